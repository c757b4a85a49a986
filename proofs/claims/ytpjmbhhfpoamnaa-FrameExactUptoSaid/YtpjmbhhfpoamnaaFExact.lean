import Derived.Test.YtpjmbhhfpoamnaaPlays13
import Derived.Test.YtpjmbhhfpoamnaaOpenF
set_option linter.unusedVariables false
set_option linter.unusedSimpArgs false
namespace Go.Proofs.Ytpjmbhhfpoamnaa
open Go.RowKit
theorem Shf.startF {W w : World} {p N : Nat} (hb : w.heap[p]? = some (.cells #[.slice none 0 0, .slice none 0 0] 90 (0, 0))) (hB : Below W.heap.size W w) (hp : W.heap.size ≤ p) : Shf W w p [p] [] [] [] N :=
  ⟨⟨_, _, hb, World.ownsRow_nil .., World.ownsRow_nil .., fun b e => (by cases e), fun b e => (by cases e), fun i v b e => (by simp at e), fun i l e => (by simp at e)⟩, Many.nil _ _ _ _, rfl, hB, hp, by simp, fun x hx => by simp at hx; subst hx; exact lt_of_block hb, by simp⟩
theorem le_tot (sz : Nat → Nat) : ∀ j, j ≤ tot sz j
  | 0 => Nat.le_refl _
  | j + 1 => by have := le_tot sz j; rw [tot]; omega
set_option maxRecDepth 100000 in
set_option maxHeartbeats 3200000 in
theorem FrameExact_walk (W : World) {A : Option Addr} {n c : Nat} {vs : List Value} {sz : Nat → Nat} (h : Ops13 W A n c vs sz) (htot : tot sz n ≤ 1048576) :
    Calls Try.prog 15 #[.slice A n c] W fun e w' => e = .returned (.bool true) ∧ Below W.heap.size W w' := by
  have n1 := h.sl.le; have n2 := h.sl.max
  have hn : n ≤ 1048576 := Nat.le_trans (le_tot sz n) htot
  have hcost : ∀ k, k ≤ 2 * n → cost sz n k ≤ 8388608 := fun k hk => by have := cost_le sz n k hk; omega
  have HCost := Lib.hid hcost
  clear hcost htot
  obtain ⟨W1, hW1⟩ : ∃ W1, W1 = W.alloc (.cells #[.slice none 0 0, .slice none 0 0] 90) := ⟨_, rfl⟩
  have hb := heap_alloc_new W (.cells #[.slice none 0 0, .slice none 0 0] 90)
  rw [← hW1] at hb
  have hB : Below W.heap.size W W1 := by rw [hW1]; exact (Below.refl _ _).alloc (Nat.le_refl _) _
  have hS := Shf.startF (W := W) (N := 300000) hb hB (Nat.le_refl _)
  have hx := Sum0 W1
  have hba : Below W1.heap.size W1 (W1.alloc (.cells #[.int .u8 0] 5)) := (Below.refl _ _).alloc (Nat.le_refl _) _
  rw [show W1.heap.size = W.heap.size + 1 by rw [hW1]; simp] at hx
  have HX := Lib.hid (And.intro hx (hS.then_ hba))
  clear hx hS hba hB hb
  go_enter Try.func15, Try.ntmps15
  go_wp2_with (rw [← hW1])
  refine HX.out.1.mono ?_
  rintro e w2 ⟨⟨r, hr, rfl⟩, rfl⟩
  have i0 : ((r : Int) == 0) = false := by simp; omega
  have hw2 : IntKind.i64.wrap (2 * (n : Int)) = 2 * (n : Int) := by rw [IntKind.wrap_i64]; omega
  obtain ⟨w2, hw2'⟩ : ∃ w2, w2 = W1.alloc (.cells #[.int .u8 0] 5) := ⟨_, rfl⟩
  have H2 : Hid (Shf W w2 W.heap.size [W.heap.size] [] [] [] 300000) := Lib.hid (by rw [hw2']; exact HX.out.2)
  rw [← hw2']
  clear hW1 hw2' HX
  go_wp2_with fail
  go_loopw [4] (fun i wr => ∃ (k : Nat) (G : List Nat) (vs' ws' : List Value) (ls' : List (List UInt8)), k ≤ 2 * n ∧ i = .int .i64 k ∧ Shf W wr W.heap.size G vs' ws' ls' 300000 ∧ vs'.length ≤ cost sz n k) (fun i _ => 2 * n - (intOf i).toNat)
  case atStart => exact ⟨0, _, _, _, _, by omega, rfl, H2.out, by simp⟩
  case round =>
    obtain ⟨k, G, vs', ws', ls', hk, rfl, hS, hv⟩ := hrel
    by_cases hlt : k < 2 * n
    · obtain ⟨b, off, rfl⟩ := h.sl.form (by omega)
      obtain ⟨i, hi⟩ : ∃ i, i = k % n := ⟨_, rfl⟩
      have hin : i < n := by rw [hi]; exact Nat.mod_lt _ (by omega)
      obtain ⟨a1, c1, at_, kk, a2, m, c2, lv, l, q, hc, hX, hY⟩ := h.get i hin
      obtain ⟨s, hs⟩ : ∃ s, s = sz i := ⟨_, rfl⟩
      rw [← hs] at hc hX
      obtain ⟨c0, c1', c2', c3, c4⟩ := hc
      have c0 := cell_below c0 hS.below
      have c1' := cell_below c1' hS.below
      have c2' := cell_below c2' hS.below
      have c3 := cell_below c3 hS.below
      have c4 := cell_below c4 hS.below
      have hk0 : (0 : Int) ≤ (k : Int) := Int.natCast_nonneg _
      have hk1 : (k : Int) < 2 * (n : Int) := by omega
      have hi0 : (0 : Int) ≤ (i : Int) := Int.natCast_nonneg _
      have hi1 : (i : Int) < (n : Int) := by omega
      have hi2 : (i : Int) < (c : Int) := by omega
      have hrm : Int.tmod (k : Int) (n : Int) = (i : Int) := by rw [hi]; exact (Int.ofNat_tmod _ _).symm
      have hn0 : ((n : Int) == 0) = false := by simp; omega
      have hck : cost sz n (k + 1) = cost sz n k + (2 * s + 4) := by rw [cost, ← hi, hs]
      have hb := heap_alloc_new wr (.cells #[.slice a1 s c1, .int .i64 at_, .int .u8 (kk.toNat : Int), .slice a2 m c2, .int .i64 lv] 92)
      have hba : Below wr.heap.size wr (wr.alloc (.cells #[.slice a1 s c1, .int .i64 at_, .int .u8 (kk.toNat : Int), .slice a2 m c2, .int .i64 lv] 92)) := (Below.refl _ _).alloc (Nat.le_refl _) _
      have d0 := box_cell hb 0 _ rfl
      have d1 := box_cell hb 1 _ rfl
      have d2 := box_cell hb 2 _ rfl
      have d3 := box_cell hb 3 _ rfl
      have d4 := box_cell hb 4 _ rfl
      have hSa := hS.then_ hba
      have hcb := HCost.out k hk
      have HJ := Lib.hid (And.intro hSa (And.intro hv (And.intro hX (And.intro hY (And.intro hck hcb)))))
      clear hS hv hX hY hck hb hba hSa hcb hi hs
      by_cases hs1 : s ≤ 65536
      · have i1 : (s : Int) ≤ 65536 := by omega
        by_cases hm1 : m ≤ 65536
        · have i2 : (m : Int) ≤ 65536 := by omega
          go_wp2_with fail
          refine (plays13 _ HJ.out.1 (by decide) (by decide) (by have := HJ.out.2.1; have := HJ.out.2.2.2.2.2; omega) HJ.out.2.2.1 HJ.out.2.2.2.1 hs1 hm1 at_ kk lv).mono ?_
          rintro e w3 ⟨rfl, G3, vs3, ws3, ls3, hS3, hv3⟩
          have HN := Lib.hid (And.intro hS3 (show vs3.length ≤ cost sz n (k + 1) by rw [HJ.out.2.2.2.2.1]; have := HJ.out.2.1; omega))
          clear hS3 hv3 c0 c1' c2' c3 c4 d0 d1 d2 d3 d4
          go_wp2
          first | go_roundw | refine ⟨?rel, ?measure⟩
          case rel => exact ⟨k + 1, _, _, _, _, by omega, by go_num, HN.out.1, HN.out.2⟩
          case measure => simp [intOf]; omega
        · have i2 : decide ((m : Int) ≤ 65536) = false := decide_eq_false (by omega)
          have HN := Lib.hid (And.intro HJ.out.1 (show vs'.length ≤ cost sz n (k + 1) by rw [HJ.out.2.2.2.2.1]; have := HJ.out.2.1; omega))
          go_wp2
          first | go_roundw | refine ⟨?rel, ?measure⟩
          case rel => exact ⟨k + 1, _, _, _, _, by omega, by go_num, HN.out.1, HN.out.2⟩
          case measure => simp [intOf]; omega
      · have i1 : decide ((s : Int) ≤ 65536) = false := decide_eq_false (by omega)
        have HN := Lib.hid (And.intro HJ.out.1 (show vs'.length ≤ cost sz n (k + 1) by rw [HJ.out.2.2.2.2.1]; have := HJ.out.2.1; omega))
        go_wp2
        first | go_roundw | refine ⟨?rel, ?measure⟩
        case rel => exact ⟨k + 1, _, _, _, _, by omega, by go_num, HN.out.1, HN.out.2⟩
        case measure => simp [intOf]; omega
    · have hk1 : 2 * (n : Int) ≤ (k : Int) := by omega
      have HC := Lib.hid (held13 wr hS (by decide) (by have := HCost.out k hk; omega))
      clear hS hv
      go_wp2_with fail
      refine HC.out.mono ?_
      rintro e w3 ⟨rfl, hb3⟩
      have HB3 := Lib.hid hb3
      clear hb3
      go_wp2
      go_ret
      exact ⟨rfl, HB3.out⟩
end Go.Proofs.Ytpjmbhhfpoamnaa
