import Derived.Test.YtdooabbeolfgfaaPl01j
import Derived.Test.YtdooabbeolfgfaaOpenOps
set_option linter.unusedVariables false
set_option linter.unusedSimpArgs false
namespace Go.Proofs.Ytdooabbeolfgfaa
open Go.RowKit
/-- a shelf at its start -/
theorem Shf.start {W w : World} {p N : Nat} (hb : w.heap[p]? = some (.cells #[.slice none 0 0, .slice none 0 0] 47 (0, 0))) (hB : Below W.heap.size W w) (hp : W.heap.size ≤ p) : Shf W w p [p] [] [] [] N :=
  ⟨⟨_, _, hb, World.ownsRow_nil .., World.ownsRow_nil .., fun b e => (by cases e), fun b e => (by cases e), fun i v b e => (by simp at e), fun i l e => (by simp at e)⟩, Many.nil _ _ _ _, rfl, hB, hp, by simp, fun x hx => by simp at hx; subst hx; exact lt_of_block hb, by simp⟩
theorem hexAB : (⟨(hexL [171]).toArray⟩ : ByteArray) = ⟨#[97, 98]⟩ := by rfl
set_option maxRecDepth 100000 in
set_option maxHeartbeats 3200000 in
theorem BitsExact_walk (W : World) {A : Option Addr} {n c : Nat} {vs : List Value} (h : Ops01 W A n c vs) (hn : n ≤ 1048576) :
    Calls Try.prog 5 #[.slice A n c] W fun e w' => e = .returned (.bool true) ∧ Below W.heap.size W w' := by
  have n1 := h.sl.le; have n2 := h.sl.max
  obtain ⟨W1, hW1⟩ : ∃ W1, W1 = W.alloc (.cells #[.slice none 0 0, .slice none 0 0] 47) := ⟨_, rfl⟩
  have hb := heap_alloc_new W (.cells #[.slice none 0 0, .slice none 0 0] 47)
  rw [← hW1] at hb
  have hB : Below W.heap.size W W1 := by rw [hW1]; exact (Below.refl _ _).alloc (Nat.le_refl _) _
  have hS := Shf.start (W := W) (N := 10000) hb hB (Nat.le_refl _)
  have hx := Hex_any (W1.alloc (.cells #[.int .u8 171] 5)) (l := [171]) (Sl.fresh W1 [.int .u8 171] 5 1 1 rfl (by decide)) (by decide)
  rw [hexAB] at hx
  have hba : Below W1.heap.size W1 (W1.alloc (.cells #[.int .u8 171] 5)) := (Below.refl _ _).alloc (Nat.le_refl _) _
  rw [show W1.heap.size = W.heap.size + 1 by rw [hW1]; simp] at hx
  have HX := Lib.hid (And.intro hx (And.intro hS hba))
  clear hx hS hba hB hb
  go_enter Try.func5, Try.ntmps5
  go_wp2_with (rw [← hW1])
  clear hW1
  refine HX.out.1.mono ?_
  rintro e w2 ⟨rfl, hb2⟩
  have H2 := Lib.hid (HX.out.2.1.then_ (bthen HX.out.2.2 hb2))
  clear hb2
  have hw2 : IntKind.i64.wrap (2 * (n : Int)) = 2 * (n : Int) := by rw [IntKind.wrap_i64]; omega
  go_wp2_with fail
  go_loopw [4] (fun i wr => ∃ (k : Nat) (G : List Nat) (vs' ws' : List Value) (ls' : List (List UInt8)), k ≤ 2 * n ∧ i = .int .i64 k ∧ Shf W wr W.heap.size G vs' ws' ls' 10000 ∧ vs'.length ≤ 4 * k) (fun i _ => 2 * n - (intOf i).toNat)
  case atStart => exact ⟨0, _, _, _, _, by omega, rfl, H2.out, by simp⟩
  case round =>
    obtain ⟨k, G, vs', ws', ls', hk, rfl, hS, hv⟩ := hrel
    by_cases hlt : k < 2 * n
    · obtain ⟨b, off, rfl⟩ := h.sl.form (by omega)
      obtain ⟨i, hi⟩ : ∃ i, i = k % n := ⟨_, rfl⟩
      have hin : i < n := by rw [hi]; exact Nat.mod_lt _ (by omega)
      obtain ⟨kd, a, l, nn, x, y, ll, s, xa, xn, xc, ya, yn, yc, pa, pn, pc, pv, hc, hX, hY, hP, hbd, ha, hl, hnn, hkd⟩ := h.get i hin
      obtain ⟨c0, c1, c2, c3, c4, c5, c6, c7⟩ := hc
      have c0 := cell_below c0 hS.below
      have c1 := cell_below c1 hS.below
      have c2 := cell_below c2 hS.below
      have c3 := cell_below c3 hS.below
      have c4 := cell_below c4 hS.below
      have c5 := cell_below c5 hS.below
      have c6 := cell_below c6 hS.below
      have c7 := cell_below c7 hS.below
      have hk0 : (0 : Int) ≤ (k : Int) := Int.natCast_nonneg _
      have hk1 : (k : Int) < 2 * (n : Int) := by omega
      have hi0 : (0 : Int) ≤ (i : Int) := Int.natCast_nonneg _
      have hi1 : (i : Int) < (n : Int) := by omega
      have hi2 : (i : Int) < (c : Int) := by omega
      have hrm : Int.tmod (k : Int) (n : Int) = (i : Int) := by rw [hi]; exact (Int.ofNat_tmod _ _).symm
      have hn0 : ((n : Int) == 0) = false := by simp; omega
      have HJ := Lib.hid (And.intro hS (And.intro hv (And.intro hX (And.intro hY (And.intro hP (And.intro hbd (And.intro ha (And.intro hl (And.intro hnn hkd)))))))))
      clear hS hv hX hY hP hbd ha hl hnn hkd hi
      go_wp2_with fail
      refine (plays01 wr HJ.out.1 (by decide) (by decide) (by have := HJ.out.2.1; omega) kd a l HJ.out.2.2.2.2.2.2.1 HJ.out.2.2.2.2.2.2.2.1 nn HJ.out.2.2.2.2.2.2.2.2.1.1 HJ.out.2.2.2.2.2.2.2.2.1.2 xa ya pa xn xc yn yc pn pc s HJ.out.2.2.1 HJ.out.2.2.2.1 HJ.out.2.2.2.2.1 HJ.out.2.2.2.2.2.1.1 HJ.out.2.2.2.2.2.1.2.1 HJ.out.2.2.2.2.2.1.2.2.2 (by have := HJ.out.2.2.2.2.2.1.2.2.1; omega)).mono ?_
      rintro e w3 ⟨rfl, G3, vs3, ws3, ls3, hS3, hv3⟩
      have HN := Lib.hid (And.intro hS3 (show vs3.length ≤ 4 * (k + 1) by have := HJ.out.2.1; omega))
      clear hS3 hv3 c0 c1 c2 c3 c4 c5 c6 c7
      go_wp2
      first | go_roundw | refine ⟨?rel, ?measure⟩
      case rel => exact ⟨k + 1, _, _, _, _, by omega, by go_num, HN.out.1, HN.out.2⟩
      case measure => simp [intOf]; omega
    · have hk1 : 2 * (n : Int) ≤ (k : Int) := by omega
      have HC := Lib.hid (held01 wr hS (by decide) (by omega))
      clear hS hv
      go_wp2_with fail
      refine HC.out.mono ?_
      rintro e w3 ⟨rfl, hb3⟩
      have HB3 := Lib.hid hb3
      clear hb3
      go_wp2
      go_ret
      exact ⟨rfl, HB3.out⟩
end Go.Proofs.Ytdooabbeolfgfaa
