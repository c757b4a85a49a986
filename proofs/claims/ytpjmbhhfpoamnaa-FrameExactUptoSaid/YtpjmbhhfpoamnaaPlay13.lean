import Derived.Test.YtpjmbhhfpoamnaaHeldW
import Derived.Test.YtpjmbhhfpoamnaaFrJoin
import Derived.Test.YtpjmbhhfpoamnaaBits2
set_option linter.unusedVariables false
set_option linter.unusedSimpArgs false
namespace Go.Proofs.Ytpjmbhhfpoamnaa
open Go.RowKit
def room13 (l : List UInt8) : List UInt8 := l ++ List.replicate 70 90
theorem copied13 (w : World) {A : Option Addr} {n c : Nat} {l : List UInt8} (h : Sl w 1 A n c (l.map by8)) (hn : n ≤ 100000000) :
    Calls Try.prog 102 #[.slice A n c] w fun e w' => ∃ v, e = .returned v ∧ w'.ownsRow w.heap.size 5 1 v n (l.map by8) ∧ Below w.heap.size w w' := by
  go_enter Try.func102, Try.ntmps102
  go_wp2_with (first | (at_builtin; refine Stopped.out ?_) | (at_make; refine Stopped.out ?_))
  refine Stopped.mk (apk_own EBj rfl (.tmp 4) (.tmp 5) rfl rfl (World.ownsRow_nil (base := w.heap.size) _ _ _) rfl h (u8_one _) (by simp only [maxLen]; omega) (by omega) (Nat.le_refl _) ?_)
  intro v1 w1 o1 hg1 _
  have hb1 : Below w.heap.size w w1 := (Below.refl _ _).grown hg1 (Nat.le_refl _) (fun k hk => by cases hk)
  rw [Nat.zero_add, List.nil_append] at o1
  go_wp2
  go_ret
  exact ⟨v1, rfl, o1, hb1⟩
set_option maxHeartbeats 800000 in
theorem roomy13 (w : World) {A : Option Addr} {n c : Nat} {l : List UInt8} (h : Sl w 1 A n c (l.map by8)) (hn : n ≤ 100000000) :
    Calls Try.prog 95 #[.slice A n c] w fun e w' => ∃ v, e = .returned v ∧ w'.ownsRow w.heap.size 5 1 v (n + 70) ((room13 l).map by8) ∧ Below w.heap.size w w' := by
  go_enter Try.func95, Try.ntmps95
  go_wp2_with (first | (at_builtin; refine Stopped.out ?_) | (at_make; refine Stopped.out ?_))
  refine Stopped.mk (apk_own EBj rfl (.tmp 5) (.tmp 6) rfl rfl (World.ownsRow_nil (base := w.heap.size) _ _ _) rfl h (u8_one _) (by simp only [maxLen]; omega) (by omega) (Nat.le_refl _) ?_)
  intro v1 w1 o1 hg1 _
  have hb1 : Below w.heap.size w w1 := (Below.refl _ _).grown hg1 (Nat.le_refl _) (fun k hk => by cases hk)
  rw [Nat.zero_add, List.nil_append] at o1
  have H1 := Lib.hid (And.intro o1 hb1)
  clear o1 hg1 hb1 h
  go_wp2
  go_loopw [3, 4] (fun o i wr => ∃ (j : Nat) (v : Value), j ≤ 70 ∧ i = .int .i64 j ∧ o = v ∧ wr.ownsRow w.heap.size 5 1 v (n + j) ((l ++ List.replicate j 90).map by8) ∧ Below w.heap.size w wr) (fun _ i _ => 70 - (intOf i).toNat)
  case atStart => exact ⟨0, _, by omega, rfl, rfl, by simpa using H1.out.1, H1.out.2⟩
  case round =>
    clear H1
    obtain ⟨j, v, hj, rfl, rfl, hst, hbl⟩ := hrel
    by_cases hlt : j < 70
    · have hj0 : (0 : Int) ≤ (j : Int) := Int.natCast_nonneg _
      have hj1 : (j : Int) < 70 := by omega
      go_wp2_with (first | (at_builtin; refine Stopped.out ?_) | (at_make; refine Stopped.out ?_))
      refine Stopped.mk (apk_own EBj rfl (.tmp 12) (.tmp 13) rfl rfl (hst.alloc _) rfl (Sl.fresh wr [_] 5 1 1 rfl (by decide)) (by simp [Value.oneCell']) (by simp only [maxLen]; omega) (by omega) (by have := hbl.size; simp; omega) ?_)
      intro v2 w2 hst2 hg2 _
      have HN := Lib.hid (And.intro hst2 ((hbl.alloc hbl.size _).grown hg2 (by have := hbl.size; simp; omega) (fun k hk => (hst.lt k hk).1)))
      clear hst hbl hst2 hg2
      go_wp2
      first | go_roundw | refine ⟨?rel, ?measure⟩
      case rel => exact ⟨j + 1, v2, by omega, by go_num, rfl, by rw [List.replicate_succ', ← List.append_assoc, List.map_append, ← Nat.add_assoc]; exact HN.out.1, HN.out.2⟩
      case measure => simp [intOf]; omega
    · have HJ := Lib.hid (show j = 70 by omega)
      have HN := Lib.hid (And.intro hst hbl)
      have i1 : (70 : Int) ≤ (j : Int) := by omega
      clear hst hbl
      go_wp2
      go_ret
      exact ⟨_, rfl, by rw [← HJ.out]; have := HN.out.1; rw [HJ.out] at this ⊢; exact this, HN.out.2⟩
set_option maxHeartbeats 800000 in
/-- bytes of a row are written over in their place -/
theorem turn13 {B N cap g : Nat} (w : World) {L : List UInt8} (o : w.ownsRow B 5 1 (.slice (some ⟨g, 0, none⟩) N cap) N (L.map by8)) (a n c : Nat) (han : a + n ≤ N) (hc : n ≤ c) (hc2 : c ≤ 9223372036854775807) :
    Calls Try.prog 101 #[.slice (some ⟨g, a, none⟩) n c] w fun e w' => e = .returned (.tuple #[]) ∧ ∃ L' : List UInt8, L'.length = N ∧ w'.ownsRow B 5 1 (.slice (some ⟨g, 0, none⟩) N cap) N (L'.map by8) ∧ Keep [g] w w' := by
  have hL : L.length = N := by simpa using o.1
  have H0 := Lib.hid (And.intro hL o)
  clear hL o
  go_enter Try.func101, Try.ntmps101
  go_wp2
  go_loopw [2] (fun i wr => ∃ (k : Nat) (L' : List UInt8), k ≤ n ∧ i = .int .i64 k ∧ L'.length = N ∧ wr.ownsRow B 5 1 (.slice (some ⟨g, 0, none⟩) N cap) N (L'.map by8) ∧ Keep [g] w wr) (fun i _ => n - (intOf i).toNat)
  case atStart => exact ⟨0, L, by omega, rfl, H0.out.1, H0.out.2, Keep.refl _ _⟩
  case round =>
    clear H0
    obtain ⟨k, L', hk, rfl, hL, o, kk⟩ := hrel
    by_cases hlt : k < n
    · have hk0 : (0 : Int) ≤ (k : Int) := Int.natCast_nonneg _
      have hk1 : (k : Int) < (n : Int) := by omega
      have hc0 := (own_sl' o).2.1.byte (a + k) (by omega)
      rw [Nat.zero_add] at hc0
      have hf0 := o.frozenAt (a + k)
      have hx := bt_lt L' (a + k)
      obtain ⟨x, hxe⟩ : ∃ x, x = bt L' (a + k) := ⟨_, rfl⟩
      rw [← hxe] at hc0 hx
      have hv : bits .xor .u8 (x : Int) 5 = ((x ^^^ 5 : Nat) : Int) := by rw [show (5 : Int) = ((5 : Nat) : Int) from rfl, bits_xor8 _ _ hx (by decide)]
      have hxl : x ^^^ 5 < 256 := Nat.xor_lt_two_pow (n := 8) hx (by decide)
      have ho := (o.stored (a + k) (.int .u8 ((x ^^^ 5 : Nat) : Int))).1
      have e5 : (L'.map by8).set (a + k) (.int .u8 ((x ^^^ 5 : Nat) : Int)) = (L'.set (a + k) (UInt8.ofNat (x ^^^ 5))).map by8 := by
        rw [List.map_set]
        congr 1
        simp only [by8, UInt8.toNat_ofNat', Nat.mod_eq_of_lt hxl]
      rw [e5] at ho
      have HN := Lib.hid (And.intro ho (And.intro (kk.setCell (p := ⟨g, a + k, none⟩) (.inl (by simp)) (.int .u8 ((x ^^^ 5 : Nat) : Int))) hL))
      clear o kk ho e5 hxe hL
      go_wp2
      first | go_roundw | refine ⟨?rel, ?measure⟩
      case rel => exact ⟨k + 1, L'.set (a + k) (UInt8.ofNat (x ^^^ 5)), by omega, by go_num, by rw [List.length_set]; exact HN.out.2.2, HN.out.1, HN.out.2.1⟩
      case measure => simp [intOf]; omega
    · have HN := Lib.hid (And.intro hL (And.intro o kk))
      have i1 : (n : Int) ≤ (k : Int) := by omega
      clear hL o kk
      go_wp2
      go_end0
      exact ⟨rfl, L', HN.out.1, HN.out.2.1, HN.out.2.2⟩
end Go.Proofs.Ytpjmbhhfpoamnaa
