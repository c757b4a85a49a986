import Derived.Test.YtikjhandhgfohaaBits2
import Derived.Deep.RegionHeld3
set_option linter.unusedVariables false
set_option linter.unusedSimpArgs false
namespace Go.Proofs.Ytikjhandhgfohaa
open Go.RowKit

theorem xor_byte (x y : UInt8) : bits .xor .u8 (x.toNat : Int) (y.toNat : Int) = ((x ^^^ y).toNat : Int) := by
  rw [bits_xor8 _ _ (u8_lt x) (u8_lt y), UInt8.toNat_xor]
theorem nat_xor_zero (x y : Nat) : x ^^^ y = 0 ↔ x = y := by
  constructor
  · intro h
    have := congrArg (fun z => z ^^^ y) h
    simpa [Nat.xor_assoc] using this
  · rintro rfl; simp
theorem xor_bt (l r : List UInt8) (k : Nat) : bits .xor .u8 (bt l k : Int) (bt r k : Int) = ((bt l k ^^^ bt r k : Nat) : Int) := bits_xor8 _ _ (bt_lt l k) (bt_lt r k)
set_option maxHeartbeats 400000 in
theorem Equal_any (w : World) {A B : Option Addr} {n c m d : Nat} {l r : List UInt8} (ha : Sl w 1 A n c (l.map by8)) (hb : Sl w 1 B m d (r.map by8)) :
    Calls Try.prog 43 #[.slice A n c, .slice B m d] w fun e w' => e = .returned (.bool (decide (l = r))) ∧ Drawn w w' := by
  have hla : l.length = n := by simpa using ha.len
  have hlb : r.length = m := by simpa using hb.len
  have h1 := ha.le; have h2 := ha.max; have h3 := hb.le; have h4 := hb.max
  by_cases hnm : n = m
  · subst hnm
    have HA := Lib.hid hla; have HB := Lib.hid hlb
    clear hla hlb
    have hne : ((n : Int) != n) = false := by simp
    go_enter Try.func43, Try.ntmps43
    go_wp2
    go_loopw [5, 14] (fun u i wr => ∃ k x : Nat, k ≤ n ∧ i = .int .i64 k ∧ u = .int .u8 x ∧ x < 256 ∧ Hid (x = 0 ↔ l.take k = r.take k) ∧ Drawn w wr) (fun _ i _ => n - (intOf i).toNat)
    case atStart => exact ⟨0, 0, by omega, rfl, rfl, by omega, Lib.hid (by simp), Drawn.refl _⟩
    case round =>
      obtain ⟨k, x, hk, rfl, rfl, hx, heq, hw⟩ := hrel
      obtain ⟨q, rfl⟩ := hw.out
      by_cases hlt : k < n
      · obtain ⟨b, off, rfl⟩ := ha.form (by omega)
        obtain ⟨b2, off2, rfl⟩ := hb.form (by omega)
        have ga := ha.byte k hlt
        have gb := hb.byte k hlt
        have hk0 : (0 : Int) ≤ (k : Int) := Int.natCast_nonneg _
        have hk1 : (k : Int) < (n : Int) := by omega
        have Ta := Lib.hid (take_bt l k (by rw [HA.out]; exact hlt))
        have Tb := Lib.hid (take_bt r k (by rw [HB.out]; exact hlt))
        have e1 := xor_bt l r k
        obtain ⟨y, hy⟩ : ∃ y : Nat, y = bt l k ^^^ bt r k := ⟨_, rfl⟩
        have hy2 : y < 256 := by rw [hy]; exact Nat.xor_lt_two_pow (n := 8) (bt_lt l k) (bt_lt r k)
        have HY : Hid (y = 0 ↔ bt l k = bt r k) := Lib.hid (by rw [hy]; exact nat_xor_zero _ _)
        rw [← hy] at e1
        clear hy
        have e2 := bits_or8 x y hx hy2
        obtain ⟨z, hz⟩ : ∃ z : Nat, z = x ||| y := ⟨_, rfl⟩
        have hz2 : z < 256 := by rw [hz]; exact Nat.or_lt_two_pow (n := 8) hx hy2
        have HZ : Hid (z = 0 ↔ x = 0 ∧ y = 0) := Lib.hid (by rw [hz]; exact Nat.or_eq_zero_iff)
        rw [← hz] at e2
        clear hz
        go_wp2
        go_quiet (fail)
        go_wp2
        go_roundw
        case rel =>
          refine ⟨k + 1, z, by omega, by go_num, rfl, hz2, Lib.hid ?_, (by first | exact ⟨⟨_, rfl⟩⟩ | exact ⟨⟨_, World.drewN_drewN ..⟩⟩)⟩
          rw [HZ.out, HY.out, heq.out, Ta.out, Tb.out]
          constructor
          · rintro ⟨h1, h2⟩; rw [h1, h2]
          · intro h
            have := List.append_inj h (by simp [HA.out, HB.out])
            refine ⟨this.1, ?_⟩
            have h5 := congrArg (fun l => (l.getD 0 0).toNat) this.2
            simpa [Nat.mod_eq_of_lt (bt_lt l k), Nat.mod_eq_of_lt (bt_lt r k)] using h5
        case measure => simp [intOf]; omega
      · obtain rfl : k = n := by omega
        have HD : Hid (((x : Int) == 0) = decide (l = r)) := Lib.hid (by
          rw [Bool.eq_iff_iff]
          have h6 : (x : Int) = 0 ↔ x = 0 := by omega
          simp only [beq_iff_eq, decide_eq_true_eq, h6]
          rw [heq.out, List.take_of_length_le (Nat.le_of_eq HA.out), List.take_of_length_le (Nat.le_of_eq HB.out)])
        go_wp2
        go_ret
        exact ⟨by (rw [← HD.out]) <;> rfl, hw⟩
  · have hne : ((n : Int) != m) = true := by simp; omega
    have HD : Hid (decide (l = r) = false) := Lib.hid (decide_eq_false (by rintro rfl; omega))
    clear hla hlb hnm
    go_enter Try.func43, Try.ntmps43
    go_wp2
    go_ret
    exact ⟨by (rw [HD.out]) <;> rfl, Drawn.refl _⟩

/-! ### Xor -/
def xork (l r : List UInt8) (n k : Nat) : List UInt8 := List.zipWith (· ^^^ ·) (l.take k) (r.take k) ++ List.replicate (n - k) 0
theorem xork_set (l r : List UInt8) (n k : Nat) (hl : l.length = n) (hr : r.length = n) (h : k < n) :
    ((xork l r n k).map by8).set k (.int .u8 ((bt l k ^^^ bt r k : Nat) : Int)) = (xork l r n (k + 1)).map by8 := by
  have e : Value.int .u8 ((bt l k ^^^ bt r k : Nat) : Int) = by8 (l[k] ^^^ r[k]) := by
    unfold by8
    rw [bt_eq l k (by omega), bt_eq r k (by omega), UInt8.toNat_xor]
  rw [e, ← List.map_set]
  congr 1
  unfold xork
  rw [List.take_succ_eq_append_getElem (by omega), List.take_succ_eq_append_getElem (by omega), List.zipWith_append (by simp; omega)]
  rw [List.set_append_right _ _ (by simp; omega)]
  have e2 : n - k = (n - (k + 1)) + 1 := by omega
  rw [e2, List.replicate_succ]
  simp [hl, hr, Nat.min_eq_left (Nat.le_of_lt h)]
end Go.Proofs.Ytikjhandhgfohaa
