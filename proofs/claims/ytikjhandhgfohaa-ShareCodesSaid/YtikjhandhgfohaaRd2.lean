import Derived.Test.YtikjhandhgfohaaRd
set_option linter.unusedVariables false
set_option linter.unusedSimpArgs false
namespace Go.Proofs.Ytikjhandhgfohaa
open Go.RowKit
/-- a number's short form, behind j bytes of it that made x -/
def rdS : List UInt8 → Nat → Nat → Option (Nat × Nat)
  | [], _, _ => none
  | b :: l, j, x => if (j = 9 ∧ 1 < b.toNat) ∨ (0 < j ∧ b.toNat = 0) then none else if b.toNat < 128 then some (x + b.toNat % 128 * 2 ^ (7 * j), j + 1) else rdS l (j + 1) (x + b.toNat % 128 * 2 ^ (7 * j))
def ShortPost (w : World) (p : Nat) (G : List Nat) (l : List UInt8) (a f : Nat) (r : Option (Nat × Nat)) (e : Ending) (w' : World) : Prop :=
  Keep [p] w w' ∧ match r with
  | some (x, k) => e = .returned (.int .u64 (x : Int)) ∧ Rd w' p G l (a + k) f ∧ x < 18446744073709551616
  | none => e = gave 90 ∧ ∃ b, Rd w' p G l b f
theorem or_shl7 (x c s : Nat) (hs : s ≤ 63) (hx : x < 2 ^ s) (hc : c * 2 ^ s < 18446744073709551616) : bits .or .u64 (x : Int) (IntKind.u64.wrap ((c : Int) * 2 ^ s)) = ((x + c * 2 ^ s : Nat) : Int) := by
  have hx2 : x < 2 ^ 64 := Nat.lt_of_lt_of_le hx (Nat.pow_le_pow_right (by decide) (by omega))
  have e2 : ((c : Int) * 2 ^ s % 18446744073709551616) = ((c * 2 ^ s : Nat) : Int) := by
    rw [show ((c : Int) * 2 ^ s) = ((c * 2 ^ s : Nat) : Int) by simp]; omega
  rw [IntKind.wrap_u64, e2, bits_or64 _ _ hx2 hc, Nat.or_comm, Nat.mul_comm c, ← Nat.two_pow_add_eq_or_of_lt hx, Nat.add_comm]
theorem and127 (c : Nat) (hc : c < 256) : bits .and .u8 (c : Int) 127 = ((c % 128 : Nat) : Int) := by
  rw [show (127 : Int) = ((127 : Nat) : Int) from rfl, bits_and8 c 127 hc (by decide), show 127 = 2 ^ 7 - 1 from rfl, Nat.and_two_pow_sub_one_eq_mod]
theorem short_bound (c s : Nat) (h : s + 7 ≤ 64) : c % 128 * 2 ^ s < 2 ^ (s + 7) := by
  rw [Nat.pow_add, Nat.mul_comm]
  exact Nat.mul_lt_mul_of_pos_left (Nat.mod_lt _ (by decide)) (Nat.pow_pos (by decide))
set_option maxRecDepth 100000 in
set_option maxHeartbeats 1600000 in
theorem short_any (w : World) {p : Nat} {G : List Nat} {l : List UInt8} {a f : Nat} (h : Rd w p G l a f) :
    Calls Try.prog 59 #[.pointer (some ⟨p, 0, none⟩)] w (ShortPost w p G l a f (rdS (l.drop a) 0 0)) := by
  obtain ⟨R, hR⟩ : ∃ R, R = rdS (l.drop a) 0 0 := ⟨_, rfl⟩
  have HR := Lib.hid hR
  rw [← hR]
  clear hR
  have HW := Lib.hid h
  clear h
  go_enter Try.func59, Try.ntmps59
  go_wp2
  go_loopw [3, 4] (fun x s wr => ∃ (j xx sh : Nat), sh ≤ 63 ∧ Hid (sh = 7 * j) ∧ x = .int .u64 xx ∧ s = .int .i64 sh ∧ Hid (xx < 2 ^ sh) ∧ Hid (Rd wr p G l (a + j) f) ∧ Hid (Keep [p] w wr) ∧ Hid (R = rdS (l.drop (a + j)) j xx)) (fun _ s _ => 70 - (intOf s).toNat)
  case atStart => exact ⟨0, 0, 0, by omega, Lib.hid rfl, rfl, rfl, Lib.hid (by decide), HW, Lib.hid (Keep.refl _ _), HR⟩
  case round =>
    clear HW HR
    obtain ⟨j, xx, sh, hsh, hj, rfl, rfl, hxx, hrd, hk, hr⟩ := hrel
    have s0 : (0 : Int) ≤ (sh : Int) := by omega
    by_cases hlt : a + j < l.length
    · go_wp2_with (first | (at_builtin; refine Stopped.out ?_) | (at_make; refine Stopped.out ?_))
      refine (take_yes _ hrd.out 1 (by omega)).mono ?_
      rintro e w1 ⟨v, rfl, o1, hr1, hk1⟩
      obtain ⟨g, c1, rfl, _, _, _⟩ := own_form o1 (by decide)
      have g1 := own_sl' o1
      have e1 : (l.drop (a + j)).take 1 = [l[a + j]] := by rw [List.drop_eq_getElem_cons hlt]; rfl
      have e2 : l.drop (a + j) = l[a + j] :: l.drop (a + (j + 1)) := List.drop_eq_getElem_cons hlt
      rw [e1] at g1
      rw [e2] at hr
      obtain ⟨c, hc⟩ : ∃ c, c = l[a + j].toNat := ⟨_, rfl⟩
      have gc : w1.cell? ⟨g, 0, none⟩ = some (.int .u8 (c : Int)) := by
        have := g1.2.1.cell 0 (by simp)
        simpa [by8, hc] using this
      have hc256 : c < 256 := by rw [hc]; exact u8_lt _
      have hr2 : R = if (j = 9 ∧ 1 < c) ∨ (0 < j ∧ c = 0) then none else if c < 128 then some (xx + c % 128 * 2 ^ (7 * j), j + 1) else rdS (l.drop (a + (j + 1))) (j + 1) (xx + c % 128 * 2 ^ (7 * j)) := by
        rw [hr.out, hc]; rfl
      have HR := Lib.hid hr2
      have H1 := Lib.hid (And.intro hr1 (hk.out.trans hk1))
      clear hr2 hr o1 hr1 hk1 g1 e1 e2 hc hrd hk hlt
      have ha := and127 c hc256
      by_cases hbad : (j = 9 ∧ 1 < c) ∨ (0 < j ∧ c = 0)
      · have HF : Hid (R = none) := Lib.hid (by rw [HR.out, if_pos hbad])
        have q1 : ((sh : Int) == 63 && decide ((1 : Int) < c)) = decide (j = 9 ∧ 1 < c) := by
          have := hj.out
          by_cases h9 : j = 9 <;> by_cases h1 : 1 < c <;> simp [h9, h1] <;> omega
        rcases (show (sh = 63 ∧ 1 < c) ∨ (sh ≠ 63 ∧ 0 < sh ∧ c = 0) ∨ (sh = 63 ∧ c = 0) by have := hj.out; omega) with ⟨hs, hc1⟩ | ⟨hs, hs0, hc0⟩ | ⟨hs, hc0⟩
        · subst hs
          have i1 : (1 : Int) < (c : Int) := by omega
          clear q1 hbad
          go_wp2
          refine ⟨rfl, H1.out.2, ?_⟩
          rw [HF.out]
          exact ⟨rfl, _, H1.out.1⟩
        · have i1 : ((sh : Int) == 63) = false := by simp; omega
          have i2 : (0 : Int) < (sh : Int) := by omega
          subst hc0
          clear q1 hbad
          go_wp2
          refine ⟨rfl, H1.out.2, ?_⟩
          rw [HF.out]
          exact ⟨rfl, _, H1.out.1⟩
        · subst hs
          subst hc0
          clear q1 hbad
          go_wp2
          refine ⟨rfl, H1.out.2, ?_⟩
          rw [HF.out]
          exact ⟨rfl, _, H1.out.1⟩
      · have HN := Lib.hid hbad
        obtain ⟨d, hd⟩ : ∃ d, d = c % 128 := ⟨_, rfl⟩
        have hd128 : d < 128 := by omega
        rw [← hd] at ha
        have hdb : d * 2 ^ sh < 18446744073709551616 ∧ (sh ≤ 56 → xx + d * 2 ^ sh < 2 ^ (sh + 7)) ∧ xx + d * 2 ^ sh < 18446744073709551616 := by
          have h1 : sh ≤ 56 ∨ (sh = 63 ∧ d ≤ 1) := by have := hj.out; omega
          have h2 := hxx.out
          have h3 : (2 : Nat) ^ sh ≤ 2 ^ 63 := Nat.pow_le_pow_right (by decide) hsh
          rcases h1 with h1 | ⟨h1, h4⟩
          · have h5 : d * 2 ^ sh ≤ 127 * 2 ^ sh := Nat.mul_le_mul_right _ (by omega)
            have h6 : (2 : Nat) ^ (sh + 7) ≤ 2 ^ 63 := Nat.pow_le_pow_right (by decide) (by omega)
            have h7 : (2 : Nat) ^ (sh + 7) = 128 * 2 ^ sh := by rw [Nat.pow_add, Nat.mul_comm]
            refine ⟨by omega, fun _ => by omega, by omega⟩
          · have h5 : d * 2 ^ sh ≤ 1 * 2 ^ sh := Nat.mul_le_mul_right _ h4
            refine ⟨by omega, fun h => by omega, by omega⟩
        have hOr := or_shl7 xx d sh hsh hxx.out hdb.1
        obtain ⟨y, hy⟩ : ∃ y, y = xx + d * 2 ^ sh := ⟨_, rfl⟩
        have HY := Lib.hid hy
        rw [← hy] at hOr
        have HDB := Lib.hid hdb
        clear hdb hy
        rcases (show (sh = 63 ∧ c = 1) ∨ sh = 0 ∨ (sh ≠ 63 ∧ 0 < sh ∧ c ≠ 0) by have := hj.out; omega) with ⟨hs, hc1⟩ | hs | ⟨hs, hs0, hc0⟩
        · have HB : Hid (y < 18446744073709551616) := Lib.hid (by have := HDB.out.2.2; have := HY.out; omega)
          have HF : Hid (R = some (y, j + 1)) := Lib.hid (by rw [HR.out, if_neg HN.out, if_pos (by omega), ← hd, ← hj.out, HY.out])
          have i1 : ((sh : Int) == 63) = true := by simp; omega
          have i2 : decide ((1 : Int) < (c : Int)) = false := decide_eq_false (by omega)
          have i3 : (0 : Int) < (sh : Int) := by omega
          have i4 : ((c : Int) == 0) = false := by simp; omega
          have i9 : (c : Int) < 128 := by omega
          clear hd hbad hs hc1
          go_wp2
          go_ret
          refine ⟨H1.out.2, ?_⟩
          rw [HF.out]
          exact ⟨rfl, by rw [← Nat.add_assoc]; exact H1.out.1, HB.out⟩
        · have HB : Hid (y < 18446744073709551616) := Lib.hid (by have := HDB.out.2.2; have := HY.out; omega)
          have i1 : ((sh : Int) == 63) = false := by simp; omega
          have i2 : (sh : Int) < 1 := by omega
          have HS := Lib.hid hs
          clear hbad hs
          by_cases hc128 : c < 128
          · have HF : Hid (R = some (y, j + 1)) := Lib.hid (by rw [HR.out, if_neg HN.out, if_pos hc128, ← hd, ← hj.out, HY.out])
            have i9 : (c : Int) < 128 := by omega
            clear hd
            go_wp2
            go_ret
            refine ⟨H1.out.2, ?_⟩
            rw [HF.out]
            exact ⟨rfl, by rw [← Nat.add_assoc]; exact H1.out.1, HB.out⟩
          · have HF : Hid (R = rdS (l.drop (a + (j + 1))) (j + 1) y) := Lib.hid (by rw [HR.out, if_neg HN.out, if_neg hc128, ← hd, ← hj.out, HY.out])
            have i9 : decide ((c : Int) < 128) = false := decide_eq_false (by omega)
            have hsh7 : sh + 7 ≤ 63 := by have := hj.out; first | omega | (have := HS.out; omega)
            have HB2 : Hid (y < 2 ^ (sh + 7)) := Lib.hid (by have := HDB.out.2.1 (by first | omega | (have := HS.out; omega)); have := HY.out; omega)
            clear hd
            go_wp2
            first | go_roundw | refine ⟨?rel, ?measure⟩
            case rel => exact ⟨j + 1, y, sh + 7, hsh7, Lib.hid (by have := hj.out; omega), rfl, by go_num, HB2, Lib.hid (by rw [← Nat.add_assoc]; exact H1.out.1), Lib.hid H1.out.2, HF⟩
            case measure => simp [intOf]; omega
        · have HB : Hid (y < 18446744073709551616) := Lib.hid (by have := HDB.out.2.2; have := HY.out; omega)
          have i1 : ((sh : Int) == 63) = false := by simp; omega
          have i2 : (0 : Int) < (sh : Int) := by omega
          have i3 : ((c : Int) == 0) = false := by simp; omega
          clear hbad
          by_cases hc128 : c < 128
          · have HF : Hid (R = some (y, j + 1)) := Lib.hid (by rw [HR.out, if_neg HN.out, if_pos hc128, ← hd, ← hj.out, HY.out])
            have i9 : (c : Int) < 128 := by omega
            clear hd
            go_wp2
            go_ret
            refine ⟨H1.out.2, ?_⟩
            rw [HF.out]
            exact ⟨rfl, by rw [← Nat.add_assoc]; exact H1.out.1, HB.out⟩
          · have HF : Hid (R = rdS (l.drop (a + (j + 1))) (j + 1) y) := Lib.hid (by rw [HR.out, if_neg HN.out, if_neg hc128, ← hd, ← hj.out, HY.out])
            have i9 : decide ((c : Int) < 128) = false := decide_eq_false (by omega)
            have hsh7 : sh + 7 ≤ 63 := by have := hj.out; first | omega | (have := HS.out; omega)
            have HB2 : Hid (y < 2 ^ (sh + 7)) := Lib.hid (by have := HDB.out.2.1 (by first | omega | (have := HS.out; omega)); have := HY.out; omega)
            clear hd
            go_wp2
            first | go_roundw | refine ⟨?rel, ?measure⟩
            case rel => exact ⟨j + 1, y, sh + 7, hsh7, Lib.hid (by have := hj.out; omega), rfl, by go_num, HB2, Lib.hid (by rw [← Nat.add_assoc]; exact H1.out.1), Lib.hid H1.out.2, HF⟩
            case measure => simp [intOf]; omega
    · have HF : Hid (R = none) := Lib.hid (by rw [hr.out, List.drop_of_length_le (by omega)]; rfl)
      have HX := Lib.hid (And.intro hrd.out hk.out)
      go_wp2_with (first | (at_builtin; refine Stopped.out ?_) | (at_make; refine Stopped.out ?_))
      refine (take_no _ hrd.out 1 (.inr (by omega)) (by decide)).mono ?_
      rintro e w1 ⟨rfl, hd⟩
      dsimp only [gave]
      refine ⟨rfl, HX.out.2.trans (Keep.of_below hd.below [p]), ?_⟩
      rw [HF.out]
      exact ⟨rfl, _, HX.out.1.below hd.below⟩
end Go.Proofs.Ytikjhandhgfohaa
