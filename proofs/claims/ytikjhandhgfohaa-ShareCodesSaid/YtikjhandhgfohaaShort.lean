import Derived.Test.YtikjhandhgfohaaWriter
import Derived.Test.YtikjhandhgfohaaRd5
set_option linter.unusedVariables false
set_option linter.unusedSimpArgs false
namespace Go.Proofs.Ytikjhandhgfohaa
/-- a number's short form is read again -/
theorem rdS_shortG (x : Nat) : ∀ (j acc : Nat) (r : List UInt8), j ≤ 9 → x < 2 ^ (64 - 7 * j) → (0 < j → 0 < x) → rdS (shortL x ++ r) j acc = some (acc + x * 2 ^ (7 * j), j + (shortL x).length) := by
  induction x using Nat.strongRecOn with
  | ind x ih =>
    intro j acc r hj hx h0
    by_cases h : x < 128
    · rw [shortL_one h]
      have e : (UInt8.ofNat x).toNat = x := by simp; omega
      have h9 : ¬ ((j = 9 ∧ 1 < x) ∨ (0 < j ∧ x = 0)) := by
        rintro (⟨rfl, h1⟩ | ⟨h1, h2⟩)
        · simp at hx; omega
        · have := h0 h1; omega
      show (if (j = 9 ∧ 1 < (UInt8.ofNat x).toNat) ∨ (0 < j ∧ (UInt8.ofNat x).toNat = 0) then none else if (UInt8.ofNat x).toNat < 128 then some (acc + (UInt8.ofNat x).toNat % 128 * 2 ^ (7 * j), j + 1) else _) = _
      rw [e, if_neg h9, if_pos h, Nat.mod_eq_of_lt h]
      rfl
    · rw [shortL_more h]
      have e : (UInt8.ofNat (x % 128 + 128)).toNat = x % 128 + 128 := by simp; omega
      have hj9 : j < 9 := by
        rcases Nat.lt_or_ge j 9 with h1 | h1
        · exact h1
        · obtain rfl : j = 9 := by omega
          simp at hx; omega
      have h9 : ¬ ((j = 9 ∧ 1 < x % 128 + 128) ∨ (0 < j ∧ x % 128 + 128 = 0)) := by omega
      show (if (j = 9 ∧ 1 < (UInt8.ofNat (x % 128 + 128)).toNat) ∨ (0 < j ∧ (UInt8.ofNat (x % 128 + 128)).toNat = 0) then none else if (UInt8.ofNat (x % 128 + 128)).toNat < 128 then _ else rdS (shortL (x / 128) ++ r) (j + 1) (acc + (UInt8.ofNat (x % 128 + 128)).toNat % 128 * 2 ^ (7 * j))) = _
      have hp : 2 ^ (64 - 7 * j) = 128 * 2 ^ (64 - 7 * (j + 1)) := by
        rw [show 64 - 7 * j = 7 + (64 - 7 * (j + 1)) by omega, Nat.pow_add]
      rw [e, if_neg h9, if_neg (by omega), ih (x / 128) (by omega) (j + 1) _ r (by omega) (by rw [hp] at hx; omega) (fun _ => by omega)]
      have e2 : (x % 128 + 128) % 128 = x % 128 := by omega
      have e3 : 2 ^ (7 * (j + 1)) = 128 * 2 ^ (7 * j) := by rw [show 7 * (j + 1) = 7 + 7 * j by omega, Nat.pow_add]
      rw [e2, e3]
      congr 1
      congr 1
      · have h4 : x = x % 128 + 128 * (x / 128) := by omega
        have h5 : x * 2 ^ (7 * j) = x % 128 * 2 ^ (7 * j) + x / 128 * (128 * 2 ^ (7 * j)) := by
          conv => lhs; rw [h4]
          rw [Nat.add_mul, Nat.mul_comm 128 (x / 128), Nat.mul_assoc]
        omega
      · simp; omega
theorem rdS_short (x : Nat) (hx : x < 18446744073709551616) (r : List UInt8) : rdS (shortL x ++ r) 0 0 = some (x, (shortL x).length) := by
  have := rdS_shortG x 0 0 r (by omega) (by simpa using hx) (fun h => by omega)
  simpa using this
/-- bytes behind their number are read again -/
theorem bytR_back (p a r : List UInt8) (most : Int) (ha : a.length < 18446744073709551616) (hm : (a.length : Int) ≤ most) : bytR (p ++ (shortL a.length ++ a ++ r)) p.length most = .ok ((shortL a.length).length + a.length) ∧ bytV (p ++ (shortL a.length ++ a ++ r)) p.length most = a := by
  have e1 : (p ++ (shortL a.length ++ a ++ r)).drop p.length = shortL a.length ++ (a ++ r) := by simp
  have e2 : cntR (rdS ((p ++ (shortL a.length ++ a ++ r)).drop p.length) 0 0) most = .ok (a.length, (shortL a.length).length) := by
    rw [e1, rdS_short _ ha, cntR]
    try simp only
    rw [if_neg (by omega)]
  refine ⟨?_, ?_⟩
  · unfold bytR
    rw [e2]
    try simp only
    rw [if_pos (by simp; omega)]
  · unfold bytV
    rw [e2]
    try simp only
    rw [show (p ++ (shortL a.length ++ a ++ r)).drop (p.length + (shortL a.length).length) = a ++ r by
      rw [← List.drop_drop, e1]; simp]
    simp
end Go.Proofs.Ytikjhandhgfohaa
