import Derived.Test.YtikjhandhgfohaaShort
set_option linter.unusedVariables false
set_option linter.unusedSimpArgs false
namespace Go.Proofs.Ytikjhandhgfohaa
/-! ### short forms: what is read as one is one -/
theorem rdS_canon : ∀ (l : List UInt8) (j acc y k : Nat), j ≤ 9 → rdS l j acc = some (y, k) → ∃ x, y = acc + x * 2 ^ (7 * j) ∧ j < k ∧ k ≤ 10 ∧ k - j ≤ l.length ∧ l.take (k - j) = shortL x ∧ x < 2 ^ (64 - 7 * j) ∧ (0 < j → 0 < x)
  | [], j, acc, y, k, _, h => by simp [rdS] at h
  | b :: l, j, acc, y, k, hj, h => by
    have hb := b.toNat_lt
    rw [rdS] at h
    split at h
    · cases h
    · rename_i h9
      split at h
      · rename_i h1
        injection h with h
        injection h with h2 h3
        refine ⟨b.toNat, by rw [← h2, Nat.mod_eq_of_lt h1], by omega, by omega, by simp; omega, ?_, ?_, fun h0 => ?_⟩
        · rw [shortL_one h1, show k - j = 1 by omega]
          simp
        · by_cases e : j = 9
          · subst e
            simp; omega
          · have : (2 : Nat) ^ 8 ≤ 2 ^ (64 - 7 * j) := Nat.pow_le_pow_right (by decide) (by omega)
            omega
        · apply Classical.byContradiction
          intro hc
          exact h9 (.inr ⟨h0, by omega⟩)
      · rename_i h1
        have hj9 : j < 9 := by
          rcases Nat.lt_or_ge j 9 with h2 | h2
          · exact h2
          · exact absurd (.inl ⟨by omega, by omega⟩) h9
        obtain ⟨x, e1, e2, e3, e4, e5, e6, e7⟩ := rdS_canon l (j + 1) _ y k (by omega) h
        have hp : 2 ^ (64 - 7 * j) = 128 * 2 ^ (64 - 7 * (j + 1)) := by
          rw [show 64 - 7 * j = 7 + (64 - 7 * (j + 1)) by omega, Nat.pow_add]
        have hx0 := e7 (by omega)
        refine ⟨b.toNat % 128 + 128 * x, ?_, by omega, e3, by simp; omega, ?_, by rw [hp]; omega, fun _ => by omega⟩
        · rw [e1, show 7 * (j + 1) = 7 + 7 * j by omega, Nat.pow_add, Nat.add_mul, Nat.add_assoc, show (2 : Nat) ^ 7 = 128 by decide, Nat.mul_comm 128 x, Nat.mul_assoc]
        · rw [show k - j = (k - (j + 1)) + 1 by omega, List.take_succ_cons, e5, shortL_more (x := b.toNat % 128 + 128 * x) (by omega)]
          congr 1
          · have : (b.toNat % 128 + 128 * x) % 128 + 128 = b.toNat := by omega
            rw [this]
            simp
          · rw [show (b.toNat % 128 + 128 * x) / 128 = x by omega]
/-- the bytes that are read as a number are its short form -/
theorem rdS_form {l : List UInt8} {x k : Nat} (h : rdS l 0 0 = some (x, k)) : 0 < k ∧ k ≤ 10 ∧ k ≤ l.length ∧ l.take k = shortL x ∧ x < 18446744073709551616 ∧ (shortL x).length = k := by
  obtain ⟨y, e1, e2, e3, e4, e5, e6, _⟩ := rdS_canon l 0 0 x k (by omega) h
  have e : y = x := by simpa using e1.symm
  subst e
  have e5 : l.take k = shortL y := by simpa using e5
  exact ⟨e2, e3, by omega, e5, by simpa using e6, by rw [← e5, List.length_take]; omega⟩
/-- and a short form that stands at the front is read -/
theorem rdS_iff (l : List UInt8) (x k : Nat) : rdS l 0 0 = some (x, k) ↔ (x < 18446744073709551616 ∧ (shortL x).length = k ∧ k ≤ l.length ∧ l.take k = shortL x) := by
  constructor
  · intro h
    obtain ⟨_, _, h3, h4, h5, h6⟩ := rdS_form h
    exact ⟨h5, h6, h3, h4⟩
  · rintro ⟨h1, h2, h3, h4⟩
    have e : l = shortL x ++ l.drop k := by rw [← h4, List.take_append_drop]
    rw [e, rdS_short x h1, h2]
/-! ### the document's way -/
/-- the number that n bytes would mean -/
def meantN : List UInt8 → Nat
  | [] => 0
  | c :: l => c.toNat % 128 + 128 * meantN l
theorem meantN_short (x : Nat) : meantN (shortL x) = x := by
  induction x using Nat.strongRecOn with
  | ind x ih =>
    by_cases h : x < 128
    · rw [shortL_one h]
      simp [meantN]; omega
    · rw [shortL_more h, meantN, ih _ (by omega)]
      simp; omega
/-- does the n-th try find it? -/
def shortOK (l : List UInt8) (n : Nat) : Prop := (shortL (meantN (l.take n) % 18446744073709551616)).length = n ∧ n ≤ l.length ∧ l.take n = shortL (meantN (l.take n) % 18446744073709551616)
theorem shortOK_rdS {l : List UInt8} {n : Nat} (h : shortOK l n) : rdS l 0 0 = some (meantN (l.take n) % 18446744073709551616, n) := by
  rw [rdS_iff]
  exact ⟨Nat.mod_lt _ (by decide), h.1, h.2.1, h.2.2⟩
theorem rdS_shortOK {l : List UInt8} {x n : Nat} (h : rdS l 0 0 = some (x, n)) : shortOK l n ∧ meantN (l.take n) % 18446744073709551616 = x := by
  obtain ⟨_, _, h3, h4, h5, h6⟩ := rdS_form h
  have e : meantN (l.take n) % 18446744073709551616 = x := by rw [h4, meantN_short, Nat.mod_eq_of_lt h5]
  refine ⟨⟨?_, h3, ?_⟩, e⟩
  · rw [e, h6]
  · rw [e, h4]
end Go.Proofs.Ytikjhandhgfohaa
