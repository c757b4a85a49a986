import Derived.Test.YtpjmbhhfpoamnaaDoes13
set_option linter.unusedVariables false
set_option linter.unusedSimpArgs false
namespace Go.Proofs.Ytpjmbhhfpoamnaa
open Go.RowKit
/-! ### what steps keep, and that writes told do not matter -/
structure FOkN (N : Nat) (s : FSt) : Prop where
  size : s.size ≤ 1048576
  b0 : s.b0.length ≤ s.size
  b1 : s.b1.length ≤ s.size
  writes : s.writes ≤ N
  count : s.count ≤ N
  armed : s.armed.length ≤ 64
  vals : ∀ c ∈ s.armed, c.1 ≤ 1000000 ∧ c.2 ≤ 1048576
theorem FOkN.ok {N : Nat} {s : FSt} (h : FOkN N s) (hN : N ≤ 4611686018427387904) : FOk s :=
  ⟨h.size, h.b0, h.b1, Nat.le_trans h.writes hN, Nat.le_trans h.count hN, h.armed, h.vals⟩
theorem FOkN.more {N M : Nat} {s : FSt} (h : FOkN N s) (hN : N ≤ M) : FOkN M s :=
  ⟨h.size, h.b0, h.b1, Nat.le_trans h.writes hN, Nat.le_trans h.count hN, h.armed, h.vals⟩
theorem FOkN.new (z : Int) : FOkN 0 ⟨capF z, [], [], [], 0, 0, false⟩ := ⟨capF_le z, Nat.zero_le _, Nat.zero_le _, Nat.le_refl _, Nat.le_refl _, by simp, by simp⟩
theorem FOkN.strike {N : Nat} {s : FSt} (h : FOkN N s) : FOkN (N + 1) (strikeF s) := by
  obtain ⟨sz, b0, b1, ar, ct, wr, dn⟩ := s
  obtain ⟨h1, h2, h3, h4, h5, h6, h7⟩ := h
  simp only at h1 h2 h3 h4 h5 h6 h7
  cases ar with
  | nil => exact ⟨h1, h2, h3, by simp [strikeF]; omega, by simp [strikeF]; omega, by simp [strikeF], by simp [strikeF]⟩
  | cons c r =>
    by_cases hc : ct + 1 < c.1
    · have e : strikeF ⟨sz, b0, b1, c :: r, ct, wr, dn⟩ = ⟨sz, b0, b1, c :: r, ct + 1, wr + 1, dn⟩ := by simp [strikeF, hc]
      rw [e]
      exact ⟨h1, h2, h3, by simp only; omega, by simp only; omega, h6, h7⟩
    · have e : strikeF ⟨sz, b0, b1, c :: r, ct, wr, dn⟩ = ⟨sz, b0, b1, r, 0, wr + 1, true⟩ := by simp [strikeF, hc]
      rw [e]
      exact ⟨h1, h2, h3, by simp only; omega, by simp only; omega, by simp only; have : (c :: r).length = r.length + 1 := rfl; omega, fun x hx => h7 x (List.mem_cons_of_mem _ hx)⟩
theorem FOkN.add {N : Nat} {s : FSt} (h : FOkN N s) (n : Nat) (l : List UInt8) (hl : (bankF s n).length + l.length ≤ s.size) : FOkN N (addB s n l) := by
  unfold bankF at hl
  unfold addB
  split
  · rename_i h0; rw [if_pos h0] at hl; exact ⟨h.size, by simpa using hl, h.b1, h.writes, h.count, h.armed, h.vals⟩
  · rename_i h0; rw [if_neg h0] at hl; exact ⟨h.size, h.b0, by simpa using hl, h.writes, h.count, h.armed, h.vals⟩
theorem FOkN.set {N : Nat} {s : FSt} (h : FOkN N s) (n : Nat) (l : List UInt8) (hl : l.length ≤ s.size) : FOkN N (setB s n l) := by
  unfold setB
  split
  · exact ⟨h.size, by simpa using hl, h.b1, h.writes, h.count, h.armed, h.vals⟩
  · exact ⟨h.size, h.b0, by simpa using hl, h.writes, h.count, h.armed, h.vals⟩
theorem bankF_strike (s : FSt) (n : Nat) : bankF (strikeF s) n = bankF s n := by unfold bankF; rw [strikeF_b0, strikeF_b1]
theorem eraL_len (s : FSt) (b : List UInt8) : (eraL s b).length ≤ b.length := by
  unfold eraL
  split
  · split
    · simp
    · simp; omega
  · simp
theorem addB_size (s : FSt) (n : Nat) (l : List UInt8) : (addB s n l).size = s.size := by unfold addB; split <;> rfl
theorem setB_size (s : FSt) (n : Nat) (l : List UInt8) : (setB s n l).size = s.size := by unfold setB; split <;> rfl
theorem bankF_le {N : Nat} {s : FSt} (h : FOkN N s) (n : Nat) : (bankF s n).length ≤ s.size := by unfold bankF; split; exact h.b0; exact h.b1
theorem doesF_ok {N : Nat} {s : FSt} (h : FOkN N s) (t : St12) : FOkN (N + 1) (doesF s t).1 ∧ (doesF s t).1.size = s.size := by
  have hm := h.more (Nat.le_succ N)
  unfold doesF
  split
  · unfold appF
    split
    · exact ⟨hm, rfl⟩
    · split
      · exact ⟨hm, rfl⟩
      · rename_i hf
        refine ⟨h.strike.add _ _ ?_, ?_⟩
        · rw [bankF_strike, strikeF_size]
          split
          · simp; omega
          · omega
        · rw [addB_size, strikeF_size]
  · split
    · unfold eraF
      split
      · exact ⟨hm, rfl⟩
      · refine ⟨h.strike.set _ _ ?_, ?_⟩
        · rw [strikeF_size]; exact Nat.le_trans (eraL_len _ _) (bankF_le h _)
        · rw [setB_size, strikeF_size]
    · split
      · unfold armF
        split
        · exact ⟨hm, rfl⟩
        · split
          · exact ⟨hm, rfl⟩
          · rename_i h1 h2
            refine ⟨⟨h.size, h.b0, h.b1, hm.writes, hm.count, by simp; omega, fun c hc => ?_⟩, rfl⟩
            rcases List.mem_append.1 hc with hc | hc
            · exact h.vals c hc
            · obtain rfl := List.mem_singleton.1 hc
              exact ⟨by simp only; omega, by simp only; omega⟩
      · split
        · exact ⟨⟨h.size, h.b0, h.b1, hm.writes, Nat.zero_le _, by simp, by simp⟩, rfl⟩
        · split
          · exact ⟨⟨h.size, h.b0, h.b1, hm.writes, hm.count, h.armed, h.vals⟩, rfl⟩
          · exact ⟨hm, rfl⟩
/-- all but the count of writes told -/
def core (s : FSt) : FSt := { s with writes := 0 }
theorem core_with (s : FSt) (n : Nat) : core { s with writes := n } = core s := rfl
theorem core_eq {s t : FSt} (h : core s = core t) : ∃ n, t = { s with writes := n } := by
  obtain ⟨a, b, c, d, e, f, g⟩ := s
  obtain ⟨a', b', c', d', e', f', g'⟩ := t
  simp only [core, FSt.mk.injEq] at h
  obtain ⟨rfl, rfl, rfl, rfl, rfl, _, rfl⟩ := h
  exact ⟨f', rfl⟩
theorem strike_with (s : FSt) (n : Nat) : strikeF { s with writes := n } = { strikeF s with writes := n + 1 } := by
  obtain ⟨sz, b0, b1, ar, ct, wr, dn⟩ := s
  cases ar with
  | nil => rfl
  | cons c r => simp only [strikeF]; split <;> rfl
theorem core_add (s : FSt) (n m : Nat) (l : List UInt8) : core (addB { s with writes := m } n l) = core (addB s n l) := by unfold addB; split <;> rfl
theorem core_set (s : FSt) (n m : Nat) (l : List UInt8) : core (setB { s with writes := m } n l) = core (setB s n l) := by unfold setB; split <;> rfl
theorem doesF_with (s : FSt) (n : Nat) (t : St12) : core (doesF { s with writes := n } t).1 = core (doesF s t).1 ∧ (doesF { s with writes := n } t).2 = (doesF s t).2 := by
  have a1 : ∀ i, refusedF { s with writes := n } i = refusedF s i := fun _ => rfl
  have a2 : ∀ i, bankF { s with writes := n } i = bankF s i := fun _ => rfl
  have a3 : struckF { s with writes := n } = struckF s := rfl
  have a4 : keepF { s with writes := n } = keepF s := rfl
  have a5 : ∀ b, eraL { s with writes := n } b = eraL s b := fun _ => rfl
  unfold doesF
  split
  · simp only [appF, a1, a2, a3, a4]
    split
    · exact ⟨rfl, rfl⟩
    · split
      · exact ⟨rfl, rfl⟩
      · exact ⟨by rw [strike_with]; exact core_add .., rfl⟩
  · split
    · simp only [eraF, a1, a2, a3, a5]
      split
      · exact ⟨rfl, rfl⟩
      · exact ⟨by rw [strike_with]; exact core_set .., rfl⟩
    · split
      · simp only [armF]
        split
        · exact ⟨rfl, rfl⟩
        · split <;> exact ⟨rfl, rfl⟩
      · split
        · exact ⟨rfl, rfl⟩
        · split <;> exact ⟨rfl, rfl⟩
theorem doesF_core {s t : FSt} (h : core s = core t) (x : St12) : core (doesF s x).1 = core (doesF t x).1 ∧ (doesF s x).2 = (doesF t x).2 := by
  obtain ⟨n, rfl⟩ := core_eq h
  have := doesF_with s n x
  exact ⟨this.1.symm, this.2.symm⟩
theorem size12_get (ss : List St12) (k : Nat) (h : k < ss.length) : ss[k].b.length ≤ size12 ss := by
  have h1 := size12_take ss k h
  have h2 := size12_take_le ss (k + 1)
  omega
end Go.Proofs.Ytpjmbhhfpoamnaa
