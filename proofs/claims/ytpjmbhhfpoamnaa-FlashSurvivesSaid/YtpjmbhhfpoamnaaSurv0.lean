import Derived.Test.YtpjmbhhfpoamnaaMays12
import Derived.Test.YtpjmbhhfpoamnaaCore12
set_option linter.unusedVariables false
set_option linter.unusedSimpArgs false
namespace Go.Proofs.Ytpjmbhhfpoamnaa
open Go.RowKit
theorem strike_down (s : FSt) : (strikeF s).down = (s.down || struckF s) := by
  obtain ⟨sz, b0, b1, ar, ct, wr, dn⟩ := s
  cases ar with
  | nil => simp [strikeF, struckF]
  | cons c r =>
    simp only [strikeF, struckF]
    split
    · rename_i h; simp [h]
    · rename_i h; simp [h]
theorem strike_writes (s : FSt) : (strikeF s).writes = s.writes + 1 := by unfold strikeF; split <;> (try split) <;> rfl
theorem addB_down (s : FSt) (n : Nat) (l : List UInt8) : (addB s n l).down = s.down := by unfold addB; split <;> rfl
theorem setB_down (s : FSt) (n : Nat) (l : List UInt8) : (setB s n l).down = s.down := by unfold setB; split <;> rfl
theorem addB_writes (s : FSt) (n : Nat) (l : List UInt8) : (addB s n l).writes = s.writes := by unfold addB; split <;> rfl
theorem setB_writes (s : FSt) (n : Nat) (l : List UInt8) : (setB s n l).writes = s.writes := by unfold setB; split <;> rfl
theorem addB_same (s : FSt) (k : Nat) (l : List UInt8) : bankF (addB s k l) k = bankF s k ++ l := by unfold addB bankF; split <;> simp_all
theorem addB_other (s : FSt) (n k : Nat) (l : List UInt8) (hn : n ≤ 1) (hk : k ≤ 1) (h : n ≠ k) : bankF (addB s n l) k = bankF s k := by
  rcases (show (n = 0 ∧ k = 1) ∨ (n = 1 ∧ k = 0) by omega) with ⟨rfl, rfl⟩ | ⟨rfl, rfl⟩ <;> rfl
theorem setB_same (s : FSt) (k : Nat) (l : List UInt8) : bankF (setB s k l) k = l := by unfold setB bankF; split <;> simp_all
theorem setB_other (s : FSt) (n k : Nat) (l : List UInt8) (hn : n ≤ 1) (hk : k ≤ 1) (h : n ≠ k) : bankF (setB s n l) k = bankF s k := by
  rcases (show (n = 0 ∧ k = 1) ∨ (n = 1 ∧ k = 0) by omega) with ⟨rfl, rfl⟩ | ⟨rfl, rfl⟩ <;> rfl
theorem upd (b : Bool) : (!b && b) = false := by cases b <;> rfl
theorem app_none (was b : List UInt8) (e : Nat) (st : Bool) (he : e ≠ 0) (hs : st = false) : AppP was was b e st :=
  ⟨[], by simp, by rw [if_neg he, if_neg (by simp [hs])]⟩
theorem doesF_may (s : FSt) (t : St12) (k : Nat) (hk : k ≤ 1) : MayP k (bankF s k) (bankF (doesF s t).1 k) t (doesF s t).2 (!s.down && (doesF s t).1.down) := by
  unfold MayP
  by_cases k1 : t.kd = 1
  · have hD : doesF s t = appF s t.bank t.b := by unfold doesF; rw [if_pos k1]
    rw [hD]
    by_cases hr : refusedF s t.bank ≠ 0
    · have hA : appF s t.bank t.b = (s, refusedF s t.bank) := by unfold appF; rw [if_pos hr]
      rw [hA]
      split
      · exact app_none _ _ _ _ hr (upd _)
      · rw [if_neg (by omega)]
    · obtain ⟨hn, hd⟩ := refused_zero (show refusedF s t.bank = 0 by omega)
      by_cases hf : s.size < (bankF s t.bank.toNat).length + t.b.length
      · have hA : appF s t.bank t.b = (s, 122) := by unfold appF; rw [if_neg hr, if_pos hf]
        rw [hA]
        split
        · exact app_none _ _ _ _ (show (122 : Nat) ≠ 0 by decide) (upd _)
        · rw [if_neg (by omega)]
      · have hA : appF s t.bank t.b = (addB (strikeF s) t.bank.toNat (if struckF s then t.b.take (keepF s) else t.b), if struckF s then 121 else 0) := by unfold appF; rw [if_neg hr, if_neg hf]
        rw [hA]
        simp only [addB_down, strike_down, hd]
        split
        · rename_i hb
          obtain ⟨_, hb⟩ := hb
          have hbk : t.bank.toNat = k := by omega
          rw [hbk, addB_same, bankF_strike]
          refine ⟨_, rfl, ?_⟩
          cases hst : struckF s
          · simp
          · simp only [Bool.false_or, Bool.not_false, Bool.and_true, if_true]
            rw [if_neg (by decide), if_pos ⟨trivial, trivial⟩]
            exact ⟨_, (List.take_append_drop _ _).symm⟩
        · rename_i hb
          rw [if_neg (by omega), addB_other _ _ _ _ (by omega) hk (by omega), bankF_strike]
  · rw [if_neg (fun h => k1 h.1)]
    by_cases k2 : t.kd = 2
    · have hD : doesF s t = eraF s t.bank := by unfold doesF; rw [if_neg k1, if_pos k2]
      rw [hD]
      by_cases hr : refusedF s t.bank ≠ 0
      · have hA : eraF s t.bank = (s, refusedF s t.bank) := by unfold eraF; rw [if_pos hr]
        rw [hA]
        split
        · unfold EraP
          rw [if_neg hr, if_neg (by simp)]
        · rfl
      · obtain ⟨hn, hd⟩ := refused_zero (show refusedF s t.bank = 0 by omega)
        have hA : eraF s t.bank = (setB (strikeF s) t.bank.toNat (eraL s (bankF s t.bank.toNat)), if struckF s then 121 else 0) := by unfold eraF; rw [if_neg hr]
        rw [hA]
        simp only [setB_down, strike_down, hd]
        split
        · rename_i hb
          obtain ⟨_, hb⟩ := hb
          have hbk : t.bank.toNat = k := by omega
          rw [hbk, setB_same]
          unfold EraP eraL
          cases hst : struckF s
          · simp
          · simp only [Bool.false_or, Bool.not_false, Bool.and_true, if_true]
            rw [if_neg (by decide), if_pos ⟨trivial, trivial⟩]
            split
            · exact .inl rfl
            · exact .inr ⟨keepF s, by omega, rfl⟩
        · rename_i hb
          rw [setB_other _ _ _ _ (by omega) hk (by omega), bankF_strike]
    · rw [if_neg (fun h => k2 h.1)]
      unfold doesF
      rw [if_neg k1, if_neg k2]
      split
      · unfold armF
        split
        · rfl
        · split <;> rfl
      · split
        · rfl
        · split <;> rfl
theorem doesF_struck (s : FSt) (t : St12) (h : (!s.down && (doesF s t).1.down) = true) : (doesF s t).2 = 121 ∧ (doesF s t).1.writes = s.writes + 1 := by
  simp only [Bool.and_eq_true, Bool.not_eq_true'] at h
  obtain ⟨hd, hn⟩ := h
  unfold doesF at hn ⊢
  split at hn
  · rename_i k1
    rw [if_pos k1]
    unfold appF at hn ⊢
    split at hn
    · rw [hd] at hn; cases hn
    · rename_i hr
      rw [if_neg hr]
      split at hn
      · rw [hd] at hn; cases hn
      · rename_i hf
        rw [if_neg hf]
        simp only [addB_down, strike_down, hd, Bool.false_or] at hn
        simp [hn, addB_writes, strike_writes]
  · rename_i k1
    rw [if_neg k1]
    split at hn
    · rename_i k2
      rw [if_pos k2]
      unfold eraF at hn ⊢
      split at hn
      · rw [hd] at hn; cases hn
      · rename_i hr
        rw [if_neg hr]
        simp only [setB_down, strike_down, hd, Bool.false_or] at hn
        simp [hn, setB_writes, strike_writes]
    · split at hn
      · unfold armF at hn
        split at hn
        · rw [hd] at hn; cases hn
        · split at hn <;> (simp only at hn; rw [hd] at hn; cases hn)
      · split at hn
        · simp only at hn; rw [hd] at hn; cases hn
        · split at hn
          · unfold rstF at hn; cases hn
          · rw [hd] at hn; cases hn
theorem doesF_restart (s : FSt) (t : St12) (h : t.kd = 7) : (doesF s t).1.down = false ∧ (doesF s t).2 = if s.down then 0 else 123 := by
  unfold doesF
  simp [h, rstF]
end Go.Proofs.Ytpjmbhhfpoamnaa
