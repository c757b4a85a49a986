import Derived.Test.YtpjmbhhfpoamnaaJnP1
set_option linter.unusedVariables false
set_option linter.unusedSimpArgs false
namespace Go.Proofs.Ytpjmbhhfpoamnaa
open Go.RowKit
/-! ### writes, with and without a crash -/
theorem bank_cases {n : Nat} (h : n ≤ 1) : n = 0 ∨ n = 1 := by omega
theorem bankF_add {s : FSt} {n : Nat} {l : List UInt8} (h : n ≤ 1) : bankF (addB s n l) n = bankF s n ++ l ∧ bankF (addB s n l) (1 - n) = bankF s (1 - n) := by
  rcases bank_cases h with rfl | rfl <;> exact ⟨rfl, rfl⟩
theorem bankF_set {s : FSt} {n : Nat} {l : List UInt8} (h : n ≤ 1) : bankF (setB s n l) n = l ∧ bankF (setB s n l) (1 - n) = bankF s (1 - n) := by
  rcases bank_cases h with rfl | rfl <;> exact ⟨rfl, rfl⟩
/-- a write that went well -/
structure Calm (s s' : FSt) (e : Nat) : Prop where
  e : e = 0
  down : s'.down = false
  armed : s'.armed.length ≤ s.armed.length
  size : s'.size = s.size
  writes : s.writes ≤ s'.writes
/-- a write that a crash cut off -/
structure Crsh (s s' : FSt) (e : Nat) : Prop where
  e : e = 121
  down : s'.down = true
  armed : s'.armed.length + 1 ≤ s.armed.length
  size : s'.size = s.size
  writes : s.writes ≤ s'.writes
theorem Calm.refl {s : FSt} (h : s.down = false) : Calm s s 0 := ⟨rfl, h, Nat.le_refl _, rfl, Nat.le_refl _⟩
theorem Calm.then_ {s s1 s2 : FSt} {e1 e2 : Nat} (h : Calm s s1 e1) (k : Calm s1 s2 e2) : Calm s s2 e2 := ⟨k.e, k.down, Nat.le_trans k.armed h.armed, k.size.trans h.size, Nat.le_trans h.writes k.writes⟩
theorem Calm.crash {s s1 s2 : FSt} {e1 e2 : Nat} (h : Calm s s1 e1) (k : Crsh s1 s2 e2) : Crsh s s2 e2 := ⟨k.e, k.down, Nat.le_trans k.armed h.armed, k.size.trans h.size, Nat.le_trans h.writes k.writes⟩
theorem strike_cases (s : FSt) (hd : s.down = false) : (strikeF s).writes = s.writes + 1 ∧ ((struckF s = false ∧ (strikeF s).down = false ∧ (strikeF s).armed.length ≤ s.armed.length) ∨ (struckF s = true ∧ (strikeF s).down = true ∧ (strikeF s).armed.length + 1 ≤ s.armed.length)) := by
  obtain ⟨sz, b0, b1, ar, ct, wr, dn⟩ := s
  simp only at hd
  subst hd
  cases ar with
  | nil => exact ⟨rfl, .inl ⟨rfl, rfl, Nat.le_refl _⟩⟩
  | cons c r =>
    by_cases hc : ct + 1 < c.1
    · simp [strikeF, struckF, hc]
    · simp [strikeF, struckF, hc]
theorem refused_ok {s : FSt} {n : Nat} (hn : n ≤ 1) (hd : s.down = false) : refusedF s (n : Nat) = 0 := by
  rw [refused_bank hn, hd]; rfl
theorem appF_cases {s : FSt} {n : Nat} {l : List UInt8} (hn : n ≤ 1) (hd : s.down = false) (hf : (bankF s n).length + l.length ≤ s.size) :
    bankF (appF s n l).1 (1 - n) = bankF s (1 - n) ∧ (appF s n l).1.writes = s.writes + 1 ∧ ((Calm s (appF s n l).1 (appF s n l).2 ∧ bankF (appF s n l).1 n = bankF s n ++ l) ∨ (Crsh s (appF s n l).1 (appF s n l).2 ∧ ∃ m, bankF (appF s n l).1 n = bankF s n ++ l.take m)) := by
  unfold appF
  rw [if_neg (by rw [refused_ok hn hd]; decide), if_neg (by simpa using hf)]
  simp only [Int.toNat_natCast]
  obtain ⟨hw, hc⟩ := strike_cases s hd
  have hsz := strikeF_size s
  have hx : ∀ l' : List UInt8, (addB (strikeF s) n l').down = (strikeF s).down ∧ (addB (strikeF s) n l').armed = (strikeF s).armed ∧ (addB (strikeF s) n l').writes = (strikeF s).writes := fun l' => by unfold addB; split <;> exact ⟨rfl, rfl, rfl⟩
  rcases hc with ⟨h1, h2, h3⟩ | ⟨h1, h2, h3⟩
  · rw [h1]
    obtain ⟨x1, x2, x3⟩ := hx l
    obtain ⟨b1, b2⟩ := @bankF_add (strikeF s) n l hn
    refine ⟨by simpa [bankF_strike] using b2, by simp [x3, hw], .inl ⟨⟨rfl, by simpa [x1] using h2, by simpa [x2] using h3, by simp [addB_size, hsz], by simp [x3, hw]⟩, by simpa [bankF_strike] using b1⟩⟩
  · rw [h1]
    obtain ⟨x1, x2, x3⟩ := hx (l.take (keepF s))
    obtain ⟨b1, b2⟩ := @bankF_add (strikeF s) n (l.take (keepF s)) hn
    refine ⟨by simpa [bankF_strike] using b2, by simp [x3, hw], .inr ⟨⟨rfl, by simpa [x1] using h2, by simpa [x2] using h3, by simp [addB_size, hsz], by simp [x3, hw]⟩, keepF s, by simpa [bankF_strike] using b1⟩⟩
theorem clrF_cases {s : FSt} {n : Nat} (hn : n ≤ 1) (hd : s.down = false) :
    bankF (clrF s n).1 (1 - n) = bankF s (1 - n) ∧ ((Calm s (clrF s n).1 (clrF s n).2 ∧ bankF (clrF s n).1 n = []) ∨ (Crsh s (clrF s n).1 (clrF s n).2 ∧ (bankF (clrF s n).1 n = bankF s n ∨ readB (bankF (clrF s n).1 n) = none))) := by
  unfold clrF
  rw [if_neg (by rw [hd]; decide)]
  by_cases hb : bankF s n = []
  · rw [if_pos hb]
    exact ⟨rfl, .inl ⟨Calm.refl hd, hb⟩⟩
  rw [if_neg hb]
  unfold eraF
  rw [if_neg (by rw [refused_ok hn hd]; decide)]
  simp only [Int.toNat_natCast]
  obtain ⟨hw, hc⟩ := strike_cases s hd
  have hsz := strikeF_size s
  obtain ⟨x, hx⟩ : ∃ x, x = eraL s (bankF s n) := ⟨_, rfl⟩
  have hy : (setB (strikeF s) n x).down = (strikeF s).down ∧ (setB (strikeF s) n x).armed = (strikeF s).armed ∧ (setB (strikeF s) n x).writes = (strikeF s).writes := by unfold setB; split <;> exact ⟨rfl, rfl, rfl⟩
  obtain ⟨b1, b2⟩ := @bankF_set (strikeF s) n x hn
  rw [← hx]
  rcases hc with ⟨h1, h2, h3⟩ | ⟨h1, h2, h3⟩
  · have hx0 : x = [] := by rw [hx]; unfold eraL; rw [h1]; rfl
    rw [h1]
    refine ⟨by simpa [bankF_strike] using b2, .inl ⟨⟨rfl, by simpa [hy.1] using h2, by simpa [hy.2.1] using h3, by simp [setB_size, hsz], by simp [hy.2.2, hw]⟩, by simpa [hx0] using b1⟩⟩
  · rw [h1]
    refine ⟨by simpa [bankF_strike] using b2, .inr ⟨⟨rfl, by simpa [hy.1] using h2, by simpa [hy.2.1] using h3, by simp [setB_size, hsz], by simp [hy.2.2, hw]⟩, ?_⟩⟩
    rw [b1]
    have he : x = if (bankF s n).length ≤ keepF s then [] else List.replicate (keepF s) 255 ++ (bankF s n).drop (keepF s) := by rw [hx]; unfold eraL; rw [h1]; rfl
    by_cases hk : (bankF s n).length ≤ keepF s
    · rw [if_pos hk] at he
      exact .inr (by rw [he]; exact readB_nil)
    · rw [if_neg hk] at he
      by_cases h0 : keepF s = 0
      · rw [h0] at he
        exact .inl (by rw [he]; simp)
      · obtain ⟨k, hk2⟩ : ∃ k, keepF s = k + 1 := ⟨keepF s - 1, by omega⟩
        rw [hk2] at he
        exact .inr (by rw [he]; exact readB_erased k _)
/-! ### the bank that is chosen -/
theorem chosen_le {a b : Option Ct} {n : Nat} {c : Ct} (h : chosenF a b = some (n, c)) : n ≤ 1 := by
  unfold chosenF at h
  split at h
  · cases h
  · cases h; omega
  · cases h; omega
  · split at h <;> cases h <;> omega
theorem chosen_read {s : FSt} {n : Nat} {c : Ct} (h : chosenF (readB s.b0) (readB s.b1) = some (n, c)) : readB (bankF s n) = some c := by
  unfold chosenF at h
  unfold bankF
  split at h
  · cases h
  · cases h; assumption
  · cases h; assumption
  · split at h
    · cases h; assumption
    · cases h; assumption
theorem chosen_keep {s s' : FSt} {n : Nat} {c : Ct} (h : chosenF (readB s.b0) (readB s.b1) = some (n, c)) (h1 : bankF s' n = bankF s n) (h2 : bankF s' (1 - n) = bankF s (1 - n) ∨ readB (bankF s' (1 - n)) = none) :
    chosenF (readB s'.b0) (readB s'.b1) = some (n, c) := by
  have hr := chosen_read h
  rcases bank_cases (chosen_le h) with rfl | rfl
  · have e1 : s'.b0 = s.b0 := h1
    have hr0 : readB s.b0 = some c := hr
    rcases h2 with h2 | h2
    · have e2 : s'.b1 = s.b1 := h2
      rw [e1, e2]; exact h
    · have e2 : readB s'.b1 = none := h2
      rw [e1, e2, hr0]; rfl
  · have e1 : s'.b1 = s.b1 := h1
    have hr0 : readB s.b1 = some c := hr
    rcases h2 with h2 | h2
    · have e2 : s'.b0 = s.b0 := h2
      rw [e1, e2]; exact h
    · have e2 : readB s'.b0 = none := h2
      rw [e1, e2, hr0]; rfl
theorem chosen_of {s : FSt} {n : Nat} {c : Ct} (hn : n ≤ 1) (h : readB (bankF s n) = some c) (h2 : ∀ c', readB (bankF s (1 - n)) = some c' → c'.epoch < c.epoch) :
    chosenF (readB s.b0) (readB s.b1) = some (n, c) := by
  rcases bank_cases hn with rfl | rfl
  · have h0 : readB s.b0 = some c := h
    rw [h0]
    cases hb : readB s.b1 with
    | none => rfl
    | some c' => have := h2 c' hb; unfold chosenF; simp only; rw [if_neg (by omega)]
  · have h0 : readB s.b1 = some c := h
    rw [h0]
    cases hb : readB s.b0 with
    | none => rfl
    | some c' => have := h2 c' hb; unfold chosenF; simp only; rw [if_pos (by omega)]
/-! ### what a journal holds -/
structure Hd where
  snap : List UInt8
  recs : List (List UInt8)
def Hd.with_ (h : Hd) (r : List UInt8) : Hd := ⟨h.snap, h.recs ++ [r]⟩
/-- the flash holds h, for the next Open -/
structure SI (K : Nat) (s : FSt) (h : Hd) : Prop where
  out : ∃ n c, chosenF (readB s.b0) (readB s.b1) = some (n, c) ∧ c.snap = h.snap ∧ c.recs = h.recs ∧ c.epoch ≤ s.writes + K ∧ (c.epoch = 9223372036854775807 → c.good = (bankF s n).length)
/-- an open journal holds h -/
structure JI (K : Nat) (j : JSt) (s : FSt) (h : Hd) : Prop where
  down : s.down = false
  dead : j.dead = false
  bank : j.bank ≤ 1
  read : readB (bankF s j.bank) = some ⟨j.epoch, h.snap, h.recs, (bankF s j.bank).length⟩
  other : ∀ c, readB (bankF s (1 - j.bank)) = some c → c.epoch < j.epoch
  count : j.count = h.recs.length
  used : j.used = (bankF s j.bank).length
  ep : j.epoch ≤ s.writes + K
theorem JI.si {K : Nat} {j : JSt} {s : FSt} {h : Hd} (H : JI K j s h) : SI K s h :=
  ⟨j.bank, _, chosen_of H.bank H.read H.other, rfl, rfl, H.ep, fun _ => rfl⟩
end Go.Proofs.Ytpjmbhhfpoamnaa
