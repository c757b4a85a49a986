import Derived.Test.YtpjmbhhfpoamnaaCrcB
set_option linter.unusedVariables false
set_option linter.unusedSimpArgs false
namespace Go.Proofs.Ytpjmbhhfpoamnaa
/-! ### frames, by definition -/
def be4 (x : Nat) : List UInt8 := [UInt8.ofNat (x / 16777216), UInt8.ofNat (x / 65536), UInt8.ofNat (x / 256), UInt8.ofNat x]
def le4 (x : Nat) : List UInt8 := [UInt8.ofNat x, UInt8.ofNat (x / 256), UInt8.ofNat (x / 65536), UInt8.ofNat (x / 16777216)]
theorem be_be4 (x : Nat) (h : x < 4294967296) : be (be4 x) = x := by
  simp [be, be4]
  omega
theorem le_le4 (x : Nat) (h : x < 4294967296) : le (le4 x) = x := by
  simp [le, le4]
  omega
theorem le_inj : ∀ (l m : List UInt8), l.length = m.length → le l = le m → l = m
  | [], [], _, _ => rfl
  | a :: l, b :: m, hl, h => by
    have e : ∀ (c : UInt8) (l : List UInt8), le (c :: l) = c.toNat + 256 * le l := fun _ _ => rfl
    rw [e, e] at h
    have h1 := u8_lt' a
    have h2 := u8_lt' b
    rw [le_inj l m (by simpa using hl) (by omega), show a = b from UInt8.toNat_inj.1 (by omega)]
where u8_lt' (c : UInt8) : c.toNat < 256 := c.toNat_lt
/-- what is summed, and a frame -/
def frS (k : UInt8) (p : List UInt8) : List UInt8 := k :: (be4 p.length ++ p)
def frB (k : UInt8) (p : List UInt8) : List UInt8 := 0xa5 :: (frS k p ++ le4 (crcSum (frS k p)).toNat)
theorem frS_len (k : UInt8) (p : List UInt8) : (frS k p).length = p.length + 5 := by simp [frS, be4]
theorem frB_len (k : UInt8) (p : List UInt8) : (frB k p).length = p.length + 10 := by simp [frB, frS_len, le4]
/-- what stands at the front: kind, payload, its end, and how it ends -/
def wholeD (d : List UInt8) : UInt8 × List UInt8 × Nat × Nat :=
  if d.length = 0 then (0, [], 0, 0) else if d.getD 0 0 ≠ 0xa5 then (0, [], 0, 4) else if d.length < 6 then (0, [], 0, 1) else
  if 262144 < be ((d.drop 2).take 4) then (0, [], 0, 2) else if d.length < 10 + be ((d.drop 2).take 4) then (0, [], 0, 1) else
  if le ((d.drop (6 + be ((d.drop 2).take 4))).take 4) ≠ (crcSum ((d.drop 1).take (5 + be ((d.drop 2).take 4)))).toNat then (0, [], 0, 3) else
  (d.getD 1 0, (d.drop 6).take (be ((d.drop 2).take 4)), 10 + be ((d.drop 2).take 4), 0)
theorem take_app {α : Type} (a b : List α) (n : Nat) (h : n ≤ a.length) : (a ++ b).take n = a.take n := by
  rw [List.take_append, show n - a.length = 0 by omega]; simp
theorem frB_parts (k : UInt8) (p r : List UInt8) : frB k p ++ r = 0xa5 :: k :: (be4 p.length ++ (p ++ (le4 (crcSum (frS k p)).toNat ++ r))) := by
  simp [frB, frS]
theorem wholeD_frame (k : UInt8) (p r : List UInt8) (hp : p.length ≤ 262144) : wholeD (frB k p ++ r) = (k, p, p.length + 10, 0) := by
  have hl : (frB k p ++ r).length = p.length + 10 + r.length := by rw [List.length_append, frB_len]
  have e := frB_parts k p r
  have hn : be (((frB k p ++ r).drop 2).take 4) = p.length := by
    rw [e]
    show be ((be4 p.length ++ _).take 4) = _
    rw [take_app _ _ _ (by simp [be4]), List.take_of_length_le (by simp [be4]), be_be4 _ (by omega)]
  have hs : (crcSum (frS k p)).toNat < 4294967296 := (crcSum (frS k p)).isLt
  have h6 : ((frB k p ++ r).drop (6 + p.length)).take 4 = le4 (crcSum (frS k p)).toNat := by
    rw [e]
    have : (0xa5 :: k :: (be4 p.length ++ (p ++ (le4 (crcSum (frS k p)).toNat ++ r)))) = (0xa5 :: k :: (be4 p.length ++ p)) ++ (le4 (crcSum (frS k p)).toNat ++ r) := by simp
    rw [this, List.drop_append, List.drop_of_length_le (by simp [be4]; omega), show 6 + p.length - (0xa5 :: k :: (be4 p.length ++ p)).length = 0 by simp [be4]; omega]
    simp [le4]
  have h1 : ((frB k p ++ r).drop 1).take (5 + p.length) = frS k p := by
    rw [show (frB k p ++ r).drop 1 = frS k p ++ (le4 (crcSum (frS k p)).toNat ++ r) by simp [frB], take_app _ _ _ (by rw [frS_len]; omega), List.take_of_length_le (by rw [frS_len]; omega)]
  unfold wholeD
  rw [hl, hn, h6, h1, le_le4 _ hs, if_neg (by omega), if_neg (by rw [e]; simp), if_neg (by omega), if_neg (by omega), if_neg (by omega), if_neg (by simp)]
  rw [show (frB k p ++ r).getD 1 0 = k by rw [e]; rfl, show ((frB k p ++ r).drop 6).take p.length = p by rw [e]; simp [be4], Nat.add_comm 10]
/-- the bounds of what is told -/
theorem wholeD_bound (d : List UInt8) (h : (wholeD d).2.2.2 = 0) (h0 : d ≠ []) : (wholeD d).2.2.1 = (wholeD d).2.1.length + 10 ∧ (wholeD d).2.2.1 ≤ d.length ∧ (wholeD d).2.1.length ≤ 262144 := by
  have hl : d.length ≠ 0 := fun e => h0 (List.eq_nil_of_length_eq_zero e)
  unfold wholeD at h ⊢
  rw [if_neg hl] at h ⊢
  split at h
  · simp at h
  · rename_i h1
    rw [if_neg h1]
    split at h
    · simp at h
    · rename_i h2
      rw [if_neg h2]
      split at h
      · simp at h
      · rename_i h3
        rw [if_neg h3]
        split at h
        · simp at h
        · rename_i h4
          rw [if_neg h4]
          split at h
          · simp at h
          · rename_i h5
            rw [if_neg h5]
            simp only [List.length_take, List.length_drop]
            omega
/-- cut inside, a frame is short -/
theorem wholeD_cut (k : UInt8) (p : List UInt8) (m : Nat) (hp : p.length ≤ 262144) (h0 : 0 < m) (hm : m < p.length + 10) : wholeD ((frB k p).take m) = (0, [], 0, 1) := by
  have hl : ((frB k p).take m).length = m := by rw [List.length_take, frB_len]; omega
  have e := frB_parts k p []
  rw [List.append_nil] at e
  have h00 : ((frB k p).take m).getD 0 0 = 0xa5 := by
    rw [List.getD_eq_getElem?_getD, List.getElem?_take_of_lt h0, e]
    rfl
  unfold wholeD
  rw [hl, if_neg (by omega), if_neg (by rw [h00]; simp)]
  by_cases h6 : m < 6
  · rw [if_pos h6]
  · rw [if_neg h6]
    have hn : be ((((frB k p).take m).drop 2).take 4) = p.length := by
      rw [List.drop_take, List.take_take, show min 4 (m - 2) = 4 by omega, e]
      show be ((be4 p.length ++ _).take 4) = _
      rw [take_app _ _ _ (by simp [be4]), List.take_of_length_le (by simp [be4]), be_be4 _ (by omega)]
    rw [hn, if_neg (by omega), if_pos (by omega)]
/-- a wrong mark -/
theorem wholeD_mark (c : UInt8) (r : List UInt8) (h : c ≠ 0xa5) : wholeD (c :: r) = (0, [], 0, 4) := by
  unfold wholeD
  rw [if_neg (by simp), if_pos (by simpa using h)]
/-- of what is a frame the register stands at one value behind it -/
theorem crcRun_sum (r : BitVec 32) (l : List UInt8) : crcRun (crcRun r l) (le4 (~~~ crcRun r l).toNat) = crcBits 32 (BitVec.allOnes 32) := by
  unfold le4
  rw [crcRun_four, crcWord_of _ (~~~ crcRun r l).isLt]
  congr 1
  refine BitVec.eq_of_getLsbD_eq fun i hi => ?_
  rw [BitVec.getLsbD_xor, BitVec.ofNat_toNat, BitVec.setWidth_eq, BitVec.getLsbD_not, BitVec.getLsbD_allOnes]
  cases (crcRun r l).getLsbD i <;> simp [hi]
theorem wholeD_reg (d : List UInt8) (h : (wholeD d).2.2.2 = 0) (h0 : d ≠ []) : 10 + be ((d.drop 2).take 4) ≤ d.length ∧ crcRun (BitVec.allOnes 32) ((d.drop 1).take (9 + be ((d.drop 2).take 4))) = crcBits 32 (BitVec.allOnes 32) ∧ d.getD 0 0 = 0xa5 := by
  have hl : d.length ≠ 0 := fun e => h0 (List.eq_nil_of_length_eq_zero e)
  obtain ⟨n, hn⟩ : ∃ n, n = be ((d.drop 2).take 4) := ⟨_, rfl⟩
  unfold wholeD at h
  rw [if_neg hl] at h
  rw [← hn] at h ⊢
  split at h
  · simp at h
  · rename_i hm
    split at h
    · simp at h
    · split at h
      · simp at h
      · split at h
        · simp at h
        · rename_i h4
          split at h
          · simp at h
          · rename_i h5
            refine ⟨by omega, ?_, by simpa using hm⟩
            have h5 : le ((d.drop (6 + n)).take 4) = (crcSum ((d.drop 1).take (5 + n))).toNat := by simpa using h5
            have h6 : (d.drop (6 + n)).take 4 = le4 (crcSum ((d.drop 1).take (5 + n))).toNat := by
              refine le_inj _ _ (by simp [le4]; omega) ?_
              rw [h5, le_le4 _ (crcSum ((d.drop 1).take (5 + n))).isLt]
            have h7 : (d.drop 1).take (9 + n) = (d.drop 1).take (5 + n) ++ (d.drop (6 + n)).take 4 := by
              rw [show 9 + n = (5 + n) + 4 by omega, List.take_add, List.drop_drop, show 1 + (5 + n) = 6 + n by omega]
            rw [h7, crcRun_append, h6]
            exact crcRun_sum _ _
theorem crcRun_frB (k : UInt8) (p : List UInt8) : crcRun (BitVec.allOnes 32) ((frB k p).drop 1) = crcBits 32 (BitVec.allOnes 32) := by
  show crcRun _ (frS k p ++ _) = _
  rw [crcRun_append]
  exact crcRun_sum _ _
/-! ### turned bits -/
def turn1 (c : List UInt8) (i : Nat) : List UInt8 := c.set (i / 8) (c.getD (i / 8) 0 ^^^ UInt8.ofNat (2 ^ (i % 8)))
def turnK (b : List UInt8) (f word : Nat) : Nat → List UInt8
  | 0 => b
  | k + 1 => if word / 2 ^ k % 2 = 1 then turn1 (turnK b f word k) (f + k) else turnK b f word k
theorem turn1_len (c : List UInt8) (i : Nat) : (turn1 c i).length = c.length := by simp [turn1]
theorem turnK_len (b : List UInt8) (f word : Nat) : ∀ k, (turnK b f word k).length = b.length
  | 0 => rfl
  | k + 1 => by
    rw [turnK]
    split
    · rw [turn1_len, turnK_len b f word k]
    · exact turnK_len b f word k
theorem bitAt_turn1 (c : List UInt8) (i j : Nat) (h : i < 8 * c.length) : bitAt (turn1 c i) j = (bitAt c j ^^ decide (j = i)) := by
  unfold bitAt turn1
  rw [List.getD_eq_getElem?_getD, List.getElem?_set]
  by_cases hij : i / 8 = j / 8
  · rw [if_pos hij, ← hij, if_pos (by omega), Option.getD_some, UInt8.toNat_xor, Nat.testBit_xor]
    congr 1
    have h2 : 2 ^ (i % 8) < 256 := Nat.lt_of_le_of_lt (Nat.pow_le_pow_right (by decide) (show i % 8 ≤ 7 by omega)) (by decide)
    rw [UInt8.toNat_ofNat', Nat.mod_eq_of_lt h2, Nat.testBit_two_pow]
    by_cases e : j = i
    · subst e; simp
    · simp [e]; omega
  · rw [if_neg hij, ← List.getD_eq_getElem?_getD]
    have : j ≠ i := fun e => hij (by rw [e])
    simp [this]
theorem bitAt_turnK (b : List UInt8) (f word : Nat) : ∀ (k j : Nat), (∀ t, t < k → word / 2 ^ t % 2 = 1 → f + t < 8 * b.length) → bitAt (turnK b f word k) j = (bitAt b j ^^ decide (f ≤ j ∧ j < f + k ∧ word / 2 ^ (j - f) % 2 = 1))
  | 0, j, _ => by
    have : ¬ (f ≤ j ∧ j < f + 0 ∧ word / 2 ^ (j - f) % 2 = 1) := by omega
    rw [decide_eq_false this]
    simp [turnK]
  | k + 1, j, hb => by
    have ih := bitAt_turnK b f word k j (fun t ht => hb t (by omega))
    rw [turnK]
    by_cases hw : word / 2 ^ k % 2 = 1
    · rw [if_pos hw, bitAt_turn1 _ _ _ (by rw [turnK_len]; exact hb k (by omega) hw), ih]
      by_cases e : j = f + k
      · subst e
        have e1 : ¬ (f ≤ f + k ∧ f + k < f + k ∧ word / 2 ^ (f + k - f) % 2 = 1) := fun h => by omega
        have e2 : f ≤ f + k ∧ f + k < f + (k + 1) ∧ word / 2 ^ (f + k - f) % 2 = 1 := ⟨by omega, by omega, by rw [show f + k - f = k by omega]; exact hw⟩
        have d1 := decide_eq_false e1
        have d2 := decide_eq_true e2
        generalize decide (f ≤ f + k ∧ f + k < f + k ∧ word / 2 ^ (f + k - f) % 2 = 1) = x at d1 ⊢
        generalize decide (f ≤ f + k ∧ f + k < f + (k + 1) ∧ word / 2 ^ (f + k - f) % 2 = 1) = y at d2 ⊢
        subst d1; subst d2
        simp
      · have : (f ≤ j ∧ j < f + k ∧ word / 2 ^ (j - f) % 2 = 1) ↔ (f ≤ j ∧ j < f + (k + 1) ∧ word / 2 ^ (j - f) % 2 = 1) := ⟨fun ⟨a, b, c⟩ => ⟨a, by omega, c⟩, fun ⟨a, b, c⟩ => ⟨a, by omega, c⟩⟩
        simp [e, this]
    · rw [if_neg hw, ih]
      have : (f ≤ j ∧ j < f + k ∧ word / 2 ^ (j - f) % 2 = 1) ↔ (f ≤ j ∧ j < f + (k + 1) ∧ word / 2 ^ (j - f) % 2 = 1) := ⟨fun ⟨a, b, c⟩ => ⟨a, by omega, c⟩, fun ⟨a, b, c⟩ => ⟨a, by
        by_cases e : j = f + k
        · subst e; rw [show f + k - f = k by omega] at c; exact absurd c hw
        · omega, c⟩⟩
      rw [decide_eq_decide.2 this]
theorem byte_of_bits {l m : List UInt8} (i : Nat) (h : ∀ j, j < 8 → bitAt l (8 * i + j) = bitAt m (8 * i + j)) : l.getD i 0 = m.getD i 0 := by
  refine UInt8.toNat_inj.1 (Nat.eq_of_testBit_eq fun j => ?_)
  by_cases hj : j < 8
  · have := h j hj
    unfold bitAt at this
    rwa [show (8 * i + j) / 8 = i by omega, show (8 * i + j) % 8 = j by omega] at this
  · rw [Nat.testBit_lt_two_pow (Nat.lt_of_lt_of_le (UInt8.toNat_lt _) (Nat.pow_le_pow_right (n := 2) (by decide) (show 8 ≤ j by omega))), Nat.testBit_lt_two_pow (Nat.lt_of_lt_of_le (UInt8.toNat_lt _) (Nat.pow_le_pow_right (n := 2) (by decide) (show 8 ≤ j by omega)))]
/-- a frame some of whose bits are turned is none -/
theorem spoilt_seen (k : UInt8) (p r g : List UInt8) (hp : p.length ≤ 262144) (hg : g.length = p.length + 10) (f n : Nat) (hn : n ≤ 32)
    (hout : ∀ i, (i < f ∨ f + n ≤ i) → bitAt g i = bitAt (frB k p) i) (hlen : ∀ i, 16 ≤ i → i < 48 → bitAt g i = bitAt (frB k p) i)
    (i : Nat) (hi : i < 8 * (p.length + 10)) (hne : bitAt g i ≠ bitAt (frB k p) i) : (wholeD (g ++ r)).2.2.2 ≠ 0 := fun h => by
  have hg0 : g ≠ [] := fun e => by rw [e] at hg; simp at hg
  obtain ⟨h1, h2, h3⟩ := wholeD_reg (g ++ r) h (by simp [hg0])
  have hgd : ∀ t, (g ++ r).getD t 0 = if t < g.length then g.getD t 0 else (g ++ r).getD t 0 := fun t => by
    split
    · rename_i ht
      rw [List.getD_eq_getElem?_getD, List.getElem?_append_left ht, List.getD_eq_getElem?_getD]
    · rfl
  have hb0 : g.getD 0 0 = 0xa5 := by
    have := hgd 0
    rw [if_pos (by omega)] at this
    rwa [this] at h3
  have hf0 : (frB k p).getD 0 0 = 0xa5 := rfl
  have hi8 : 8 ≤ i := by
    apply Classical.byContradiction
    intro hi8
    refine hne ?_
    unfold bitAt
    rw [show i / 8 = 0 by omega, hb0, hf0]
  have hN : be (((g ++ r).drop 2).take 4) = p.length := by
    have e : ((g ++ r).drop 2).take 4 = ((frB k p).drop 2).take 4 := by
      refine List.ext_getElem (by simp [frB_len]; omega) fun t h4 h5 => ?_
      have ht : t < 4 := by simp at h4; omega
      have h6 := byte_of_bits (l := g) (m := frB k p) (2 + t) (fun j hj => hlen _ (by omega) (by omega))
      rw [List.getElem_take, List.getElem_drop, List.getElem_take, List.getElem_drop, List.getElem_append_left (by omega)]
      rw [List.getD_eq_getElem?_getD, List.getD_eq_getElem?_getD, List.getElem?_eq_getElem (by omega), List.getElem?_eq_getElem (by rw [frB_len]; omega)] at h6
      exact h6
    have e2 := frB_parts k p []
    rw [List.append_nil] at e2
    rw [e, e2]
    show be ((be4 p.length ++ _).take 4) = _
    rw [take_app _ _ _ (by simp [be4]), List.take_of_length_le (by simp [be4]), be_be4 _ (by omega)]
  rw [hN] at h2
  have e3 : ((g ++ r).drop 1).take (9 + p.length) = g.drop 1 := by
    rw [List.drop_append, show 1 - g.length = 0 by omega, List.drop_zero, take_app _ _ _ (by simp; omega), List.take_of_length_le (by simp; omega)]
  rw [e3] at h2
  have hbd : ∀ (l : List UInt8) (t : Nat), bitAt (l.drop 1) t = bitAt l (8 + t) := fun l t => by
    unfold bitAt
    rw [List.getD_eq_getElem?_getD, List.getElem?_drop, ← List.getD_eq_getElem?_getD, show 1 + t / 8 = (8 + t) / 8 by omega, show (8 + t) % 8 = t % 8 by omega]
  refine crc_burst (BitVec.allOnes 32) (g.drop 1) ((frB k p).drop 1) (by simp [hg, frB_len]) (f - 8) (n - (8 - f)) (by omega) (fun t ht hft => ?_) (i - 8) (by simp [hg]; omega) ?_ (by rw [h2, crcRun_frB])
  · rw [hbd, hbd]
    exact hout _ (by omega)
  · rw [hbd, hbd, show 8 + (i - 8) = i by omega]
    exact hne
theorem word_bit {word : Nat} (h0 : word ≠ 0) (h : word < 4294967296) : ∃ t, t < 32 ∧ word / 2 ^ t % 2 = 1 := by
  apply Classical.byContradiction
  intro hc
  refine h0 (Nat.eq_of_testBit_eq fun t => ?_)
  rw [Nat.zero_testBit]
  by_cases ht : t < 32
  · have : ¬ word / 2 ^ t % 2 = 1 := fun e => hc ⟨t, ht, e⟩
    rw [Nat.testBit_eq_decide_div_mod_eq]
    simpa using this
  · exact Nat.testBit_lt_two_pow (Nat.lt_of_lt_of_le h (Nat.pow_le_pow_right (n := 2) (by decide) (show 32 ≤ t by omega)))
theorem bit_one (t : Nat) : (1 : Nat) / 2 ^ t % 2 = 1 ↔ t = 0 := by
  cases t with
  | zero => simp
  | succ t =>
    have : (1 : Nat) < 2 ^ (t + 1) := Nat.one_lt_two_pow (by omega)
    rw [Nat.div_eq_of_lt this]
    simp
/-- one turned bit, anywhere but in the length -/
theorem spoilt_one (k : UInt8) (p r : List UInt8) (hp : p.length ≤ 262144) (f : Nat) (hf : f < 8 * (p.length + 10)) (hl : f / 8 < 2 ∨ 5 < f / 8) : (wholeD (turnK (frB k p) f 1 32 ++ r)).2.2.2 ≠ 0 := by
  have hb : ∀ j, bitAt (turnK (frB k p) f 1 32) j = (bitAt (frB k p) j ^^ decide (f ≤ j ∧ j < f + 32 ∧ 1 / 2 ^ (j - f) % 2 = 1)) := fun j => bitAt_turnK _ _ _ 32 j (fun t _ h => by rw [bit_one] at h; subst h; rw [frB_len]; omega)
  refine spoilt_seen k p r _ hp (by rw [turnK_len, frB_len]) f 1 (by decide) (fun i hi => ?_) (fun i h1 h2 => ?_) f hf ?_
  · rw [hb, decide_eq_false (by rw [bit_one]; omega)]; simp
  · rw [hb, decide_eq_false (by rw [bit_one]; omega)]; simp
  · rw [hb, decide_eq_true ⟨Nat.le_refl _, by omega, by rw [bit_one]; omega⟩]; simp
/-- turned bits behind the length, within 32 in a row -/
theorem spoilt_word (k : UInt8) (p r : List UInt8) (hp : p.length ≤ 262144) (f word : Nat) (h0 : word ≠ 0) (h : word < 4294967296) (hf : 48 ≤ f) (hf2 : f + 31 < 8 * (p.length + 10)) : (wholeD (turnK (frB k p) f word 32 ++ r)).2.2.2 ≠ 0 := by
  have hb : ∀ j, bitAt (turnK (frB k p) f word 32) j = (bitAt (frB k p) j ^^ decide (f ≤ j ∧ j < f + 32 ∧ word / 2 ^ (j - f) % 2 = 1)) := fun j => bitAt_turnK _ _ _ 32 j (fun t _ h => by rw [frB_len]; omega)
  obtain ⟨t, ht, hw⟩ := word_bit h0 h
  refine spoilt_seen k p r _ hp (by rw [turnK_len, frB_len]) f 32 (by decide) (fun i hi => ?_) (fun i h1 h2 => ?_) (f + t) (by omega) ?_
  · rw [hb, decide_eq_false (by omega)]; simp
  · rw [hb, decide_eq_false (by omega)]; simp
  · rw [hb, decide_eq_true ⟨by omega, by omega, by rw [show f + t - f = t by omega]; exact hw⟩]; simp
end Go.Proofs.Ytpjmbhhfpoamnaa
