import Derived.Test.YtpjmbhhfpoamnaaCrc
set_option linter.unusedVariables false
set_option linter.unusedSimpArgs false
namespace Go.Proofs.Ytpjmbhhfpoamnaa
/-! ### the register, bit by bit: turned bits within 32 in a row are seen -/
def crcB (r : BitVec 32) (B : List Bool) : BitVec 32 := B.foldl (fun r b => crcBit (r ^^^ (if b then 1#32 else 0#32))) r
def ofB : List Bool → BitVec 32
  | [] => 0#32
  | b :: B => (if b then 1#32 else 0#32) ^^^ (ofB B <<< 1)
theorem ofB_bit : ∀ (B : List Bool) (i : Nat), (ofB B).getLsbD i = (decide (i < 32) && B.getD i false)
  | [], i => by simp [ofB]
  | b :: B, i => by
    rw [ofB, BitVec.getLsbD_xor, BitVec.getLsbD_shiftLeft]
    cases i with
    | zero => cases b <;> simp
    | succ i =>
      have h1 : (if b then 1#32 else 0#32 : BitVec 32).getLsbD (i + 1) = false := by cases b <;> simp
      rw [h1, show i + 1 - 1 = i by omega, ofB_bit B i, List.getD_cons_succ]
      by_cases h : i + 1 < 32
      · simp [h, show i < 32 by omega]
      · simp [h]
theorem crcBit_shl (x : BitVec 32) (h : x.getLsbD 31 = false) : crcBit (x <<< 1) = x := by
  unfold crcBit
  rw [if_neg (by simp), BitVec.xor_zero]
  refine BitVec.eq_of_getLsbD_eq fun i hi => ?_
  rw [BitVec.getLsbD_ushiftRight, BitVec.getLsbD_shiftLeft]
  by_cases h1 : 1 + i < 32
  · simp [h1]
  · obtain rfl : i = 31 := by omega
    rw [h]
    simp
theorem crcBits_succ' (n : Nat) (r : BitVec 32) : crcBits (n + 1) r = crcBits n (crcBit r) := crcBits_add n 1 r
theorem crcB_word : ∀ (B : List Bool) (r : BitVec 32), B.length ≤ 32 → crcB r B = crcBits B.length (r ^^^ ofB B)
  | [], r, _ => by simp [crcB, crcBits, ofB]
  | b :: B, r, h => by
    simp only [List.length_cons] at h ⊢
    have h0 : (ofB B).getLsbD 31 = false := by
      rw [ofB_bit, List.getD_eq_getElem?_getD, List.getElem?_eq_none (by omega)]
      simp
    show crcB (crcBit (r ^^^ (if b then 1#32 else 0#32))) B = _
    rw [crcB_word B _ (by omega), crcBits_succ', ofB, ← BitVec.xor_assoc, crcBit_xor _ (ofB B <<< 1), crcBit_shl _ h0]
theorem crcB_append (r : BitVec 32) (B C : List Bool) : crcB r (B ++ C) = crcB (crcB r B) C := by simp [crcB]
theorem crcB_zeros (n : Nat) (r : BitVec 32) : crcB r (List.replicate n false) = crcBits n r := by
  induction n generalizing r with
  | zero => rfl
  | succ n ih =>
    rw [List.replicate_succ, crcBits_succ']
    show crcB (crcBit (r ^^^ 0#32)) _ = _
    rw [ih, BitVec.xor_zero]
theorem crcB_xor : ∀ (B C : List Bool) (r s : BitVec 32), B.length = C.length → crcB (r ^^^ s) (List.zipWith (· ^^ ·) B C) = crcB r B ^^^ crcB s C
  | [], [], r, s, _ => rfl
  | a :: B, b :: C, r, s, h => by
    simp only [List.zipWith_cons_cons]
    show crcB (crcBit _) _ = crcB (crcBit _) B ^^^ crcB (crcBit _) C
    rw [← crcB_xor B C _ _ (by simpa using h), ← crcBit_xor]
    congr 2
    cases a <;> cases b <;> simp [BitVec.xor_assoc, bv_xor_left_comm, bv_xor_cancel, BitVec.xor_comm]
theorem ofB_zero {B : List Bool} (h : ofB B = 0#32) (hl : B.length ≤ 32) (i : Nat) : B.getD i false = false := by
  by_cases hi : i < 32
  · have := ofB_bit B i
    rw [h] at this
    simpa [hi] using this.symm
  · rw [List.getD_eq_getElem?_getD, List.getElem?_eq_none (by omega)]
    rfl
/-- two rows of bits that differ, and only within 32 in a row -/
theorem crcB_burst (r : BitVec 32) (B C : List Bool) (hl : B.length = C.length) (f n : Nat) (hn : n ≤ 32) (heq : ∀ i, (i < f ∨ f + n ≤ i) → B[i]? = C[i]?) (h : crcB r B = crcB r C) : B = C := by
  have hD := crcB_xor B C r r hl
  rw [h, BitVec.xor_self, BitVec.xor_self] at hD
  obtain ⟨D, hDe⟩ : ∃ D, D = List.zipWith (· ^^ ·) B C := ⟨_, rfl⟩
  rw [← hDe] at hD
  have hlen : D.length = B.length := by rw [hDe]; simp [hl]
  have hDi : ∀ i, D.getD i false = (B.getD i false ^^ C.getD i false) := fun i => by
    rw [hDe, List.getD_eq_getElem?_getD, List.getD_eq_getElem?_getD, List.getD_eq_getElem?_getD, List.getElem?_zipWith]
    by_cases hi : i < B.length
    · rw [List.getElem?_eq_getElem hi, List.getElem?_eq_getElem (show i < C.length by omega)]
      rfl
    · rw [List.getElem?_eq_none (by omega), List.getElem?_eq_none (show C.length ≤ i by omega)]
      rfl
  have hz : ∀ i, (i < f ∨ f + n ≤ i) → D.getD i false = false := fun i hi => by
    rw [hDi, List.getD_eq_getElem?_getD, List.getD_eq_getElem?_getD, heq i hi]
    simp
  have hrep : ∀ (E : List Bool), (∀ i, E.getD i false = false) → E = List.replicate E.length false := fun E hE => by
    refine List.ext_getElem (by simp) fun i h1 h2 => ?_
    have := hE i
    rw [List.getD_eq_getElem?_getD, List.getElem?_eq_getElem h1] at this
    simpa using this
  have hsplit : D = D.take f ++ ((D.drop f).take n ++ (D.drop f).drop n) := by rw [List.take_append_drop, List.take_append_drop]
  have e1 : D.take f = List.replicate (D.take f).length false := hrep _ fun i => by
    rw [List.getD_eq_getElem?_getD, List.getElem?_take]
    split
    · rename_i hi
      have := hz i (.inl hi)
      rwa [List.getD_eq_getElem?_getD] at this
    · rfl
  have e3 : (D.drop f).drop n = List.replicate ((D.drop f).drop n).length false := hrep _ fun i => by
    rw [List.getD_eq_getElem?_getD, List.drop_drop, List.getElem?_drop]
    have := hz (f + n + i) (.inr (by omega))
    rwa [List.getD_eq_getElem?_getD] at this
  have hall : D = List.replicate D.length false := by
    have hm : ∀ i, ((D.drop f).take n).getD i false = false := by
      rw [hsplit, crcB_append, crcB_append, e1, crcB_zeros, crcBits_zero, e3, crcB_zeros, crcB_word _ _ (by rw [List.length_take]; omega)] at hD
      have := crcBits_eq_zero (crcBits_eq_zero hD)
      rw [BitVec.zero_xor] at this
      exact ofB_zero this (by rw [List.length_take]; omega)
    refine hrep D fun i => ?_
    by_cases hi : i < f ∨ f + n ≤ i
    · exact hz i hi
    · have := hm (i - f)
      rw [List.getD_eq_getElem?_getD, List.getElem?_take_of_lt (by omega), List.getElem?_drop, show f + (i - f) = i by omega] at this
      rwa [List.getD_eq_getElem?_getD]
  refine List.ext_getElem hl fun i h1 h2 => ?_
  have h3 : D.getD i false = false := by
    rw [hall, List.getD_eq_getElem?_getD, List.getElem?_replicate]
    split <;> rfl
  rw [hDi, List.getD_eq_getElem?_getD, List.getD_eq_getElem?_getD, List.getElem?_eq_getElem h1, List.getElem?_eq_getElem h2] at h3
  simpa using h3
/-! ### bits of bytes -/
def bits8 (c : UInt8) : List Bool := (List.range 8).map fun i => c.toNat.testBit i
theorem crcStep_bits (r : BitVec 32) (c : UInt8) : crcStep r c = crcB r (bits8 c) := by
  rw [crcB_word _ _ (by simp [bits8])]
  have hl : (bits8 c).length = 8 := by simp [bits8]
  rw [hl]
  unfold crcStep
  congr 2
  refine BitVec.eq_of_getLsbD_eq fun i hi => ?_
  rw [ofB_bit, List.getD_eq_getElem?_getD]
  by_cases h : i < 8
  · rw [List.getElem?_eq_getElem (by omega)]
    simp [bits8, crcByte, BitVec.getLsbD_ofNat]
  · rw [List.getElem?_eq_none (by omega), crcByte_bit c i (by omega)]
    simp
def bitsOf (l : List UInt8) : List Bool := l.flatMap bits8
theorem crcRun_bits : ∀ (l : List UInt8) (r : BitVec 32), crcRun r l = crcB r (bitsOf l)
  | [], r => rfl
  | c :: l, r => by
    show crcRun (crcStep r c) l = _
    rw [crcRun_bits l, show bitsOf (c :: l) = bits8 c ++ bitsOf l from List.flatMap_cons, crcB_append, ← crcStep_bits]
theorem bitsOf_len (l : List UInt8) : (bitsOf l).length = 8 * l.length := by
  induction l with
  | nil => rfl
  | cons c l ih =>
    have : (bits8 c).length = 8 := by simp [bits8]
    rw [bitsOf, List.flatMap_cons, List.length_append, this, List.length_cons]
    have : (l.flatMap bits8).length = (bitsOf l).length := rfl
    omega
def bitAt (l : List UInt8) (i : Nat) : Bool := (l.getD (i / 8) 0).toNat.testBit (i % 8)
theorem bitsOf_get : ∀ (l : List UInt8) (i : Nat), i < 8 * l.length → (bitsOf l)[i]? = some (bitAt l i)
  | [], i, h => by simp at h
  | c :: l, i, h => by
    have h8 : (bits8 c).length = 8 := by simp [bits8]
    rw [bitsOf, List.flatMap_cons]
    by_cases hi : i < 8
    · rw [List.getElem?_append_left (by omega), List.getElem?_eq_getElem (by omega)]
      simp [bits8, bitAt, show i / 8 = 0 by omega, show i % 8 = i by omega]
    · rw [List.getElem?_append_right (by omega), h8]
      have := bitsOf_get l (i - 8) (by simp at h; omega)
      rw [bitsOf] at this
      rw [this, bitAt, bitAt, show i / 8 = (i - 8) / 8 + 1 by omega, List.getD_cons_succ, show (i - 8) % 8 = i % 8 by omega]
/-- two rows of bytes that differ, and only within 32 bits in a row, have unlike registers -/
theorem crc_burst (r : BitVec 32) (l m : List UInt8) (hl : l.length = m.length) (f n : Nat) (hn : n ≤ 32) (heq : ∀ i, i < 8 * l.length → (i < f ∨ f + n ≤ i) → bitAt l i = bitAt m i) (i : Nat) (hi : i < 8 * l.length) (hne : bitAt l i ≠ bitAt m i) : crcRun r l ≠ crcRun r m := fun h => by
  rw [crcRun_bits, crcRun_bits] at h
  have := crcB_burst r (bitsOf l) (bitsOf m) (by rw [bitsOf_len, bitsOf_len, hl]) f n hn (fun j hj => by
    by_cases h2 : j < 8 * l.length
    · rw [bitsOf_get l j h2, bitsOf_get m j (by omega), heq j h2 hj]
    · rw [List.getElem?_eq_none (by rw [bitsOf_len]; omega), List.getElem?_eq_none (by rw [bitsOf_len]; omega)]) h
  have e : (bitsOf l)[i]? = (bitsOf m)[i]? := by rw [this]
  rw [bitsOf_get l i hi, bitsOf_get m i (by omega)] at e
  exact hne (Option.some.inj e)
end Go.Proofs.Ytpjmbhhfpoamnaa
