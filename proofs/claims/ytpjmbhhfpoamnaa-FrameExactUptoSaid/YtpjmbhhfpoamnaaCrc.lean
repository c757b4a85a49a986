import Derived.Test.YtpjmbhhfpoamnaaPre
set_option linter.unusedVariables false
set_option linter.unusedSimpArgs false
namespace Go.Proofs.Ytpjmbhhfpoamnaa

/-! ### the check sum's register -/
def crcBit (r : BitVec 32) : BitVec 32 := (r >>> 1) ^^^ (if r.getLsbD 0 then 0xedb88320#32 else 0#32)
def crcBits : Nat → BitVec 32 → BitVec 32
  | 0, r => r
  | n + 1, r => crcBit (crcBits n r)
def crcByte (c : UInt8) : BitVec 32 := BitVec.ofNat 32 c.toNat
def crcStep (r : BitVec 32) (c : UInt8) : BitVec 32 := crcBits 8 (r ^^^ crcByte c)
def crcRun (r : BitVec 32) (l : List UInt8) : BitVec 32 := l.foldl crcStep r
def crcSum (l : List UInt8) : BitVec 32 := ~~~ crcRun (BitVec.allOnes 32) l

theorem bv_xor_left_comm {n : Nat} (a b c : BitVec n) : a ^^^ (b ^^^ c) = b ^^^ (a ^^^ c) := by
  rw [← BitVec.xor_assoc, BitVec.xor_comm a b, BitVec.xor_assoc]
theorem bv_xor_cancel {n : Nat} (a b : BitVec n) : a ^^^ (b ^^^ a) = b := by
  rw [bv_xor_left_comm, BitVec.xor_self, BitVec.xor_zero]
theorem crcBit_xor (a b : BitVec 32) : crcBit (a ^^^ b) = crcBit a ^^^ crcBit b := by
  unfold crcBit
  rw [BitVec.ushiftRight_xor_distrib, BitVec.getLsbD_xor]
  cases a.getLsbD 0 <;> cases b.getLsbD 0 <;> simp [BitVec.xor_assoc, BitVec.xor_comm, bv_xor_left_comm, bv_xor_cancel]
theorem crcBit_zero : crcBit 0#32 = 0#32 := by decide
theorem crcBit_eq_zero {r : BitVec 32} (h : crcBit r = 0#32) : r = 0#32 := by
  unfold crcBit at h
  by_cases h0 : r.getLsbD 0 = true
  · rw [if_pos h0] at h
    have h1 : (r >>> 1) = 0xedb88320#32 := by rwa [BitVec.xor_eq_zero_iff] at h
    have h2 : (r >>> 1).getLsbD 31 = (0xedb88320#32).getLsbD 31 := by rw [h1]
    simp at h2
  · rw [if_neg h0, BitVec.xor_zero] at h
    refine BitVec.eq_of_getLsbD_eq fun i hi => ?_
    cases i with
    | zero => simpa using h0
    | succ i =>
      have := congrArg (fun x => BitVec.getLsbD x i) h
      simpa [Nat.add_comm] using this
theorem crcBits_xor (n : Nat) (a b : BitVec 32) : crcBits n (a ^^^ b) = crcBits n a ^^^ crcBits n b := by
  induction n with
  | zero => rfl
  | succ n ih => simp only [crcBits, ih, crcBit_xor]
theorem crcBits_zero (n : Nat) : crcBits n 0#32 = 0#32 := by
  induction n with
  | zero => rfl
  | succ n ih => simp only [crcBits, ih, crcBit_zero]
theorem crcBits_eq_zero {n : Nat} {r : BitVec 32} (h : crcBits n r = 0#32) : r = 0#32 := by
  induction n with
  | zero => exact h
  | succ n ih => exact ih (crcBit_eq_zero h)
theorem crcBits_add (m n : Nat) (r : BitVec 32) : crcBits (m + n) r = crcBits m (crcBits n r) := by
  induction m with
  | zero => simp [crcBits]
  | succ m ih => rw [Nat.succ_add]; simp only [crcBits, ih]
/-- bits that leave below without a one among them -/
theorem crcBits_shift (n : Nat) (r : BitVec 32) (h : ∀ i, i < n → r.getLsbD i = false) : crcBits n r = r >>> n := by
  induction n with
  | zero => simp [crcBits]
  | succ n ih =>
    simp only [crcBits]
    rw [ih (fun i hi => h i (by omega))]
    unfold crcBit
    rw [if_neg (by simp [h n (by omega)]), BitVec.xor_zero, ← BitVec.shiftRight_add]
theorem crcByte_xor (a b : UInt8) : crcByte (a ^^^ b) = crcByte a ^^^ crcByte b := by
  unfold crcByte
  rw [UInt8.toNat_xor, ← BitVec.ofNat_xor]
theorem crcStep_xor (r s : BitVec 32) (a b : UInt8) : crcStep (r ^^^ s) (a ^^^ b) = crcStep r a ^^^ crcStep s b := by
  unfold crcStep
  rw [← crcBits_xor, crcByte_xor]
  congr 1
  simp [BitVec.xor_assoc, bv_xor_left_comm, bv_xor_cancel]
theorem crcRun_append (r : BitVec 32) (l m : List UInt8) : crcRun r (l ++ m) = crcRun (crcRun r l) m := by simp [crcRun]
/-- the register's algebra: two lists of one length -/
theorem crcRun_xor : ∀ (l m : List UInt8) (r s : BitVec 32), l.length = m.length → crcRun (r ^^^ s) (List.zipWith (· ^^^ ·) l m) = crcRun r l ^^^ crcRun s m
  | [], [], r, s, _ => rfl
  | a :: l, b :: m, r, s, h => by
    simp only [List.zipWith_cons_cons, crcRun, List.foldl_cons]
    rw [crcStep_xor]
    exact crcRun_xor l m _ _ (by simpa using h)
theorem crcRun_zeros (n : Nat) (r : BitVec 32) : crcRun r (List.replicate n 0) = crcBits (8 * n) r := by
  induction n generalizing r with
  | zero => rfl
  | succ n ih =>
    rw [List.replicate_succ]
    show crcRun (crcStep r 0) _ = _
    rw [ih, show 8 * (n + 1) = 8 * n + 8 by omega, crcBits_add]
    congr 1
    simp [crcStep, crcByte]
theorem crcByte_bit (c : UInt8) (i : Nat) (h : 8 ≤ i) : (crcByte c).getLsbD i = false := by
  unfold crcByte
  rw [BitVec.getLsbD_ofNat]
  have h1 : c.toNat.testBit i = false := Nat.testBit_lt_two_pow (Nat.lt_of_lt_of_le (u8_lt c) (Nat.pow_le_pow_right (n := 2) (by decide) h))
  simp [h1]
theorem crcBits_byte (c : UInt8) (n : Nat) (hn : n ≤ 24) : crcBits n (crcByte c <<< n) = crcByte c := by
  rw [crcBits_shift n _ (by intro i hi; simp; omega)]
  refine BitVec.eq_of_getLsbD_eq fun i hi => ?_
  simp only [BitVec.getLsbD_ushiftRight, BitVec.getLsbD_shiftLeft]
  by_cases h : n + i < 32
  · simp [h]
  · rw [crcByte_bit c i (by omega)]
    simp [h]
/-- four bytes are one word -/
def crcWord (a b c d : UInt8) : BitVec 32 := crcByte a ^^^ crcByte b <<< 8 ^^^ crcByte c <<< 16 ^^^ crcByte d <<< 24
theorem crcRun_four (r : BitVec 32) (a b c d : UInt8) : crcRun r [a, b, c, d] = crcBits 32 (r ^^^ crcWord a b c d) := by
  have hb : crcBits 32 (crcByte b <<< 8) = crcBits 24 (crcByte b) := (crcBits_add 24 8 _).trans (by rw [crcBits_byte b 8 (by decide)])
  have hc : crcBits 32 (crcByte c <<< 16) = crcBits 16 (crcByte c) := (crcBits_add 16 16 _).trans (by rw [crcBits_byte c 16 (by decide)])
  have hd : crcBits 32 (crcByte d <<< 24) = crcBits 8 (crcByte d) := (crcBits_add 8 24 _).trans (by rw [crcBits_byte d 24 (by decide)])
  unfold crcWord
  simp only [crcBits_xor, hb, hc, hd, crcRun, List.foldl_cons, List.foldl_nil, crcStep, ← crcBits_add, Nat.reduceAdd]
  simp only [BitVec.xor_assoc]
/-- the word that the four bytes of a number are, the lowest first -/
theorem crcWord_of (n : Nat) (hn : n < 4294967296) : crcWord (UInt8.ofNat n) (UInt8.ofNat (n / 256)) (UInt8.ofNat (n / 65536)) (UInt8.ofNat (n / 16777216)) = BitVec.ofNat 32 n := by
  have hb : ∀ (m k i : Nat), i < 32 → ((crcByte (UInt8.ofNat (n / 2 ^ k))) <<< k).getLsbD i = (decide (k ≤ i) && decide (i < k + 8) && n.testBit i) := by
    intro m k i hi
    rw [BitVec.getLsbD_shiftLeft]
    unfold crcByte
    rw [BitVec.getLsbD_ofNat, UInt8.toNat_ofNat', Nat.testBit_mod_two_pow, Nat.testBit_div_two_pow]
    by_cases h1 : k ≤ i
    · by_cases h2 : i < k + 8
      · simp [hi, h1, h2, show i - k < 32 by omega, show i - k < 8 by omega, show k + (i - k) = i by omega, Nat.not_lt.2 h1]
      · simp [hi, h1, h2, show ¬ i - k < 8 by omega]
    · simp [hi, h1, Nat.lt_of_not_le h1]
  refine BitVec.eq_of_getLsbD_eq fun i hi => ?_
  unfold crcWord
  have e0 : crcByte (UInt8.ofNat n) = crcByte (UInt8.ofNat (n / 2 ^ 0)) <<< 0 := by simp
  rw [e0, show n / 256 = n / 2 ^ 8 from rfl, show n / 65536 = n / 2 ^ 16 from rfl, show n / 16777216 = n / 2 ^ 24 from rfl]
  simp only [BitVec.getLsbD_xor]
  rw [hb 0 0 i hi, hb 0 8 i hi, hb 0 16 i hi, hb 0 24 i hi, BitVec.getLsbD_ofNat]
  rcases (show i < 8 ∨ (8 ≤ i ∧ i < 16) ∨ (16 ≤ i ∧ i < 24) ∨ (24 ≤ i ∧ i < 32) by omega) with h | ⟨h, h'⟩ | ⟨h, h'⟩ | ⟨h, h'⟩
  · simp [hi, h, show ¬ 8 ≤ i by omega, show ¬ 16 ≤ i by omega, show ¬ 24 ≤ i by omega]
  · simp [hi, h, h', show ¬ i < 8 by omega, show ¬ 16 ≤ i by omega, show ¬ 24 ≤ i by omega]
  · simp [hi, h, h', show ¬ i < 8 by omega, show ¬ i < 16 by omega, show 8 ≤ i by omega, show ¬ 24 ≤ i by omega]
  · simp [hi, h, h', show ¬ i < 8 by omega, show ¬ i < 16 by omega, show 8 ≤ i by omega, show 16 ≤ i by omega, show ¬ i < 24 by omega]
/-- what a sum tells of its last four bytes -/
theorem crcSum_last (l : List UInt8) (n : Nat) (hn : n < 4294967296) :
    crcSum (l ++ [0, 0, 0, 0]) = crcSum (l ++ [UInt8.ofNat n, UInt8.ofNat (n / 256), UInt8.ofNat (n / 65536), UInt8.ofNat (n / 16777216)]) ↔ n = 0 := by
  unfold crcSum
  have hinj : ∀ x y : BitVec 32, (~~~x = ~~~y) ↔ x = y := fun x y => ⟨fun h => by have := congrArg (fun z => ~~~z) h; simpa using this, fun h => by rw [h]⟩
  rw [hinj, crcRun_append, crcRun_append, crcRun_four, crcRun_four, crcWord_of n hn]
  constructor
  · intro h
    have e : crcWord 0 0 0 0 = 0#32 := by decide
    rw [e, BitVec.xor_zero, crcBits_xor] at h
    generalize crcBits 32 (crcRun (BitVec.allOnes 32) l) = x at h
    have h2 : crcBits 32 (BitVec.ofNat 32 n) = 0#32 := by
      have := congrArg (fun y => x ^^^ y) h
      simpa [← BitVec.xor_assoc] using this.symm
    have h3 := congrArg BitVec.toNat (crcBits_eq_zero h2)
    simpa [Nat.mod_eq_of_lt hn] using h3
  · rintro rfl
    rfl
/-- the sum is affine -/
theorem crcSum_three (a b c : List UInt8) (h : a.length = b.length) (h2 : b.length = c.length) :
    crcSum (List.zipWith (· ^^^ ·) (List.zipWith (· ^^^ ·) a b) c) = crcSum a ^^^ crcSum b ^^^ crcSum c := by
  unfold crcSum
  have e1 : BitVec.allOnes 32 = (0#32 : BitVec 32) ^^^ BitVec.allOnes 32 := by decide
  have e2 := crcRun_xor (List.zipWith (· ^^^ ·) a b) c 0#32 (BitVec.allOnes 32) (by simp; omega)
  have e3 := crcRun_xor a b (BitVec.allOnes 32) (BitVec.allOnes 32) h
  rw [← e1] at e2
  rw [BitVec.xor_self] at e3
  have e0 : BitVec.ofNat 32 0 = 0#32 := rfl
  rw [e2]
  rw [e0] at e3
  rw [e3]
  generalize crcRun (BitVec.allOnes 32) a = x
  generalize crcRun (BitVec.allOnes 32) b = y
  generalize crcRun (BitVec.allOnes 32) c = z
  refine BitVec.eq_of_getLsbD_eq fun i hi => ?_
  simp only [BitVec.getLsbD_not, BitVec.getLsbD_xor, hi]
  cases x.getLsbD i <;> cases y.getLsbD i <;> cases z.getLsbD i <;> rfl
end Go.Proofs.Ytpjmbhhfpoamnaa
