import Derived.Test.YtpjmbhhfpoamnaaChecked
import Derived.Test.YtpjmbhhfpoamnaaJm1
import Derived.Deep.RegionHeld3
set_option linter.unusedVariables false
set_option linter.unusedSimpArgs false
namespace Go.Proofs.Ytpjmbhhfpoamnaa
open Go.RowKit

/-! ### width -/
theorem pow_half (W k : Nat) (h : k < W) : ((2:Int) ^ (W - k) - 1) / 2 = 2 ^ (W - (k+1)) - 1 := by
  have : W - k = (W - (k+1)) + 1 := by omega
  rw [this, Int.pow_succ]; omega
theorem pow_ne (W k : Nat) (h : k < W) : ((2:Int) ^ (W - k) - 1 == 0) = false := by
  have : (0:Int) < 2 ^ (W - (k+1)) := Int.pow_pos (by decide)
  have h2 : W - k = (W - (k+1)) + 1 := by omega
  rw [beq_eq_false_iff_ne, h2, Int.pow_succ]; omega
set_option maxHeartbeats 400000 in
theorem width32 (w : World) : Calls Try.prog 123 #[] w fun e w' => e = .returned (.int .i64 32) ∧ w = w' := by
  go_enter Try.func123, Try.ntmps123
  go_wp2
  go_loop [1, 2] (fun n x => ∃ k : Nat, k ≤ 32 ∧ n = .int .i64 k ∧ x = .int .u32 ((2:Int)^(32-k) - 1)) (fun n _ => 32 - (intOf n).toNat)
  case atStart => exact ⟨0, by omega, rfl, rfl⟩
  case round =>
    obtain ⟨k, hk, rfl, rfl⟩ := hrel
    by_cases hlt : k < 32
    · have h1 := pow_ne 32 k hlt
      go_wp2
      go_round
      case rel => exact ⟨k+1, by omega, by go_num, by rw [← pow_half 32 k hlt]⟩
      case measure => simp [intOf]; omega
    · obtain rfl : k = 32 := by omega
      go_wp2
      go_ret
      exact ⟨rfl, rfl⟩
set_option maxHeartbeats 400000 in
theorem width64 (w : World) : Calls Try.prog 142 #[] w fun e w' => e = .returned (.int .i64 64) ∧ w = w' := by
  go_enter Try.func142, Try.ntmps142
  go_wp2
  go_loop [1, 2] (fun n x => ∃ k : Nat, k ≤ 64 ∧ n = .int .i64 k ∧ x = .int .u64 ((2:Int)^(64-k) - 1)) (fun n _ => 64 - (intOf n).toNat)
  case atStart => exact ⟨0, by omega, rfl, rfl⟩
  case round =>
    obtain ⟨k, hk, rfl, rfl⟩ := hrel
    by_cases hlt : k < 64
    · have h1 := pow_ne 64 k hlt
      go_wp2
      go_round
      case rel => exact ⟨k+1, by omega, by go_num, by rw [← pow_half 64 k hlt]⟩
      case measure => simp [intOf]; omega
    · obtain rfl : k = 64 := by omega
      go_wp2
      go_ret
      exact ⟨rfl, rfl⟩

/-! ### turns -/
def rotL (W : Nat) (a : Nat) (n : Int) : Nat := ((BitVec.ofNat W a).rotateLeft (n % W).toNat).toNat
def rotR (W : Nat) (a : Nat) (n : Int) : Nat := ((BitVec.ofNat W a).rotateRight (n % W).toNat).toNat
theorem ret_int {k : IntKind} {a b : Int} (h : a = b) : Ending.returned (.int k a) = .returned (.int k b) := by rw [h]
theorem wraps_u32 (n : Int) (h₀ : 0 ≤ n) (h₁ : n < 2 ^ 32) : IntKind.u32.wrap n = n := by rw [IntKind.wrap_u32]; omega
theorem wraps_u64 (n : Int) (h₀ : 0 ≤ n) (h₁ : n < 2 ^ 64) : IntKind.u64.wrap n = n := by rw [IntKind.wrap_u64]; omega
theorem bits_xor_nat (k : IntKind) (j : Nat) (hj : j ≤ k.bits) (hk : ∀ n : Int, 0 ≤ n → n < 2 ^ j → k.wrap n = n) (a b : Nat) (ha : a < 2 ^ j) (hb : b < 2 ^ j) :
    bits .xor k a b = ((a ^^^ b : Nat) : Int) := by
  have hp : 2 ^ j ≤ 2 ^ k.bits := Nat.pow_le_pow_right (by decide) hj
  have ha' : a % 2 ^ k.bits = a := Nat.mod_eq_of_lt (Nat.lt_of_lt_of_le ha hp)
  have hb' : b % 2 ^ k.bits = b := Nat.mod_eq_of_lt (Nat.lt_of_lt_of_le hb hp)
  have cast : ∀ n : Nat, n < 2 ^ j → ((n : Nat) : Int) < 2 ^ j := fun n h => by exact_mod_cast h
  simp only [bits, BitVec.ofInt_natCast, BitVec.toNat_xor, BitVec.toNat_ofNat, ha', hb']
  exact hk _ (Int.natCast_nonneg _) (cast _ (Nat.xor_lt_two_pow ha hb))
theorem bits_or8 (a b : Nat) (ha : a < 2 ^ 8) (hb : b < 2 ^ 8) : bits .or .u8 a b = ((a ||| b : Nat) : Int) := (bits_nat .u8 8 (by decide) wraps_u8 a b ha hb).2
theorem bits_or32 (a b : Nat) (ha : a < 2 ^ 32) (hb : b < 2 ^ 32) : bits .or .u32 a b = ((a ||| b : Nat) : Int) := (bits_nat .u32 32 (by decide) wraps_u32 a b ha hb).2
theorem bits_or64 (a b : Nat) (ha : a < 2 ^ 64) (hb : b < 2 ^ 64) : bits .or .u64 a b = ((a ||| b : Nat) : Int) := (bits_nat .u64 64 (by decide) wraps_u64 a b ha hb).2
theorem bits_and8 (a b : Nat) (ha : a < 2 ^ 8) (hb : b < 2 ^ 8) : bits .and .u8 a b = ((a &&& b : Nat) : Int) := (bits_nat .u8 8 (by decide) wraps_u8 a b ha hb).1
theorem bits_and32 (a b : Nat) (ha : a < 2 ^ 32) (hb : b < 2 ^ 32) : bits .and .u32 a b = ((a &&& b : Nat) : Int) := (bits_nat .u32 32 (by decide) wraps_u32 a b ha hb).1
theorem bits_and64 (a b : Nat) (ha : a < 2 ^ 64) (hb : b < 2 ^ 64) : bits .and .u64 a b = ((a &&& b : Nat) : Int) := (bits_nat .u64 64 (by decide) wraps_u64 a b ha hb).1
theorem bits_xor8 (a b : Nat) (ha : a < 2 ^ 8) (hb : b < 2 ^ 8) : bits .xor .u8 a b = ((a ^^^ b : Nat) : Int) := bits_xor_nat .u8 8 (by decide) wraps_u8 a b ha hb
theorem bits_xor32 (a b : Nat) (ha : a < 2 ^ 32) (hb : b < 2 ^ 32) : bits .xor .u32 a b = ((a ^^^ b : Nat) : Int) := bits_xor_nat .u32 32 (by decide) wraps_u32 a b ha hb
theorem bits_xor64 (a b : Nat) (ha : a < 2 ^ 64) (hb : b < 2 ^ 64) : bits .xor .u64 a b = ((a ^^^ b : Nat) : Int) := bits_xor_nat .u64 64 (by decide) wraps_u64 a b ha hb
theorem places32 (n : Int) : bits .and .u64 (IntKind.u64.wrap n) 31 = n % 32 := by
  obtain ⟨m, hm⟩ := Int.eq_ofNat_of_zero_le (show 0 ≤ IntKind.u64.wrap n by rw [IntKind.wrap_u64]; omega)
  have hlt : m < 2 ^ 64 := by rw [IntKind.wrap_u64] at hm; omega
  rw [hm, show (31 : Int) = ((31 : Nat) : Int) from rfl, bits_and64 m 31 hlt (by decide), show 31 = 2 ^ 5 - 1 from rfl, Nat.and_two_pow_sub_one_eq_mod]
  rw [IntKind.wrap_u64] at hm
  omega
theorem places64 (n : Int) : bits .and .u64 (IntKind.u64.wrap n) 63 = n % 64 := by
  obtain ⟨m, hm⟩ := Int.eq_ofNat_of_zero_le (show 0 ≤ IntKind.u64.wrap n by rw [IntKind.wrap_u64]; omega)
  have hlt : m < 2 ^ 64 := by rw [IntKind.wrap_u64] at hm; omega
  rw [hm, show (63 : Int) = ((63 : Nat) : Int) from rfl, bits_and64 m 63 hlt (by decide), show 63 = 2 ^ 6 - 1 from rfl, Nat.and_two_pow_sub_one_eq_mod]
  rw [IntKind.wrap_u64] at hm
  omega
theorem rotL32_eq (a : Nat) (ha : a < 4294967296) (n : Int) : bits BinOp.or IntKind.u32 (↑a * 2 ^ (n % 32).toNat % 4294967296) (↑a / 2 ^ (32 - n % 32).toNat) = ((rotL 32 a n : Nat) : Int) := by
  obtain ⟨k, hk⟩ := Int.eq_ofNat_of_zero_le (show 0 ≤ n % 32 by omega)
  have hk2 : k < 32 := by omega
  have e1 : ((a : Int) * 2 ^ (n % 32).toNat % 4294967296) = ((a * 2 ^ k % 4294967296 : Nat) : Int) := by rw [hk]; simp
  have e2 : ((a : Int) / 2 ^ (32 - n % 32).toNat) = ((a / 2 ^ (32 - k) : Nat) : Int) := by rw [hk, show ((32 : Int) - (k : Int)).toNat = 32 - k by omega]; simp
  rw [e1, e2, bits_or32 _ _ (by omega) (Nat.lt_of_le_of_lt (Nat.div_le_self _ _) ha)]
  unfold rotL
  rw [show (n % ((32 : Nat) : Int)).toNat = k by omega, BitVec.rotateLeft_def, Nat.mod_eq_of_lt hk2]
  simp [Nat.shiftLeft_eq, Nat.shiftRight_eq_div_pow, Nat.mod_eq_of_lt ha]
theorem rotR32_eq (a : Nat) (ha : a < 4294967296) (n : Int) : bits BinOp.or IntKind.u32 (↑a / 2 ^ (n % 32).toNat) (↑a * 2 ^ (32 - n % 32).toNat % 4294967296) = ((rotR 32 a n : Nat) : Int) := by
  obtain ⟨k, hk⟩ := Int.eq_ofNat_of_zero_le (show 0 ≤ n % 32 by omega)
  have hk2 : k < 32 := by omega
  have e1 : ((a : Int) / 2 ^ (n % 32).toNat) = ((a / 2 ^ k : Nat) : Int) := by rw [hk]; simp
  have e2 : ((a : Int) * 2 ^ (32 - n % 32).toNat % 4294967296) = ((a * 2 ^ (32 - k) % 4294967296 : Nat) : Int) := by rw [hk, show ((32 : Int) - (k : Int)).toNat = 32 - k by omega]; simp
  rw [e1, e2, bits_or32 _ _ (Nat.lt_of_le_of_lt (Nat.div_le_self _ _) ha) (by omega)]
  unfold rotR
  rw [show (n % ((32 : Nat) : Int)).toNat = k by omega, BitVec.rotateRight_def, Nat.mod_eq_of_lt hk2]
  simp [Nat.shiftLeft_eq, Nat.shiftRight_eq_div_pow, Nat.mod_eq_of_lt ha]
theorem rotL64_eq (a : Nat) (ha : a < 18446744073709551616) (n : Int) : bits BinOp.or IntKind.u64 (↑a * 2 ^ (n % 64).toNat % 18446744073709551616) (↑a / 2 ^ (64 - n % 64).toNat) = ((rotL 64 a n : Nat) : Int) := by
  obtain ⟨k, hk⟩ := Int.eq_ofNat_of_zero_le (show 0 ≤ n % 64 by omega)
  have hk2 : k < 64 := by omega
  have e1 : ((a : Int) * 2 ^ (n % 64).toNat % 18446744073709551616) = ((a * 2 ^ k % 18446744073709551616 : Nat) : Int) := by rw [hk]; simp
  have e2 : ((a : Int) / 2 ^ (64 - n % 64).toNat) = ((a / 2 ^ (64 - k) : Nat) : Int) := by rw [hk, show ((64 : Int) - (k : Int)).toNat = 64 - k by omega]; simp
  rw [e1, e2, bits_or64 _ _ (by omega) (Nat.lt_of_le_of_lt (Nat.div_le_self _ _) ha)]
  unfold rotL
  rw [show (n % ((64 : Nat) : Int)).toNat = k by omega, BitVec.rotateLeft_def, Nat.mod_eq_of_lt hk2]
  simp [Nat.shiftLeft_eq, Nat.shiftRight_eq_div_pow, Nat.mod_eq_of_lt ha]
theorem rotR64_eq (a : Nat) (ha : a < 18446744073709551616) (n : Int) : bits BinOp.or IntKind.u64 (↑a / 2 ^ (n % 64).toNat) (↑a * 2 ^ (64 - n % 64).toNat % 18446744073709551616) = ((rotR 64 a n : Nat) : Int) := by
  obtain ⟨k, hk⟩ := Int.eq_ofNat_of_zero_le (show 0 ≤ n % 64 by omega)
  have hk2 : k < 64 := by omega
  have e1 : ((a : Int) / 2 ^ (n % 64).toNat) = ((a / 2 ^ k : Nat) : Int) := by rw [hk]; simp
  have e2 : ((a : Int) * 2 ^ (64 - n % 64).toNat % 18446744073709551616) = ((a * 2 ^ (64 - k) % 18446744073709551616 : Nat) : Int) := by rw [hk, show ((64 : Int) - (k : Int)).toNat = 64 - k by omega]; simp
  rw [e1, e2, bits_or64 _ _ (Nat.lt_of_le_of_lt (Nat.div_le_self _ _) ha) (by omega)]
  unfold rotR
  rw [show (n % ((64 : Nat) : Int)).toNat = k by omega, BitVec.rotateRight_def, Nat.mod_eq_of_lt hk2]
  simp [Nat.shiftLeft_eq, Nat.shiftRight_eq_div_pow, Nat.mod_eq_of_lt ha]
end Go.Proofs.Ytpjmbhhfpoamnaa

namespace Go.Proofs.Ytpjmbhhfpoamnaa

/-! ### the check sum's register -/
def crcBit (r : BitVec 32) : BitVec 32 := (r >>> 1) ^^^ (if r.getLsbD 0 then 0xedb88320#32 else 0#32)
def crcBits : Nat → BitVec 32 → BitVec 32
  | 0, r => r
  | n + 1, r => crcBit (crcBits n r)
def crcByte (c : UInt8) : BitVec 32 := BitVec.ofNat 32 c.toNat
def crcStep (r : BitVec 32) (c : UInt8) : BitVec 32 := crcBits 8 (r ^^^ crcByte c)
def crcRun (r : BitVec 32) (l : List UInt8) : BitVec 32 := l.foldl crcStep r
def crcSum (l : List UInt8) : BitVec 32 := ~~~ crcRun (BitVec.allOnes 32) l

theorem bv_xor_left_comm {n : Nat} (a b c : BitVec n) : a ^^^ (b ^^^ c) = b ^^^ (a ^^^ c) := by
  rw [← BitVec.xor_assoc, BitVec.xor_comm a b, BitVec.xor_assoc]
theorem bv_xor_cancel {n : Nat} (a b : BitVec n) : a ^^^ (b ^^^ a) = b := by
  rw [bv_xor_left_comm, BitVec.xor_self, BitVec.xor_zero]
theorem crcBit_xor (a b : BitVec 32) : crcBit (a ^^^ b) = crcBit a ^^^ crcBit b := by
  unfold crcBit
  rw [BitVec.ushiftRight_xor_distrib, BitVec.getLsbD_xor]
  cases a.getLsbD 0 <;> cases b.getLsbD 0 <;> simp [BitVec.xor_assoc, BitVec.xor_comm, bv_xor_left_comm, bv_xor_cancel]
theorem crcBit_zero : crcBit 0#32 = 0#32 := by decide
theorem crcBit_eq_zero {r : BitVec 32} (h : crcBit r = 0#32) : r = 0#32 := by
  unfold crcBit at h
  by_cases h0 : r.getLsbD 0 = true
  · rw [if_pos h0] at h
    have h1 : (r >>> 1) = 0xedb88320#32 := by rwa [BitVec.xor_eq_zero_iff] at h
    have h2 : (r >>> 1).getLsbD 31 = (0xedb88320#32).getLsbD 31 := by rw [h1]
    simp at h2
  · rw [if_neg h0, BitVec.xor_zero] at h
    refine BitVec.eq_of_getLsbD_eq fun i hi => ?_
    cases i with
    | zero => simpa using h0
    | succ i =>
      have := congrArg (fun x => BitVec.getLsbD x i) h
      simpa [Nat.add_comm] using this
theorem crcBits_xor (n : Nat) (a b : BitVec 32) : crcBits n (a ^^^ b) = crcBits n a ^^^ crcBits n b := by
  induction n with
  | zero => rfl
  | succ n ih => simp only [crcBits, ih, crcBit_xor]
theorem crcBits_zero (n : Nat) : crcBits n 0#32 = 0#32 := by
  induction n with
  | zero => rfl
  | succ n ih => simp only [crcBits, ih, crcBit_zero]
theorem crcBits_eq_zero {n : Nat} {r : BitVec 32} (h : crcBits n r = 0#32) : r = 0#32 := by
  induction n with
  | zero => exact h
  | succ n ih => exact ih (crcBit_eq_zero h)
theorem crcBits_add (m n : Nat) (r : BitVec 32) : crcBits (m + n) r = crcBits m (crcBits n r) := by
  induction m with
  | zero => simp [crcBits]
  | succ m ih => rw [Nat.succ_add]; simp only [crcBits, ih]
/-- bits that leave below without a one among them -/
theorem crcBits_shift (n : Nat) (r : BitVec 32) (h : ∀ i, i < n → r.getLsbD i = false) : crcBits n r = r >>> n := by
  induction n with
  | zero => simp [crcBits]
  | succ n ih =>
    simp only [crcBits]
    rw [ih (fun i hi => h i (by omega))]
    unfold crcBit
    rw [if_neg (by simp [h n (by omega)]), BitVec.xor_zero, ← BitVec.shiftRight_add]
theorem crcByte_xor (a b : UInt8) : crcByte (a ^^^ b) = crcByte a ^^^ crcByte b := by
  unfold crcByte
  rw [UInt8.toNat_xor, ← BitVec.ofNat_xor]
theorem crcStep_xor (r s : BitVec 32) (a b : UInt8) : crcStep (r ^^^ s) (a ^^^ b) = crcStep r a ^^^ crcStep s b := by
  unfold crcStep
  rw [← crcBits_xor, crcByte_xor]
  congr 1
  simp [BitVec.xor_assoc, bv_xor_left_comm, bv_xor_cancel]
theorem crcRun_append (r : BitVec 32) (l m : List UInt8) : crcRun r (l ++ m) = crcRun (crcRun r l) m := by simp [crcRun]
/-- the register's algebra: two lists of one length -/
theorem crcRun_xor : ∀ (l m : List UInt8) (r s : BitVec 32), l.length = m.length → crcRun (r ^^^ s) (List.zipWith (· ^^^ ·) l m) = crcRun r l ^^^ crcRun s m
  | [], [], r, s, _ => rfl
  | a :: l, b :: m, r, s, h => by
    simp only [List.zipWith_cons_cons, crcRun, List.foldl_cons]
    rw [crcStep_xor]
    exact crcRun_xor l m _ _ (by simpa using h)
theorem crcRun_zeros (n : Nat) (r : BitVec 32) : crcRun r (List.replicate n 0) = crcBits (8 * n) r := by
  induction n generalizing r with
  | zero => rfl
  | succ n ih =>
    rw [List.replicate_succ]
    show crcRun (crcStep r 0) _ = _
    rw [ih, show 8 * (n + 1) = 8 * n + 8 by omega, crcBits_add]
    congr 1
    simp [crcStep, crcByte]
theorem crcByte_bit (c : UInt8) (i : Nat) (h : 8 ≤ i) : (crcByte c).getLsbD i = false := by
  unfold crcByte
  rw [BitVec.getLsbD_ofNat]
  have h1 : c.toNat.testBit i = false := Nat.testBit_lt_two_pow (Nat.lt_of_lt_of_le (u8_lt c) (Nat.pow_le_pow_right (n := 2) (by decide) h))
  simp [h1]
theorem crcBits_byte (c : UInt8) (n : Nat) (hn : n ≤ 24) : crcBits n (crcByte c <<< n) = crcByte c := by
  rw [crcBits_shift n _ (by intro i hi; simp; omega)]
  refine BitVec.eq_of_getLsbD_eq fun i hi => ?_
  simp only [BitVec.getLsbD_ushiftRight, BitVec.getLsbD_shiftLeft]
  by_cases h : n + i < 32
  · simp [h]
  · rw [crcByte_bit c i (by omega)]
    simp [h]
/-- four bytes are one word -/
def crcWord (a b c d : UInt8) : BitVec 32 := crcByte a ^^^ crcByte b <<< 8 ^^^ crcByte c <<< 16 ^^^ crcByte d <<< 24
theorem crcRun_four (r : BitVec 32) (a b c d : UInt8) : crcRun r [a, b, c, d] = crcBits 32 (r ^^^ crcWord a b c d) := by
  have hb : crcBits 32 (crcByte b <<< 8) = crcBits 24 (crcByte b) := (crcBits_add 24 8 _).trans (by rw [crcBits_byte b 8 (by decide)])
  have hc : crcBits 32 (crcByte c <<< 16) = crcBits 16 (crcByte c) := (crcBits_add 16 16 _).trans (by rw [crcBits_byte c 16 (by decide)])
  have hd : crcBits 32 (crcByte d <<< 24) = crcBits 8 (crcByte d) := (crcBits_add 8 24 _).trans (by rw [crcBits_byte d 24 (by decide)])
  unfold crcWord
  simp only [crcBits_xor, hb, hc, hd, crcRun, List.foldl_cons, List.foldl_nil, crcStep, ← crcBits_add, Nat.reduceAdd]
  simp only [BitVec.xor_assoc]
/-- the word that the four bytes of a number are, the lowest first -/
theorem crcWord_of (n : Nat) (hn : n < 4294967296) : crcWord (UInt8.ofNat n) (UInt8.ofNat (n / 256)) (UInt8.ofNat (n / 65536)) (UInt8.ofNat (n / 16777216)) = BitVec.ofNat 32 n := by
  have hb : ∀ (m k i : Nat), i < 32 → ((crcByte (UInt8.ofNat (n / 2 ^ k))) <<< k).getLsbD i = (decide (k ≤ i) && decide (i < k + 8) && n.testBit i) := by
    intro m k i hi
    rw [BitVec.getLsbD_shiftLeft]
    unfold crcByte
    rw [BitVec.getLsbD_ofNat, UInt8.toNat_ofNat', Nat.testBit_mod_two_pow, Nat.testBit_div_two_pow]
    by_cases h1 : k ≤ i
    · by_cases h2 : i < k + 8
      · simp [hi, h1, h2, show i - k < 32 by omega, show i - k < 8 by omega, show k + (i - k) = i by omega, Nat.not_lt.2 h1]
      · simp [hi, h1, h2, show ¬ i - k < 8 by omega]
    · simp [hi, h1, Nat.lt_of_not_le h1]
  refine BitVec.eq_of_getLsbD_eq fun i hi => ?_
  unfold crcWord
  have e0 : crcByte (UInt8.ofNat n) = crcByte (UInt8.ofNat (n / 2 ^ 0)) <<< 0 := by simp
  rw [e0, show n / 256 = n / 2 ^ 8 from rfl, show n / 65536 = n / 2 ^ 16 from rfl, show n / 16777216 = n / 2 ^ 24 from rfl]
  simp only [BitVec.getLsbD_xor]
  rw [hb 0 0 i hi, hb 0 8 i hi, hb 0 16 i hi, hb 0 24 i hi, BitVec.getLsbD_ofNat]
  rcases (show i < 8 ∨ (8 ≤ i ∧ i < 16) ∨ (16 ≤ i ∧ i < 24) ∨ (24 ≤ i ∧ i < 32) by omega) with h | ⟨h, h'⟩ | ⟨h, h'⟩ | ⟨h, h'⟩
  · simp [hi, h, show ¬ 8 ≤ i by omega, show ¬ 16 ≤ i by omega, show ¬ 24 ≤ i by omega]
  · simp [hi, h, h', show ¬ i < 8 by omega, show ¬ 16 ≤ i by omega, show ¬ 24 ≤ i by omega]
  · simp [hi, h, h', show ¬ i < 8 by omega, show ¬ i < 16 by omega, show 8 ≤ i by omega, show ¬ 24 ≤ i by omega]
  · simp [hi, h, h', show ¬ i < 8 by omega, show ¬ i < 16 by omega, show 8 ≤ i by omega, show 16 ≤ i by omega, show ¬ i < 24 by omega]
/-- what a sum tells of its last four bytes -/
theorem crcSum_last (l : List UInt8) (n : Nat) (hn : n < 4294967296) :
    crcSum (l ++ [0, 0, 0, 0]) = crcSum (l ++ [UInt8.ofNat n, UInt8.ofNat (n / 256), UInt8.ofNat (n / 65536), UInt8.ofNat (n / 16777216)]) ↔ n = 0 := by
  unfold crcSum
  have hinj : ∀ x y : BitVec 32, (~~~x = ~~~y) ↔ x = y := fun x y => ⟨fun h => by have := congrArg (fun z => ~~~z) h; simpa using this, fun h => by rw [h]⟩
  rw [hinj, crcRun_append, crcRun_append, crcRun_four, crcRun_four, crcWord_of n hn]
  constructor
  · intro h
    have e : crcWord 0 0 0 0 = 0#32 := by decide
    rw [e, BitVec.xor_zero, crcBits_xor] at h
    generalize crcBits 32 (crcRun (BitVec.allOnes 32) l) = x at h
    have h2 : crcBits 32 (BitVec.ofNat 32 n) = 0#32 := by
      have := congrArg (fun y => x ^^^ y) h
      simpa [← BitVec.xor_assoc] using this.symm
    have h3 := congrArg BitVec.toNat (crcBits_eq_zero h2)
    simpa [Nat.mod_eq_of_lt hn] using h3
  · rintro rfl
    rfl
/-- the sum is affine -/
theorem crcSum_three (a b c : List UInt8) (h : a.length = b.length) (h2 : b.length = c.length) :
    crcSum (List.zipWith (· ^^^ ·) (List.zipWith (· ^^^ ·) a b) c) = crcSum a ^^^ crcSum b ^^^ crcSum c := by
  unfold crcSum
  have e1 : BitVec.allOnes 32 = (0#32 : BitVec 32) ^^^ BitVec.allOnes 32 := by decide
  have e2 := crcRun_xor (List.zipWith (· ^^^ ·) a b) c 0#32 (BitVec.allOnes 32) (by simp; omega)
  have e3 := crcRun_xor a b (BitVec.allOnes 32) (BitVec.allOnes 32) h
  rw [← e1] at e2
  rw [BitVec.xor_self] at e3
  have e0 : BitVec.ofNat 32 0 = 0#32 := rfl
  rw [e2]
  rw [e0] at e3
  rw [e3]
  generalize crcRun (BitVec.allOnes 32) a = x
  generalize crcRun (BitVec.allOnes 32) b = y
  generalize crcRun (BitVec.allOnes 32) c = z
  refine BitVec.eq_of_getLsbD_eq fun i hi => ?_
  simp only [BitVec.getLsbD_not, BitVec.getLsbD_xor, hi]
  cases x.getLsbD i <;> cases y.getLsbD i <;> cases z.getLsbD i <;> rfl
end Go.Proofs.Ytpjmbhhfpoamnaa

namespace Go.Proofs.Ytpjmbhhfpoamnaa
open Go.RowKit

theorem crc_and1 (a : Nat) (ha : a < 4294967296) : bits .and .u32 (a : Int) 1 = ((a % 2 : Nat) : Int) := by
  rw [show (1 : Int) = ((1 : Nat) : Int) from rfl, bits_and32 a 1 (by omega) (by decide), Nat.and_one_is_mod]
/-- a turn of the register, as the code does it -/
theorem crc_turn (r : BitVec 32) :
    bits .xor .u32 ((r.toNat : Int) / 2) (bits .and .u32 3988292384 (-((r.toNat : Int) % 2) % 4294967296)) = ((crcBit r).toNat : Int) := by
  obtain ⟨odd, ho⟩ : ∃ odd, odd = r.toNat % 2 := ⟨_, rfl⟩
  rw [show -((r.toNat : Int) % 2) = 0 - (odd : Int) by omega]
  have hr := r.isLt
  have h0 : r.getLsbD 0 = decide (odd = 1) := by
    rw [BitVec.getLsbD, Nat.testBit_zero, ho]
  have e1 : ((r.toNat : Int) / 2) = ((r.toNat / 2 : Nat) : Int) := by omega
  have e3 : (3988292384 : Int) = ((3988292384 : Nat) : Int) := rfl
  rcases (show odd = 0 ∨ odd = 1 by omega) with h | h
  · subst h
    rw [e1, show ((0 - ((0 : Nat) : Int)) % 4294967296) = ((0 : Nat) : Int) by simp, e3, bits_and32 _ _ (by decide) (by decide), Nat.and_zero, bits_xor32 _ _ (by omega) (by decide), Nat.xor_zero]
    unfold crcBit
    rw [h0]
    simp [BitVec.toNat_ushiftRight, Nat.shiftRight_eq_div_pow]
  · subst h
    rw [e1, show ((0 - ((1 : Nat) : Int)) % 4294967296) = ((4294967295 : Nat) : Int) by decide, e3, bits_and32 _ _ (by decide) (by decide), show 3988292384 &&& 4294967295 = 3988292384 by decide, bits_xor32 _ _ (by omega) (by decide)]
    unfold crcBit
    rw [h0]
    simp [BitVec.toNat_ushiftRight, Nat.shiftRight_eq_div_pow]
set_option maxHeartbeats 400000 in
theorem step_any (w : World) (r : BitVec 32) (c : UInt8) :
    Calls Try.prog 88 #[.int .u32 (r.toNat : Int), .int .u8 (c.toNat : Int)] w fun e w' => e = .returned (.int .u32 ((crcStep r c).toNat : Int)) ∧ w = w' := by
  have hc := u8_lt c
  have hr := r.isLt
  have HX : Hid (bits .xor .u32 (r.toNat : Int) (c.toNat : Int) = ((r ^^^ crcByte c).toNat : Int)) := Lib.hid (by
    rw [bits_xor32 _ _ (by omega) (by omega), BitVec.toNat_xor]
    unfold crcByte
    rw [BitVec.toNat_ofNat, Nat.mod_eq_of_lt (show c.toNat < 2 ^ 32 by omega)])
  obtain ⟨r0, hr0⟩ : ∃ r0 : BitVec 32, r0 = r ^^^ crcByte c := ⟨_, rfl⟩
  rw [← hr0] at HX
  have HF : Hid (crcStep r c = crcBits 8 r0) := Lib.hid (by rw [hr0]; rfl)
  clear hr0
  have hx := HX.out
  go_enter Try.func88, Try.ntmps88
  go_wp2
  clear hx
  go_loop [0, 10] (fun x i => ∃ k : Nat, k ≤ 8 ∧ i = .int .i64 k ∧ x = .int .u32 ((crcBits k r0).toNat : Int)) (fun _ i => 8 - (intOf i).toNat)
  case atStart => exact ⟨0, by omega, rfl, rfl⟩
  case round =>
    obtain ⟨k, hk, rfl, rfl⟩ := hrel
    by_cases hlt : k < 8
    · obtain ⟨s, hs⟩ : ∃ s : BitVec 32, s = crcBits k r0 := ⟨_, rfl⟩
      have HS : Hid (crcBits (k + 1) r0 = crcBit s) := Lib.hid (by rw [hs]; rfl)
      rw [← hs]
      clear hs
      have hsl := s.isLt
      have h1 := crc_and1 s.toNat (by omega)
      have HT := Lib.hid (crc_turn s)
      go_wp2
      go_round
      case rel => exact ⟨k + 1, by omega, by go_num, by rw [HT.out, HS.out]⟩
      case measure => simp [intOf]; omega
    · obtain rfl : k = 8 := by omega
      go_wp2
      go_ret
      exact ⟨by (rw [HF.out]) <;> rfl, rfl⟩
theorem crcRun_take (r : BitVec 32) (l : List UInt8) (k : Nat) (h : k < l.length) : crcRun r (l.take (k + 1)) = crcStep (crcRun r (l.take k)) (UInt8.ofNat (bt l k)) := by
  rw [take_bt l k h, crcRun_append]; rfl
set_option maxHeartbeats 400000 in
theorem Sum_any (w : World) {A : Option Addr} {n c : Nat} {l : List UInt8} (h : Sl w 1 A n c (l.map by8)) :
    Calls Try.prog 44 #[.slice A n c] w fun e w' => e = .returned (.int .u32 ((crcSum l).toNat : Int)) ∧ w = w' := by
  have hl : l.length = n := by simpa using h.len
  have h1 := h.le; have h2 := h.max
  have HL := Lib.hid hl
  clear hl
  go_enter Try.func44, Try.ntmps44
  go_wp2
  go_loop [3, 8] (fun x i => ∃ k : Nat, k ≤ n ∧ i = .int .i64 k ∧ x = .int .u32 ((crcRun (BitVec.allOnes 32) (l.take k)).toNat : Int)) (fun _ i => n - (intOf i).toNat)
  case atStart => exact ⟨0, by omega, rfl, by simp [crcRun]⟩
  case round =>
    obtain ⟨k, hk, rfl, rfl⟩ := hrel
    obtain ⟨s, hs⟩ : ∃ s : BitVec 32, s = crcRun (BitVec.allOnes 32) (l.take k) := ⟨_, rfl⟩
    rw [← hs]
    have hsl := s.isLt
    by_cases hlt : k < n
    · obtain ⟨b, off, rfl⟩ := h.form (by omega)
      have g := h.byte k hlt
      have HT := Lib.hid (crcRun_take (BitVec.allOnes 32) l k (by rw [HL.out]; exact hlt))
      rw [← hs] at HT
      clear hs
      obtain ⟨y, hy⟩ : ∃ y : UInt8, y = UInt8.ofNat (bt l k) := ⟨_, rfl⟩
      have hy2 : bt l k = y.toNat := by rw [hy, UInt8.toNat_ofNat', Nat.mod_eq_of_lt (bt_lt l k)]
      rw [hy2] at g
      rw [← hy] at HT
      clear hy hy2
      go_wp2_with (go_at_call 88; refine (step_any _ _ _).mono ?_; rintro e w' ⟨rfl, rfl⟩)
      go_round
      case rel => exact ⟨k + 1, by omega, by go_num, by rw [HT.out]⟩
      case measure => simp [intOf]; omega
    · obtain rfl : k = n := by omega
      have HF : Hid (crcSum l = ~~~ s) := Lib.hid (by rw [hs, List.take_of_length_le (Nat.le_of_eq HL.out)]; rfl)
      clear hs
      have HN : Hid (bits BinOp.xor IntKind.u32 IntKind.u32.max (s.toNat : Int) = ((~~~ s).toNat : Int)) := Lib.hid (by
        rw [show IntKind.u32.max = ((4294967295 : Nat) : Int) from rfl, bits_xor32 _ _ (by decide) (by omega), BitVec.toNat_not]
        congr 1
        have h3 := Nat.xor_comm 4294967295 s.toNat
        have h4 : (~~~ s).toNat = (BitVec.allOnes 32 ^^^ s).toNat := by rw [BitVec.allOnes_xor]
        rw [BitVec.toNat_not, BitVec.toNat_xor] at h4
        exact h4.symm)
      go_wp2
      go_ret
      exact ⟨by (rw [HF.out, ← HN.out]) <;> rfl, rfl⟩
end Go.Proofs.Ytpjmbhhfpoamnaa

namespace Go.Proofs.Ytpjmbhhfpoamnaa
/-! ### the register, bit by bit: turned bits within 32 in a row are seen -/
def crcB (r : BitVec 32) (B : List Bool) : BitVec 32 := B.foldl (fun r b => crcBit (r ^^^ (if b then 1#32 else 0#32))) r
def ofB : List Bool → BitVec 32
  | [] => 0#32
  | b :: B => (if b then 1#32 else 0#32) ^^^ (ofB B <<< 1)
theorem ofB_bit : ∀ (B : List Bool) (i : Nat), (ofB B).getLsbD i = (decide (i < 32) && B.getD i false)
  | [], i => by simp [ofB]
  | b :: B, i => by
    rw [ofB, BitVec.getLsbD_xor, BitVec.getLsbD_shiftLeft]
    cases i with
    | zero => cases b <;> simp
    | succ i =>
      have h1 : (if b then 1#32 else 0#32 : BitVec 32).getLsbD (i + 1) = false := by cases b <;> simp
      rw [h1, show i + 1 - 1 = i by omega, ofB_bit B i, List.getD_cons_succ]
      by_cases h : i + 1 < 32
      · simp [h, show i < 32 by omega]
      · simp [h]
theorem crcBit_shl (x : BitVec 32) (h : x.getLsbD 31 = false) : crcBit (x <<< 1) = x := by
  unfold crcBit
  rw [if_neg (by simp), BitVec.xor_zero]
  refine BitVec.eq_of_getLsbD_eq fun i hi => ?_
  rw [BitVec.getLsbD_ushiftRight, BitVec.getLsbD_shiftLeft]
  by_cases h1 : 1 + i < 32
  · simp [h1]
  · obtain rfl : i = 31 := by omega
    rw [h]
    simp
theorem crcBits_succ' (n : Nat) (r : BitVec 32) : crcBits (n + 1) r = crcBits n (crcBit r) := crcBits_add n 1 r
theorem crcB_word : ∀ (B : List Bool) (r : BitVec 32), B.length ≤ 32 → crcB r B = crcBits B.length (r ^^^ ofB B)
  | [], r, _ => by simp [crcB, crcBits, ofB]
  | b :: B, r, h => by
    simp only [List.length_cons] at h ⊢
    have h0 : (ofB B).getLsbD 31 = false := by
      rw [ofB_bit, List.getD_eq_getElem?_getD, List.getElem?_eq_none (by omega)]
      simp
    show crcB (crcBit (r ^^^ (if b then 1#32 else 0#32))) B = _
    rw [crcB_word B _ (by omega), crcBits_succ', ofB, ← BitVec.xor_assoc, crcBit_xor _ (ofB B <<< 1), crcBit_shl _ h0]
theorem crcB_append (r : BitVec 32) (B C : List Bool) : crcB r (B ++ C) = crcB (crcB r B) C := by simp [crcB]
theorem crcB_zeros (n : Nat) (r : BitVec 32) : crcB r (List.replicate n false) = crcBits n r := by
  induction n generalizing r with
  | zero => rfl
  | succ n ih =>
    rw [List.replicate_succ, crcBits_succ']
    show crcB (crcBit (r ^^^ 0#32)) _ = _
    rw [ih, BitVec.xor_zero]
theorem crcB_xor : ∀ (B C : List Bool) (r s : BitVec 32), B.length = C.length → crcB (r ^^^ s) (List.zipWith (· ^^ ·) B C) = crcB r B ^^^ crcB s C
  | [], [], r, s, _ => rfl
  | a :: B, b :: C, r, s, h => by
    simp only [List.zipWith_cons_cons]
    show crcB (crcBit _) _ = crcB (crcBit _) B ^^^ crcB (crcBit _) C
    rw [← crcB_xor B C _ _ (by simpa using h), ← crcBit_xor]
    congr 2
    cases a <;> cases b <;> simp [BitVec.xor_assoc, bv_xor_left_comm, bv_xor_cancel, BitVec.xor_comm]
theorem ofB_zero {B : List Bool} (h : ofB B = 0#32) (hl : B.length ≤ 32) (i : Nat) : B.getD i false = false := by
  by_cases hi : i < 32
  · have := ofB_bit B i
    rw [h] at this
    simpa [hi] using this.symm
  · rw [List.getD_eq_getElem?_getD, List.getElem?_eq_none (by omega)]
    rfl
/-- two rows of bits that differ, and only within 32 in a row -/
theorem crcB_burst (r : BitVec 32) (B C : List Bool) (hl : B.length = C.length) (f n : Nat) (hn : n ≤ 32) (heq : ∀ i, (i < f ∨ f + n ≤ i) → B[i]? = C[i]?) (h : crcB r B = crcB r C) : B = C := by
  have hD := crcB_xor B C r r hl
  rw [h, BitVec.xor_self, BitVec.xor_self] at hD
  obtain ⟨D, hDe⟩ : ∃ D, D = List.zipWith (· ^^ ·) B C := ⟨_, rfl⟩
  rw [← hDe] at hD
  have hlen : D.length = B.length := by rw [hDe]; simp [hl]
  have hDi : ∀ i, D.getD i false = (B.getD i false ^^ C.getD i false) := fun i => by
    rw [hDe, List.getD_eq_getElem?_getD, List.getD_eq_getElem?_getD, List.getD_eq_getElem?_getD, List.getElem?_zipWith]
    by_cases hi : i < B.length
    · rw [List.getElem?_eq_getElem hi, List.getElem?_eq_getElem (show i < C.length by omega)]
      rfl
    · rw [List.getElem?_eq_none (by omega), List.getElem?_eq_none (show C.length ≤ i by omega)]
      rfl
  have hz : ∀ i, (i < f ∨ f + n ≤ i) → D.getD i false = false := fun i hi => by
    rw [hDi, List.getD_eq_getElem?_getD, List.getD_eq_getElem?_getD, heq i hi]
    simp
  have hrep : ∀ (E : List Bool), (∀ i, E.getD i false = false) → E = List.replicate E.length false := fun E hE => by
    refine List.ext_getElem (by simp) fun i h1 h2 => ?_
    have := hE i
    rw [List.getD_eq_getElem?_getD, List.getElem?_eq_getElem h1] at this
    simpa using this
  have hsplit : D = D.take f ++ ((D.drop f).take n ++ (D.drop f).drop n) := by rw [List.take_append_drop, List.take_append_drop]
  have e1 : D.take f = List.replicate (D.take f).length false := hrep _ fun i => by
    rw [List.getD_eq_getElem?_getD, List.getElem?_take]
    split
    · rename_i hi
      have := hz i (.inl hi)
      rwa [List.getD_eq_getElem?_getD] at this
    · rfl
  have e3 : (D.drop f).drop n = List.replicate ((D.drop f).drop n).length false := hrep _ fun i => by
    rw [List.getD_eq_getElem?_getD, List.drop_drop, List.getElem?_drop]
    have := hz (f + n + i) (.inr (by omega))
    rwa [List.getD_eq_getElem?_getD] at this
  have hall : D = List.replicate D.length false := by
    have hm : ∀ i, ((D.drop f).take n).getD i false = false := by
      rw [hsplit, crcB_append, crcB_append, e1, crcB_zeros, crcBits_zero, e3, crcB_zeros, crcB_word _ _ (by rw [List.length_take]; omega)] at hD
      have := crcBits_eq_zero (crcBits_eq_zero hD)
      rw [BitVec.zero_xor] at this
      exact ofB_zero this (by rw [List.length_take]; omega)
    refine hrep D fun i => ?_
    by_cases hi : i < f ∨ f + n ≤ i
    · exact hz i hi
    · have := hm (i - f)
      rw [List.getD_eq_getElem?_getD, List.getElem?_take_of_lt (by omega), List.getElem?_drop, show f + (i - f) = i by omega] at this
      rwa [List.getD_eq_getElem?_getD]
  refine List.ext_getElem hl fun i h1 h2 => ?_
  have h3 : D.getD i false = false := by
    rw [hall, List.getD_eq_getElem?_getD, List.getElem?_replicate]
    split <;> rfl
  rw [hDi, List.getD_eq_getElem?_getD, List.getD_eq_getElem?_getD, List.getElem?_eq_getElem h1, List.getElem?_eq_getElem h2] at h3
  simpa using h3
/-! ### bits of bytes -/
def bits8 (c : UInt8) : List Bool := (List.range 8).map fun i => c.toNat.testBit i
theorem crcStep_bits (r : BitVec 32) (c : UInt8) : crcStep r c = crcB r (bits8 c) := by
  rw [crcB_word _ _ (by simp [bits8])]
  have hl : (bits8 c).length = 8 := by simp [bits8]
  rw [hl]
  unfold crcStep
  congr 2
  refine BitVec.eq_of_getLsbD_eq fun i hi => ?_
  rw [ofB_bit, List.getD_eq_getElem?_getD]
  by_cases h : i < 8
  · rw [List.getElem?_eq_getElem (by omega)]
    simp [bits8, crcByte, BitVec.getLsbD_ofNat]
  · rw [List.getElem?_eq_none (by omega), crcByte_bit c i (by omega)]
    simp
def bitsOf (l : List UInt8) : List Bool := l.flatMap bits8
theorem crcRun_bits : ∀ (l : List UInt8) (r : BitVec 32), crcRun r l = crcB r (bitsOf l)
  | [], r => rfl
  | c :: l, r => by
    show crcRun (crcStep r c) l = _
    rw [crcRun_bits l, show bitsOf (c :: l) = bits8 c ++ bitsOf l from List.flatMap_cons, crcB_append, ← crcStep_bits]
theorem bitsOf_len (l : List UInt8) : (bitsOf l).length = 8 * l.length := by
  induction l with
  | nil => rfl
  | cons c l ih =>
    have : (bits8 c).length = 8 := by simp [bits8]
    rw [bitsOf, List.flatMap_cons, List.length_append, this, List.length_cons]
    have : (l.flatMap bits8).length = (bitsOf l).length := rfl
    omega
def bitAt (l : List UInt8) (i : Nat) : Bool := (l.getD (i / 8) 0).toNat.testBit (i % 8)
theorem bitsOf_get : ∀ (l : List UInt8) (i : Nat), i < 8 * l.length → (bitsOf l)[i]? = some (bitAt l i)
  | [], i, h => by simp at h
  | c :: l, i, h => by
    have h8 : (bits8 c).length = 8 := by simp [bits8]
    rw [bitsOf, List.flatMap_cons]
    by_cases hi : i < 8
    · rw [List.getElem?_append_left (by omega), List.getElem?_eq_getElem (by omega)]
      simp [bits8, bitAt, show i / 8 = 0 by omega, show i % 8 = i by omega]
    · rw [List.getElem?_append_right (by omega), h8]
      have := bitsOf_get l (i - 8) (by simp at h; omega)
      rw [bitsOf] at this
      rw [this, bitAt, bitAt, show i / 8 = (i - 8) / 8 + 1 by omega, List.getD_cons_succ, show (i - 8) % 8 = i % 8 by omega]
/-- two rows of bytes that differ, and only within 32 bits in a row, have unlike registers -/
theorem crc_burst (r : BitVec 32) (l m : List UInt8) (hl : l.length = m.length) (f n : Nat) (hn : n ≤ 32) (heq : ∀ i, i < 8 * l.length → (i < f ∨ f + n ≤ i) → bitAt l i = bitAt m i) (i : Nat) (hi : i < 8 * l.length) (hne : bitAt l i ≠ bitAt m i) : crcRun r l ≠ crcRun r m := fun h => by
  rw [crcRun_bits, crcRun_bits] at h
  have := crcB_burst r (bitsOf l) (bitsOf m) (by rw [bitsOf_len, bitsOf_len, hl]) f n hn (fun j hj => by
    by_cases h2 : j < 8 * l.length
    · rw [bitsOf_get l j h2, bitsOf_get m j (by omega), heq j h2 hj]
    · rw [List.getElem?_eq_none (by rw [bitsOf_len]; omega), List.getElem?_eq_none (by rw [bitsOf_len]; omega)]) h
  have e : (bitsOf l)[i]? = (bitsOf m)[i]? := by rw [this]
  rw [bitsOf_get l i hi, bitsOf_get m i (by omega)] at e
  exact hne (Option.some.inj e)
end Go.Proofs.Ytpjmbhhfpoamnaa

namespace Go.Proofs.Ytpjmbhhfpoamnaa
/-! ### frames, by definition -/
def be4 (x : Nat) : List UInt8 := [UInt8.ofNat (x / 16777216), UInt8.ofNat (x / 65536), UInt8.ofNat (x / 256), UInt8.ofNat x]
def le4 (x : Nat) : List UInt8 := [UInt8.ofNat x, UInt8.ofNat (x / 256), UInt8.ofNat (x / 65536), UInt8.ofNat (x / 16777216)]
theorem be_be4 (x : Nat) (h : x < 4294967296) : be (be4 x) = x := by
  simp [be, be4]
  omega
theorem le_le4 (x : Nat) (h : x < 4294967296) : le (le4 x) = x := by
  simp [le, le4]
  omega
theorem le_inj : ∀ (l m : List UInt8), l.length = m.length → le l = le m → l = m
  | [], [], _, _ => rfl
  | a :: l, b :: m, hl, h => by
    have e : ∀ (c : UInt8) (l : List UInt8), le (c :: l) = c.toNat + 256 * le l := fun _ _ => rfl
    rw [e, e] at h
    have h1 := u8_lt' a
    have h2 := u8_lt' b
    rw [le_inj l m (by simpa using hl) (by omega), show a = b from UInt8.toNat_inj.1 (by omega)]
where u8_lt' (c : UInt8) : c.toNat < 256 := c.toNat_lt
/-- what is summed, and a frame -/
def frS (k : UInt8) (p : List UInt8) : List UInt8 := k :: (be4 p.length ++ p)
def frB (k : UInt8) (p : List UInt8) : List UInt8 := 0xa5 :: (frS k p ++ le4 (crcSum (frS k p)).toNat)
theorem frS_len (k : UInt8) (p : List UInt8) : (frS k p).length = p.length + 5 := by simp [frS, be4]
theorem frB_len (k : UInt8) (p : List UInt8) : (frB k p).length = p.length + 10 := by simp [frB, frS_len, le4]
/-- what stands at the front: kind, payload, its end, and how it ends -/
def wholeD (d : List UInt8) : UInt8 × List UInt8 × Nat × Nat :=
  if d.length = 0 then (0, [], 0, 0) else if d.getD 0 0 ≠ 0xa5 then (0, [], 0, 4) else if d.length < 6 then (0, [], 0, 1) else
  if 262144 < be ((d.drop 2).take 4) then (0, [], 0, 2) else if d.length < 10 + be ((d.drop 2).take 4) then (0, [], 0, 1) else
  if le ((d.drop (6 + be ((d.drop 2).take 4))).take 4) ≠ (crcSum ((d.drop 1).take (5 + be ((d.drop 2).take 4)))).toNat then (0, [], 0, 3) else
  (d.getD 1 0, (d.drop 6).take (be ((d.drop 2).take 4)), 10 + be ((d.drop 2).take 4), 0)
theorem take_app {α : Type} (a b : List α) (n : Nat) (h : n ≤ a.length) : (a ++ b).take n = a.take n := by
  rw [List.take_append, show n - a.length = 0 by omega]; simp
theorem frB_parts (k : UInt8) (p r : List UInt8) : frB k p ++ r = 0xa5 :: k :: (be4 p.length ++ (p ++ (le4 (crcSum (frS k p)).toNat ++ r))) := by
  simp [frB, frS]
theorem wholeD_frame (k : UInt8) (p r : List UInt8) (hp : p.length ≤ 262144) : wholeD (frB k p ++ r) = (k, p, p.length + 10, 0) := by
  have hl : (frB k p ++ r).length = p.length + 10 + r.length := by rw [List.length_append, frB_len]
  have e := frB_parts k p r
  have hn : be (((frB k p ++ r).drop 2).take 4) = p.length := by
    rw [e]
    show be ((be4 p.length ++ _).take 4) = _
    rw [take_app _ _ _ (by simp [be4]), List.take_of_length_le (by simp [be4]), be_be4 _ (by omega)]
  have hs : (crcSum (frS k p)).toNat < 4294967296 := (crcSum (frS k p)).isLt
  have h6 : ((frB k p ++ r).drop (6 + p.length)).take 4 = le4 (crcSum (frS k p)).toNat := by
    rw [e]
    have : (0xa5 :: k :: (be4 p.length ++ (p ++ (le4 (crcSum (frS k p)).toNat ++ r)))) = (0xa5 :: k :: (be4 p.length ++ p)) ++ (le4 (crcSum (frS k p)).toNat ++ r) := by simp
    rw [this, List.drop_append, List.drop_of_length_le (by simp [be4]; omega), show 6 + p.length - (0xa5 :: k :: (be4 p.length ++ p)).length = 0 by simp [be4]; omega]
    simp [le4]
  have h1 : ((frB k p ++ r).drop 1).take (5 + p.length) = frS k p := by
    rw [show (frB k p ++ r).drop 1 = frS k p ++ (le4 (crcSum (frS k p)).toNat ++ r) by simp [frB], take_app _ _ _ (by rw [frS_len]; omega), List.take_of_length_le (by rw [frS_len]; omega)]
  unfold wholeD
  rw [hl, hn, h6, h1, le_le4 _ hs, if_neg (by omega), if_neg (by rw [e]; simp), if_neg (by omega), if_neg (by omega), if_neg (by omega), if_neg (by simp)]
  rw [show (frB k p ++ r).getD 1 0 = k by rw [e]; rfl, show ((frB k p ++ r).drop 6).take p.length = p by rw [e]; simp [be4], Nat.add_comm 10]
/-- the bounds of what is told -/
theorem wholeD_bound (d : List UInt8) (h : (wholeD d).2.2.2 = 0) (h0 : d ≠ []) : (wholeD d).2.2.1 = (wholeD d).2.1.length + 10 ∧ (wholeD d).2.2.1 ≤ d.length ∧ (wholeD d).2.1.length ≤ 262144 := by
  have hl : d.length ≠ 0 := fun e => h0 (List.eq_nil_of_length_eq_zero e)
  unfold wholeD at h ⊢
  rw [if_neg hl] at h ⊢
  split at h
  · simp at h
  · rename_i h1
    rw [if_neg h1]
    split at h
    · simp at h
    · rename_i h2
      rw [if_neg h2]
      split at h
      · simp at h
      · rename_i h3
        rw [if_neg h3]
        split at h
        · simp at h
        · rename_i h4
          rw [if_neg h4]
          split at h
          · simp at h
          · rename_i h5
            rw [if_neg h5]
            simp only [List.length_take, List.length_drop]
            omega
/-- cut inside, a frame is short -/
theorem wholeD_cut (k : UInt8) (p : List UInt8) (m : Nat) (hp : p.length ≤ 262144) (h0 : 0 < m) (hm : m < p.length + 10) : wholeD ((frB k p).take m) = (0, [], 0, 1) := by
  have hl : ((frB k p).take m).length = m := by rw [List.length_take, frB_len]; omega
  have e := frB_parts k p []
  rw [List.append_nil] at e
  have h00 : ((frB k p).take m).getD 0 0 = 0xa5 := by
    rw [List.getD_eq_getElem?_getD, List.getElem?_take_of_lt h0, e]
    rfl
  unfold wholeD
  rw [hl, if_neg (by omega), if_neg (by rw [h00]; simp)]
  by_cases h6 : m < 6
  · rw [if_pos h6]
  · rw [if_neg h6]
    have hn : be ((((frB k p).take m).drop 2).take 4) = p.length := by
      rw [List.drop_take, List.take_take, show min 4 (m - 2) = 4 by omega, e]
      show be ((be4 p.length ++ _).take 4) = _
      rw [take_app _ _ _ (by simp [be4]), List.take_of_length_le (by simp [be4]), be_be4 _ (by omega)]
    rw [hn, if_neg (by omega), if_pos (by omega)]
/-- a wrong mark -/
theorem wholeD_mark (c : UInt8) (r : List UInt8) (h : c ≠ 0xa5) : wholeD (c :: r) = (0, [], 0, 4) := by
  unfold wholeD
  rw [if_neg (by simp), if_pos (by simpa using h)]
/-- of what is a frame the register stands at one value behind it -/
theorem crcRun_sum (r : BitVec 32) (l : List UInt8) : crcRun (crcRun r l) (le4 (~~~ crcRun r l).toNat) = crcBits 32 (BitVec.allOnes 32) := by
  unfold le4
  rw [crcRun_four, crcWord_of _ (~~~ crcRun r l).isLt]
  congr 1
  refine BitVec.eq_of_getLsbD_eq fun i hi => ?_
  rw [BitVec.getLsbD_xor, BitVec.ofNat_toNat, BitVec.setWidth_eq, BitVec.getLsbD_not, BitVec.getLsbD_allOnes]
  cases (crcRun r l).getLsbD i <;> simp [hi]
theorem wholeD_reg (d : List UInt8) (h : (wholeD d).2.2.2 = 0) (h0 : d ≠ []) : 10 + be ((d.drop 2).take 4) ≤ d.length ∧ crcRun (BitVec.allOnes 32) ((d.drop 1).take (9 + be ((d.drop 2).take 4))) = crcBits 32 (BitVec.allOnes 32) ∧ d.getD 0 0 = 0xa5 := by
  have hl : d.length ≠ 0 := fun e => h0 (List.eq_nil_of_length_eq_zero e)
  obtain ⟨n, hn⟩ : ∃ n, n = be ((d.drop 2).take 4) := ⟨_, rfl⟩
  unfold wholeD at h
  rw [if_neg hl] at h
  rw [← hn] at h ⊢
  split at h
  · simp at h
  · rename_i hm
    split at h
    · simp at h
    · split at h
      · simp at h
      · split at h
        · simp at h
        · rename_i h4
          split at h
          · simp at h
          · rename_i h5
            refine ⟨by omega, ?_, by simpa using hm⟩
            have h5 : le ((d.drop (6 + n)).take 4) = (crcSum ((d.drop 1).take (5 + n))).toNat := by simpa using h5
            have h6 : (d.drop (6 + n)).take 4 = le4 (crcSum ((d.drop 1).take (5 + n))).toNat := by
              refine le_inj _ _ (by simp [le4]; omega) ?_
              rw [h5, le_le4 _ (crcSum ((d.drop 1).take (5 + n))).isLt]
            have h7 : (d.drop 1).take (9 + n) = (d.drop 1).take (5 + n) ++ (d.drop (6 + n)).take 4 := by
              rw [show 9 + n = (5 + n) + 4 by omega, List.take_add, List.drop_drop, show 1 + (5 + n) = 6 + n by omega]
            rw [h7, crcRun_append, h6]
            exact crcRun_sum _ _
theorem crcRun_frB (k : UInt8) (p : List UInt8) : crcRun (BitVec.allOnes 32) ((frB k p).drop 1) = crcBits 32 (BitVec.allOnes 32) := by
  show crcRun _ (frS k p ++ _) = _
  rw [crcRun_append]
  exact crcRun_sum _ _
/-! ### turned bits -/
def turn1 (c : List UInt8) (i : Nat) : List UInt8 := c.set (i / 8) (c.getD (i / 8) 0 ^^^ UInt8.ofNat (2 ^ (i % 8)))
def turnK (b : List UInt8) (f word : Nat) : Nat → List UInt8
  | 0 => b
  | k + 1 => if word / 2 ^ k % 2 = 1 then turn1 (turnK b f word k) (f + k) else turnK b f word k
theorem turn1_len (c : List UInt8) (i : Nat) : (turn1 c i).length = c.length := by simp [turn1]
theorem turnK_len (b : List UInt8) (f word : Nat) : ∀ k, (turnK b f word k).length = b.length
  | 0 => rfl
  | k + 1 => by
    rw [turnK]
    split
    · rw [turn1_len, turnK_len b f word k]
    · exact turnK_len b f word k
theorem bitAt_turn1 (c : List UInt8) (i j : Nat) (h : i < 8 * c.length) : bitAt (turn1 c i) j = (bitAt c j ^^ decide (j = i)) := by
  unfold bitAt turn1
  rw [List.getD_eq_getElem?_getD, List.getElem?_set]
  by_cases hij : i / 8 = j / 8
  · rw [if_pos hij, ← hij, if_pos (by omega), Option.getD_some, UInt8.toNat_xor, Nat.testBit_xor]
    congr 1
    have h2 : 2 ^ (i % 8) < 256 := Nat.lt_of_le_of_lt (Nat.pow_le_pow_right (by decide) (show i % 8 ≤ 7 by omega)) (by decide)
    rw [UInt8.toNat_ofNat', Nat.mod_eq_of_lt h2, Nat.testBit_two_pow]
    by_cases e : j = i
    · subst e; simp
    · simp [e]; omega
  · rw [if_neg hij, ← List.getD_eq_getElem?_getD]
    have : j ≠ i := fun e => hij (by rw [e])
    simp [this]
theorem bitAt_turnK (b : List UInt8) (f word : Nat) : ∀ (k j : Nat), (∀ t, t < k → word / 2 ^ t % 2 = 1 → f + t < 8 * b.length) → bitAt (turnK b f word k) j = (bitAt b j ^^ decide (f ≤ j ∧ j < f + k ∧ word / 2 ^ (j - f) % 2 = 1))
  | 0, j, _ => by
    have : ¬ (f ≤ j ∧ j < f + 0 ∧ word / 2 ^ (j - f) % 2 = 1) := by omega
    rw [decide_eq_false this]
    simp [turnK]
  | k + 1, j, hb => by
    have ih := bitAt_turnK b f word k j (fun t ht => hb t (by omega))
    rw [turnK]
    by_cases hw : word / 2 ^ k % 2 = 1
    · rw [if_pos hw, bitAt_turn1 _ _ _ (by rw [turnK_len]; exact hb k (by omega) hw), ih]
      by_cases e : j = f + k
      · subst e
        have e1 : ¬ (f ≤ f + k ∧ f + k < f + k ∧ word / 2 ^ (f + k - f) % 2 = 1) := fun h => by omega
        have e2 : f ≤ f + k ∧ f + k < f + (k + 1) ∧ word / 2 ^ (f + k - f) % 2 = 1 := ⟨by omega, by omega, by rw [show f + k - f = k by omega]; exact hw⟩
        have d1 := decide_eq_false e1
        have d2 := decide_eq_true e2
        generalize decide (f ≤ f + k ∧ f + k < f + k ∧ word / 2 ^ (f + k - f) % 2 = 1) = x at d1 ⊢
        generalize decide (f ≤ f + k ∧ f + k < f + (k + 1) ∧ word / 2 ^ (f + k - f) % 2 = 1) = y at d2 ⊢
        subst d1; subst d2
        simp
      · have : (f ≤ j ∧ j < f + k ∧ word / 2 ^ (j - f) % 2 = 1) ↔ (f ≤ j ∧ j < f + (k + 1) ∧ word / 2 ^ (j - f) % 2 = 1) := ⟨fun ⟨a, b, c⟩ => ⟨a, by omega, c⟩, fun ⟨a, b, c⟩ => ⟨a, by omega, c⟩⟩
        simp [e, this]
    · rw [if_neg hw, ih]
      have : (f ≤ j ∧ j < f + k ∧ word / 2 ^ (j - f) % 2 = 1) ↔ (f ≤ j ∧ j < f + (k + 1) ∧ word / 2 ^ (j - f) % 2 = 1) := ⟨fun ⟨a, b, c⟩ => ⟨a, by omega, c⟩, fun ⟨a, b, c⟩ => ⟨a, by
        by_cases e : j = f + k
        · subst e; rw [show f + k - f = k by omega] at c; exact absurd c hw
        · omega, c⟩⟩
      rw [decide_eq_decide.2 this]
theorem byte_of_bits {l m : List UInt8} (i : Nat) (h : ∀ j, j < 8 → bitAt l (8 * i + j) = bitAt m (8 * i + j)) : l.getD i 0 = m.getD i 0 := by
  refine UInt8.toNat_inj.1 (Nat.eq_of_testBit_eq fun j => ?_)
  by_cases hj : j < 8
  · have := h j hj
    unfold bitAt at this
    rwa [show (8 * i + j) / 8 = i by omega, show (8 * i + j) % 8 = j by omega] at this
  · rw [Nat.testBit_lt_two_pow (Nat.lt_of_lt_of_le (UInt8.toNat_lt _) (Nat.pow_le_pow_right (n := 2) (by decide) (show 8 ≤ j by omega))), Nat.testBit_lt_two_pow (Nat.lt_of_lt_of_le (UInt8.toNat_lt _) (Nat.pow_le_pow_right (n := 2) (by decide) (show 8 ≤ j by omega)))]
/-- a frame some of whose bits are turned is none -/
theorem spoilt_seen (k : UInt8) (p r g : List UInt8) (hp : p.length ≤ 262144) (hg : g.length = p.length + 10) (f n : Nat) (hn : n ≤ 32)
    (hout : ∀ i, (i < f ∨ f + n ≤ i) → bitAt g i = bitAt (frB k p) i) (hlen : ∀ i, 16 ≤ i → i < 48 → bitAt g i = bitAt (frB k p) i)
    (i : Nat) (hi : i < 8 * (p.length + 10)) (hne : bitAt g i ≠ bitAt (frB k p) i) : (wholeD (g ++ r)).2.2.2 ≠ 0 := fun h => by
  have hg0 : g ≠ [] := fun e => by rw [e] at hg; simp at hg
  obtain ⟨h1, h2, h3⟩ := wholeD_reg (g ++ r) h (by simp [hg0])
  have hgd : ∀ t, (g ++ r).getD t 0 = if t < g.length then g.getD t 0 else (g ++ r).getD t 0 := fun t => by
    split
    · rename_i ht
      rw [List.getD_eq_getElem?_getD, List.getElem?_append_left ht, List.getD_eq_getElem?_getD]
    · rfl
  have hb0 : g.getD 0 0 = 0xa5 := by
    have := hgd 0
    rw [if_pos (by omega)] at this
    rwa [this] at h3
  have hf0 : (frB k p).getD 0 0 = 0xa5 := rfl
  have hi8 : 8 ≤ i := by
    apply Classical.byContradiction
    intro hi8
    refine hne ?_
    unfold bitAt
    rw [show i / 8 = 0 by omega, hb0, hf0]
  have hN : be (((g ++ r).drop 2).take 4) = p.length := by
    have e : ((g ++ r).drop 2).take 4 = ((frB k p).drop 2).take 4 := by
      refine List.ext_getElem (by simp [frB_len]; omega) fun t h4 h5 => ?_
      have ht : t < 4 := by simp at h4; omega
      have h6 := byte_of_bits (l := g) (m := frB k p) (2 + t) (fun j hj => hlen _ (by omega) (by omega))
      rw [List.getElem_take, List.getElem_drop, List.getElem_take, List.getElem_drop, List.getElem_append_left (by omega)]
      rw [List.getD_eq_getElem?_getD, List.getD_eq_getElem?_getD, List.getElem?_eq_getElem (by omega), List.getElem?_eq_getElem (by rw [frB_len]; omega)] at h6
      exact h6
    have e2 := frB_parts k p []
    rw [List.append_nil] at e2
    rw [e, e2]
    show be ((be4 p.length ++ _).take 4) = _
    rw [take_app _ _ _ (by simp [be4]), List.take_of_length_le (by simp [be4]), be_be4 _ (by omega)]
  rw [hN] at h2
  have e3 : ((g ++ r).drop 1).take (9 + p.length) = g.drop 1 := by
    rw [List.drop_append, show 1 - g.length = 0 by omega, List.drop_zero, take_app _ _ _ (by simp; omega), List.take_of_length_le (by simp; omega)]
  rw [e3] at h2
  have hbd : ∀ (l : List UInt8) (t : Nat), bitAt (l.drop 1) t = bitAt l (8 + t) := fun l t => by
    unfold bitAt
    rw [List.getD_eq_getElem?_getD, List.getElem?_drop, ← List.getD_eq_getElem?_getD, show 1 + t / 8 = (8 + t) / 8 by omega, show (8 + t) % 8 = t % 8 by omega]
  refine crc_burst (BitVec.allOnes 32) (g.drop 1) ((frB k p).drop 1) (by simp [hg, frB_len]) (f - 8) (n - (8 - f)) (by omega) (fun t ht hft => ?_) (i - 8) (by simp [hg]; omega) ?_ (by rw [h2, crcRun_frB])
  · rw [hbd, hbd]
    exact hout _ (by omega)
  · rw [hbd, hbd, show 8 + (i - 8) = i by omega]
    exact hne
theorem word_bit {word : Nat} (h0 : word ≠ 0) (h : word < 4294967296) : ∃ t, t < 32 ∧ word / 2 ^ t % 2 = 1 := by
  apply Classical.byContradiction
  intro hc
  refine h0 (Nat.eq_of_testBit_eq fun t => ?_)
  rw [Nat.zero_testBit]
  by_cases ht : t < 32
  · have : ¬ word / 2 ^ t % 2 = 1 := fun e => hc ⟨t, ht, e⟩
    rw [Nat.testBit_eq_decide_div_mod_eq]
    simpa using this
  · exact Nat.testBit_lt_two_pow (Nat.lt_of_lt_of_le h (Nat.pow_le_pow_right (n := 2) (by decide) (show 32 ≤ t by omega)))
theorem bit_one (t : Nat) : (1 : Nat) / 2 ^ t % 2 = 1 ↔ t = 0 := by
  cases t with
  | zero => simp
  | succ t =>
    have : (1 : Nat) < 2 ^ (t + 1) := Nat.one_lt_two_pow (by omega)
    rw [Nat.div_eq_of_lt this]
    simp
/-- one turned bit, anywhere but in the length -/
theorem spoilt_one (k : UInt8) (p r : List UInt8) (hp : p.length ≤ 262144) (f : Nat) (hf : f < 8 * (p.length + 10)) (hl : f / 8 < 2 ∨ 5 < f / 8) : (wholeD (turnK (frB k p) f 1 32 ++ r)).2.2.2 ≠ 0 := by
  have hb : ∀ j, bitAt (turnK (frB k p) f 1 32) j = (bitAt (frB k p) j ^^ decide (f ≤ j ∧ j < f + 32 ∧ 1 / 2 ^ (j - f) % 2 = 1)) := fun j => bitAt_turnK _ _ _ 32 j (fun t _ h => by rw [bit_one] at h; subst h; rw [frB_len]; omega)
  refine spoilt_seen k p r _ hp (by rw [turnK_len, frB_len]) f 1 (by decide) (fun i hi => ?_) (fun i h1 h2 => ?_) f hf ?_
  · rw [hb, decide_eq_false (by rw [bit_one]; omega)]; simp
  · rw [hb, decide_eq_false (by rw [bit_one]; omega)]; simp
  · rw [hb, decide_eq_true ⟨Nat.le_refl _, by omega, by rw [bit_one]; omega⟩]; simp
/-- turned bits behind the length, within 32 in a row -/
theorem spoilt_word (k : UInt8) (p r : List UInt8) (hp : p.length ≤ 262144) (f word : Nat) (h0 : word ≠ 0) (h : word < 4294967296) (hf : 48 ≤ f) (hf2 : f + 31 < 8 * (p.length + 10)) : (wholeD (turnK (frB k p) f word 32 ++ r)).2.2.2 ≠ 0 := by
  have hb : ∀ j, bitAt (turnK (frB k p) f word 32) j = (bitAt (frB k p) j ^^ decide (f ≤ j ∧ j < f + 32 ∧ word / 2 ^ (j - f) % 2 = 1)) := fun j => bitAt_turnK _ _ _ 32 j (fun t _ h => by rw [frB_len]; omega)
  obtain ⟨t, ht, hw⟩ := word_bit h0 h
  refine spoilt_seen k p r _ hp (by rw [turnK_len, frB_len]) f 32 (by decide) (fun i hi => ?_) (fun i h1 h2 => ?_) (f + t) (by omega) ?_
  · rw [hb, decide_eq_false (by omega)]; simp
  · rw [hb, decide_eq_false (by omega)]; simp
  · rw [hb, decide_eq_true ⟨by omega, by omega, by rw [show f + t - f = t by omega]; exact hw⟩]; simp
end Go.Proofs.Ytpjmbhhfpoamnaa

namespace Go.Proofs.Ytpjmbhhfpoamnaa
/-! ### frames, scanned from the front -/
def scanK : Nat → List UInt8 → List (UInt8 × List UInt8) × Nat × Nat
  | 0, _ => ([], 0, 0)
  | n + 1, d => if d.length = 0 then ([], 0, 0) else if (wholeD d).2.2.2 ≠ 0 then ([], 0, (wholeD d).2.2.2) else
    (((wholeD d).1, (wholeD d).2.1) :: (scanK n (d.drop (wholeD d).2.2.1)).1, (wholeD d).2.2.1 + (scanK n (d.drop (wholeD d).2.2.1)).2.1, (scanK n (d.drop (wholeD d).2.2.1)).2.2)
def scanF (d : List UInt8) : List (UInt8 × List UInt8) × Nat × Nat := scanK d.length d
theorem scanK_more : ∀ (n : Nat) (d : List UInt8), d.length ≤ n → scanK n d = scanK d.length d
  | 0, d, h => by rw [show d.length = 0 by omega]
  | n + 1, d, h => by
    by_cases h0 : d.length = 0
    · rw [h0]; show scanK (n + 1) d = _; rw [scanK.eq_2, if_pos h0]; rfl
    · obtain ⟨m, hm⟩ : ∃ m, d.length = m + 1 := ⟨d.length - 1, by omega⟩
      rw [hm, scanK, scanK, if_neg h0, if_neg h0]
      by_cases ht : (wholeD d).2.2.2 = 0
      · have hb := wholeD_bound d ht (fun e => h0 (by rw [e]; rfl))
        have hl : (d.drop (wholeD d).2.2.1).length = d.length - (wholeD d).2.2.1 := by simp
        rw [if_neg (by omega), if_neg (by omega), scanK_more n (d.drop (wholeD d).2.2.1) (by omega), scanK_more m (d.drop (wholeD d).2.2.1) (by omega)]
      · rw [if_pos ht, if_pos ht]
theorem scanF_nil : scanF [] = ([], 0, 0) := rfl
theorem scanF_stop {d : List UInt8} (h : d ≠ []) (ht : (wholeD d).2.2.2 ≠ 0) : scanF d = ([], 0, (wholeD d).2.2.2) := by
  have h0 : d.length ≠ 0 := fun e => h (List.eq_nil_of_length_eq_zero e)
  obtain ⟨m, hm⟩ : ∃ m, d.length = m + 1 := ⟨d.length - 1, by omega⟩
  rw [scanF, hm, scanK, if_neg h0, if_pos ht]
theorem scanF_go {d : List UInt8} (h : d ≠ []) (ht : (wholeD d).2.2.2 = 0) : scanF d = (((wholeD d).1, (wholeD d).2.1) :: (scanF (d.drop (wholeD d).2.2.1)).1, (wholeD d).2.2.1 + (scanF (d.drop (wholeD d).2.2.1)).2.1, (scanF (d.drop (wholeD d).2.2.1)).2.2) := by
  have h0 : d.length ≠ 0 := fun e => h (List.eq_nil_of_length_eq_zero e)
  have hb := wholeD_bound d ht h
  obtain ⟨m, hm⟩ : ∃ m, d.length = m + 1 := ⟨d.length - 1, by omega⟩
  rw [scanF, hm, scanK, if_neg h0, if_neg (by omega), scanK_more m (d.drop (wholeD d).2.2.1) (by simp; omega)]
  rfl
/-- frames, one behind the other -/
def joinF (ps : List (UInt8 × List UInt8)) : List UInt8 := ps.flatMap fun x => frB x.1 x.2
theorem frB_ne (k : UInt8) (p r : List UInt8) : frB k p ++ r ≠ [] := by simp [frB]
theorem scanF_join : ∀ (ps : List (UInt8 × List UInt8)) (r : List UInt8), (∀ x ∈ ps, x.2.length ≤ 262144) → scanF (joinF ps ++ r) = (ps ++ (scanF r).1, (joinF ps).length + (scanF r).2.1, (scanF r).2.2)
  | [], r, _ => by simp [joinF]
  | x :: ps, r, h => by
    have e : joinF (x :: ps) ++ r = frB x.1 x.2 ++ (joinF ps ++ r) := by simp [joinF]
    have hw := wholeD_frame x.1 x.2 (joinF ps ++ r) (h x (by simp))
    have hd : (frB x.1 x.2 ++ (joinF ps ++ r)).drop (x.2.length + 10) = joinF ps ++ r := by
      rw [← frB_len x.1 x.2, List.drop_left]
    rw [e, scanF_go (frB_ne _ _ _) (by rw [hw]), hw]
    simp only [hd]
    rw [scanF_join ps r (fun y hy => h y (by simp [hy]))]
    have hl : (joinF (x :: ps)).length = x.2.length + 10 + (joinF ps).length := by simp [joinF, frB_len]
    rw [hl]
    simp [Nat.add_assoc]
theorem joinF_snoc (ps : List (UInt8 × List UInt8)) (k : Nat) (h : k < ps.length) : joinF (ps.take (k + 1)) = joinF (ps.take k) ++ frB ps[k].1 ps[k].2 := by
  rw [List.take_succ_eq_append_getElem h, joinF, List.flatMap_append]
  simp [joinF]
theorem joinF_split (ps : List (UInt8 × List UInt8)) (k : Nat) (h : k < ps.length) : joinF ps = joinF (ps.take k) ++ (frB ps[k].1 ps[k].2 ++ joinF (ps.drop (k + 1))) := by
  have e : ps = ps.take k ++ (ps[k] :: ps.drop (k + 1)) := by rw [List.getElem_cons_drop, List.take_append_drop]
  have e2 := congrArg joinF e
  rw [e2]
  unfold joinF
  rw [List.flatMap_append, List.flatMap_cons]
/-- where the k-th ends -/
def endF (ps : List (UInt8 × List UInt8)) (k : Nat) : Nat := (joinF (ps.take k)).length
theorem endF_succ (ps : List (UInt8 × List UInt8)) (k : Nat) (h : k < ps.length) : endF ps (k + 1) = endF ps k + (ps[k].2.length + 10) := by
  unfold endF
  rw [joinF_snoc ps k h, List.length_append, frB_len]
theorem endF_all (ps : List (UInt8 × List UInt8)) : endF ps ps.length = (joinF ps).length := by
  unfold endF
  rw [List.take_length]
/-- cut anywhere -/
theorem scanF_torn (ps : List (UInt8 × List UInt8)) (hps : ∀ x ∈ ps, x.2.length ≤ 262144) (n cut : Nat) (hn : n ≤ ps.length) (h1 : endF ps n ≤ cut) (h2 : n < ps.length → cut < endF ps (n + 1)) (h3 : cut ≤ (joinF ps).length) :
    scanF ((joinF ps).take cut) = (ps.take n, endF ps n, if endF ps n = cut then 0 else 1) := by
  have hps' : ∀ x ∈ ps.take n, x.2.length ≤ 262144 := fun x hx => hps x (List.mem_of_mem_take hx)
  by_cases hlt : n < ps.length
  · have hc := h2 hlt
    rw [endF_succ ps n hlt] at hc
    have e : (joinF ps).take cut = joinF (ps.take n) ++ (frB ps[n].1 ps[n].2).take (cut - endF ps n) := by
      rw [joinF_split ps n hlt, List.take_append, List.take_of_length_le (show (joinF (ps.take n)).length ≤ cut from h1), take_app _ _ _ (by rw [frB_len]; unfold endF at hc; omega)]
      rfl
    rw [e, scanF_join _ _ hps']
    by_cases h0 : endF ps n = cut
    · rw [if_pos h0, h0, Nat.sub_self, List.take_zero, scanF_nil]
      simp only [List.append_nil, Nat.add_zero]
      rw [show (joinF (ps.take n)).length = endF ps n from rfl, h0]
    · have hw := wholeD_cut ps[n].1 ps[n].2 (cut - endF ps n) (hps _ (List.getElem_mem hlt)) (by omega) (by omega)
      rw [if_neg h0, scanF_stop (by simp [frB]; omega) (by rw [hw]; simp), hw]
      simp [endF]
  · obtain rfl : n = ps.length := by omega
    rw [endF_all] at h1 ⊢
    rw [List.take_of_length_le (by omega), if_pos (by omega), List.take_length]
    have := scanF_join ps [] hps
    simpa [scanF_nil] using this
/-- other bytes behind the whole ones -/
theorem scanF_other (ps : List (UInt8 × List UInt8)) (hps : ∀ x ∈ ps, x.2.length ≤ 262144) (n : Nat) (hn : n ≤ ps.length) (c : UInt8) (hc : c ≠ 0xa5) :
    scanF ((joinF ps).take (endF ps n) ++ [c]) = (ps.take n, endF ps n, 4) := by
  have hps' : ∀ x ∈ ps.take n, x.2.length ≤ 262144 := fun x hx => hps x (List.mem_of_mem_take hx)
  have e : (joinF ps).take (endF ps n) = joinF (ps.take n) := by
    have : joinF ps = joinF (ps.take n) ++ joinF (ps.drop n) := by
      have e2 := congrArg joinF (List.take_append_drop n ps).symm
      rw [e2]
      unfold joinF
      rw [List.flatMap_append]
    rw [this, endF, List.take_left]
  have hw := wholeD_mark c [] hc
  rw [e, scanF_join _ _ hps', scanF_stop (by simp) (by rw [hw]; simp), hw]
  simp [endF]
/-- read where it stands -/
theorem whole_at (ps : List (UInt8 × List UInt8)) (hps : ∀ x ∈ ps, x.2.length ≤ 262144) (pre post : List UInt8) (k : Nat) (hk : k < ps.length) :
    wholeD ((pre ++ joinF ps ++ post).drop (pre.length + endF ps k)) = (ps[k].1, ps[k].2, ps[k].2.length + 10, 0) := by
  rw [joinF_split ps k hk, List.append_assoc, List.drop_append, List.drop_of_length_le (by omega), List.nil_append, show pre.length + endF ps k - pre.length = (joinF (ps.take k)).length by unfold endF; omega, List.append_assoc, List.drop_left, List.append_assoc]
  exact wholeD_frame _ _ _ (hps _ (List.getElem_mem hk))
end Go.Proofs.Ytpjmbhhfpoamnaa

namespace Go.Proofs.Ytpjmbhhfpoamnaa
open Go.RowKit

set_option maxHeartbeats 400000 in
theorem piece32_yes (w : World) (b off n c : Nat) (hn : n ≤ c) (hc : c ≤ 9223372036854775807) (k : Nat) (hk : k + 4 ≤ n) :
    Calls Try.prog 140 #[.slice (some ⟨b, off, none⟩) n c, .int .i64 k] w fun e w' => e = .returned (.slice (some ⟨b, off + k, none⟩) 4 (c - k)) ∧ w = w' := by
  have h0 : decide ((k:Int) < 0) = false := by simp
  have h3' : ¬ ((n:Int) - 4 < k) := by omega
  go_enter Try.func140, Try.ntmps140
  go_wp2_with (go_at_call 123; refine (width32 _).mono ?_; rintro e w' ⟨rfl, rfl⟩)
  go_ret
  exact ⟨by simp [Nat.add_sub_cancel_left], rfl⟩
set_option maxHeartbeats 400000 in
theorem piece32_no (w : World) (A : Option Addr) (n c : Nat) (hn : n ≤ c) (hc : c ≤ 9223372036854775807) (at_ : Int) (h : ¬ (0 ≤ at_ ∧ at_ + 4 ≤ n)) (h2 : at_ ≤ 9223372036854775807) :
    Calls Try.prog 140 #[.slice A n c, .int .i64 at_] w fun e w' => e = .returned (.slice none 0 0) ∧ w = w' := by
  by_cases h0 : at_ < 0
  · have h0' : decide (at_ < 0) = true := by simpa using h0
    clear h
    go_enter Try.func140, Try.ntmps140
    go_wp2_with (go_at_call 123; refine (width32 _).mono ?_; rintro e w' ⟨rfl, rfl⟩)
    go_ret
    exact ⟨rfl, rfl⟩
  · obtain ⟨k, rfl⟩ := Int.eq_ofNat_of_zero_le (show 0 ≤ at_ by omega)
    have h0' : decide ((k:Int) < 0) = false := by simp
    have h3 : (n:Int) - 4 < k := by omega
    clear h
    go_enter Try.func140, Try.ntmps140
    go_wp2_with (go_at_call 123; refine (width32 _).mono ?_; rintro e w' ⟨rfl, rfl⟩)
    go_ret
    exact ⟨rfl, rfl⟩
set_option maxHeartbeats 400000 in
theorem piece64_yes (w : World) (b off n c : Nat) (hn : n ≤ c) (hc : c ≤ 9223372036854775807) (k : Nat) (hk : k + 8 ≤ n) :
    Calls Try.prog 141 #[.slice (some ⟨b, off, none⟩) n c, .int .i64 k] w fun e w' => e = .returned (.slice (some ⟨b, off + k, none⟩) 8 (c - k)) ∧ w = w' := by
  have h0 : decide ((k:Int) < 0) = false := by simp
  have h3' : ¬ ((n:Int) - 8 < k) := by omega
  go_enter Try.func141, Try.ntmps141
  go_wp2_with (go_at_call 142; refine (width64 _).mono ?_; rintro e w' ⟨rfl, rfl⟩)
  go_ret
  exact ⟨by simp [Nat.add_sub_cancel_left], rfl⟩
set_option maxHeartbeats 400000 in
theorem piece64_no (w : World) (A : Option Addr) (n c : Nat) (hn : n ≤ c) (hc : c ≤ 9223372036854775807) (at_ : Int) (h : ¬ (0 ≤ at_ ∧ at_ + 8 ≤ n)) (h2 : at_ ≤ 9223372036854775807) :
    Calls Try.prog 141 #[.slice A n c, .int .i64 at_] w fun e w' => e = .returned (.slice none 0 0) ∧ w = w' := by
  by_cases h0 : at_ < 0
  · have h0' : decide (at_ < 0) = true := by simpa using h0
    clear h
    go_enter Try.func141, Try.ntmps141
    go_wp2_with (go_at_call 142; refine (width64 _).mono ?_; rintro e w' ⟨rfl, rfl⟩)
    go_ret
    exact ⟨rfl, rfl⟩
  · obtain ⟨k, rfl⟩ := Int.eq_ofNat_of_zero_le (show 0 ≤ at_ by omega)
    have h0' : decide ((k:Int) < 0) = false := by simp
    have h3 : (n:Int) - 8 < k := by omega
    clear h
    go_enter Try.func141, Try.ntmps141
    go_wp2_with (go_at_call 142; refine (width64 _).mono ?_; rintro e w' ⟨rfl, rfl⟩)
    go_ret
    exact ⟨rfl, rfl⟩
theorem shl_or32 (x c : Nat) (hx : x < 16777216) (hc : c < 256) : bits .or .u32 ((x : Int) * 256) (c : Int) = ((x * 256 + c : Nat) : Int) := by
  rw [show ((x : Int) * 256) = ((x * 256 : Nat) : Int) by simp, bits_or32 _ _ (by omega) (by omega), show x * 256 = 2 ^ 8 * x by omega, ← Nat.two_pow_add_eq_or_of_lt hc]
set_option maxHeartbeats 400000 in
theorem LoadBE32_yes (w : World) {A : Option Addr} {n c : Nat} {l : List UInt8} (h : Sl w 1 A n c (l.map by8)) (k0 : Nat) (hk : k0 + 4 ≤ n) :
    Calls Try.prog 124 #[.slice A n c, .int .i64 k0] w fun e w' => e = .returned (.tuple #[.int .u32 (be ((l.drop k0).take 4) : Nat), .bool true]) ∧ w = w' := by
  have hl := h.le; have hm := h.max
  have hlen : l.length = n := by simpa using h.len
  obtain ⟨b, off, rfl⟩ := h.form (by omega)
  obtain ⟨p, hp⟩ : ∃ p, p = (l.drop k0).take 4 := ⟨_, rfl⟩
  have hpl : p.length = 4 := by rw [hp]; simp; omega
  have hcell : ∀ j, j < 4 → w.cell? ⟨b, off + k0 + j, none⟩ = some (.int .u8 (bt p j : Int)) := by
    intro j hj
    have := h.byte (k0 + j) (by omega)
    rw [Nat.add_assoc, this, hp, bt_take _ _ _ hj, bt_drop]
  rw [← hp]
  have HP := Lib.hid (piece32_yes w b off n c hl hm k0 hk)
  have HB : Hid (be (p.take 4) = be p) := Lib.hid (by rw [List.take_of_length_le (by omega)])
  have HL := Lib.hid hpl; have HLen := Lib.hid hlen
  have HC := Lib.hid hcell
  clear hcell hp hlen hpl h
  go_enter Try.func124, Try.ntmps124
  have hne := @run_neq_slice_nil_any
  go_wp2_with (go_at_call 140; refine HP.out.mono ?_; rintro e w' ⟨rfl, rfl⟩)
  go_loop [6, 15] (fun x i => ∃ k : Nat, k ≤ 4 ∧ i = .int .i64 k ∧ x = .int .u32 (be (p.take k) : Nat)) (fun _ i => 4 - (intOf i).toNat)
  case atStart => exact ⟨0, by omega, rfl, rfl⟩
  case round =>
    obtain ⟨k, hk3, rfl, rfl⟩ := hrel
    by_cases hlt : k < 4
    · have g := HC.out k hlt
      have hc := bt_lt p k
      have hx : be (p.take k) < 256 ^ k := by
        have := be_lt (p.take k); rwa [List.length_take, Nat.min_eq_left (by rw [HL.out]; omega)] at this
      have hx2 : be (p.take k) < 16777216 * 256 := Nat.lt_of_lt_of_le hx (Nat.pow_le_pow_right (n := 256) (by decide) (show k ≤ 4 by omega))
      have HS := Lib.hid (shl_or32 (be (p.take k)) (bt p k) (by have h3 : 256 ^ k ≤ 256 ^ 3 := Nat.pow_le_pow_right (by decide) (by omega); omega) hc)
      have hx3 : be (p.take k) < 16777216 := by have h3 : 256 ^ k ≤ 256 ^ 3 := Nat.pow_le_pow_right (by decide) (by omega); omega
      go_wp2
      go_round
      case rel => exact ⟨k + 1, by omega, by go_num, by rw [be_take p k (by rw [HL.out]; exact hlt), HS.out]⟩
      case measure => simp [intOf]; omega
    · obtain rfl : k = 4 := by omega
      go_wp2
      go_ret2
      exact ⟨by (rw [HB.out]) <;> rfl, rfl⟩
set_option maxHeartbeats 400000 in
theorem LoadBE32_no (w : World) {A : Option Addr} {n c : Nat} (hn : n ≤ c) (hc : c ≤ 9223372036854775807) (at_ : Int) (h : ¬ (0 ≤ at_ ∧ at_ + 4 ≤ n)) (h2 : at_ ≤ 9223372036854775807) :
    Calls Try.prog 124 #[.slice A n c, .int .i64 at_] w fun e w' => e = .returned (.tuple #[.int .u32 0, .bool false]) ∧ w = w' := by
  have HP := Lib.hid (piece32_no w A n c hn hc at_ h h2)
  clear h
  go_enter Try.func124, Try.ntmps124
  have hne := @run_neq_slice_nil_any
  go_wp2_with (go_at_call 140; refine HP.out.mono ?_; rintro e w' ⟨rfl, rfl⟩)
  go_loop [6, 15] (fun x i => i = .int .i64 0 ∧ x = .int .u32 0) (fun x i => 0)
  case atStart => exact ⟨rfl, rfl⟩
  case round =>
    obtain ⟨rfl, rfl⟩ := hrel
    go_wp2
    go_ret2
    exact ⟨rfl, rfl⟩
theorem or_shl32 (x c j : Nat) (hj : j < 4) (hx : x < 256 ^ j) (hc : c < 256) : bits .or .u32 (x : Int) ((c : Int) * 2 ^ (8 * j) % 4294967296) = ((x + c * 256 ^ j : Nat) : Int) := by
  have e : (256 : Nat) ^ j = 2 ^ (8 * j) := by rw [Nat.pow_mul]
  have hle : c * 2 ^ (8 * j) < 4294967296 := by
    have h1 : (2 : Nat) ^ (8 * j) * 256 ≤ 2 ^ 32 := by rw [show 256 = 2 ^ 8 from rfl, ← Nat.pow_add]; exact Nat.pow_le_pow_right (by decide) (by omega)
    have h2 : c * 2 ^ (8 * j) < 256 * 2 ^ (8 * j) := Nat.mul_lt_mul_of_pos_right hc (Nat.pow_pos (by decide))
    omega
  have e2 : ((c : Int) * 2 ^ (8 * j) % 4294967296) = ((c * 2 ^ (8 * j) : Nat) : Int) := by
    rw [show ((c : Int) * 2 ^ (8 * j)) = ((c * 2 ^ (8 * j) : Nat) : Int) by simp]; omega
  have hx2 : x < 2 ^ 32 := Nat.lt_of_lt_of_le hx (by rw [e]; exact Nat.pow_le_pow_right (by decide) (by omega))
  rw [e] at hx
  rw [e2, bits_or32 _ _ hx2 hle, Nat.or_comm, Nat.mul_comm c, ← Nat.two_pow_add_eq_or_of_lt hx, e, Nat.add_comm, Nat.mul_comm]
set_option maxHeartbeats 400000 in
theorem LoadLE32_yes (w : World) {A : Option Addr} {n c : Nat} {l : List UInt8} (h : Sl w 1 A n c (l.map by8)) (k0 : Nat) (hk : k0 + 4 ≤ n) :
    Calls Try.prog 125 #[.slice A n c, .int .i64 k0] w fun e w' => e = .returned (.tuple #[.int .u32 (le ((l.drop k0).take 4) : Nat), .bool true]) ∧ w = w' := by
  have hl := h.le; have hm := h.max
  have hlen : l.length = n := by simpa using h.len
  obtain ⟨b, off, rfl⟩ := h.form (by omega)
  obtain ⟨p, hp⟩ : ∃ p, p = (l.drop k0).take 4 := ⟨_, rfl⟩
  have hpl : p.length = 4 := by rw [hp]; simp; omega
  have hcell : ∀ j, j < 4 → w.cell? ⟨b, off + k0 + j, none⟩ = some (.int .u8 (bt p j : Int)) := by
    intro j hj
    have := h.byte (k0 + j) (by omega)
    rw [Nat.add_assoc, this, hp, bt_take _ _ _ hj, bt_drop]
  rw [← hp]
  have HP := Lib.hid (piece32_yes w b off n c hl hm k0 hk)
  have HB : Hid (le (p.take 4) = le p) := Lib.hid (by rw [List.take_of_length_le (by omega)])
  have HL := Lib.hid hpl; have HLen := Lib.hid hlen
  have HC := Lib.hid hcell
  clear hcell hp hlen hpl h
  go_enter Try.func125, Try.ntmps125
  have hne := @run_neq_slice_nil_any
  go_wp2_with (go_at_call 140; refine HP.out.mono ?_; rintro e w' ⟨rfl, rfl⟩)
  go_loop [6, 15] (fun x i => ∃ k : Nat, k ≤ 4 ∧ i = .int .i64 k ∧ x = .int .u32 (le (p.take k) : Nat)) (fun _ i => 4 - (intOf i).toNat)
  case atStart => exact ⟨0, by omega, rfl, rfl⟩
  case round =>
    obtain ⟨k, hk3, rfl, rfl⟩ := hrel
    by_cases hlt : k < 4
    · have g := HC.out k hlt
      have hc := bt_lt p k
      have hx : le (p.take k) < 256 ^ k := by
        have := le_lt (p.take k); rwa [List.length_take, Nat.min_eq_left (by rw [HL.out]; omega)] at this
      have hx2 : le (p.take k) < 16777216 * 256 := Nat.lt_of_lt_of_le hx (Nat.pow_le_pow_right (n := 256) (by decide) (show k ≤ 4 by omega))
      have HS := Lib.hid (or_shl32 (le (p.take k)) (bt p k) k hlt hx hc)
      go_wp2
      go_round
      case rel => exact ⟨k + 1, by omega, by go_num, by rw [le_take p k (by rw [HL.out]; exact hlt), HS.out]⟩
      case measure => simp [intOf]; omega
    · obtain rfl : k = 4 := by omega
      go_wp2
      go_ret2
      exact ⟨by (rw [HB.out]) <;> rfl, rfl⟩
set_option maxHeartbeats 400000 in
theorem LoadLE32_no (w : World) {A : Option Addr} {n c : Nat} (hn : n ≤ c) (hc : c ≤ 9223372036854775807) (at_ : Int) (h : ¬ (0 ≤ at_ ∧ at_ + 4 ≤ n)) (h2 : at_ ≤ 9223372036854775807) :
    Calls Try.prog 125 #[.slice A n c, .int .i64 at_] w fun e w' => e = .returned (.tuple #[.int .u32 0, .bool false]) ∧ w = w' := by
  have HP := Lib.hid (piece32_no w A n c hn hc at_ h h2)
  clear h
  go_enter Try.func125, Try.ntmps125
  have hne := @run_neq_slice_nil_any
  go_wp2_with (go_at_call 140; refine HP.out.mono ?_; rintro e w' ⟨rfl, rfl⟩)
  go_loop [6, 15] (fun x i => i = .int .i64 0 ∧ x = .int .u32 0) (fun x i => 0)
  case atStart => exact ⟨rfl, rfl⟩
  case round =>
    obtain ⟨rfl, rfl⟩ := hrel
    go_wp2
    go_ret2
    exact ⟨rfl, rfl⟩
theorem shl_or64 (x c : Nat) (hx : x < 72057594037927936) (hc : c < 256) : bits .or .u64 ((x : Int) * 256) (c : Int) = ((x * 256 + c : Nat) : Int) := by
  rw [show ((x : Int) * 256) = ((x * 256 : Nat) : Int) by simp, bits_or64 _ _ (by omega) (by omega), show x * 256 = 2 ^ 8 * x by omega, ← Nat.two_pow_add_eq_or_of_lt hc]
set_option maxHeartbeats 400000 in
theorem LoadBE64_yes (w : World) {A : Option Addr} {n c : Nat} {l : List UInt8} (h : Sl w 1 A n c (l.map by8)) (k0 : Nat) (hk : k0 + 8 ≤ n) :
    Calls Try.prog 131 #[.slice A n c, .int .i64 k0] w fun e w' => e = .returned (.tuple #[.int .u64 (be ((l.drop k0).take 8) : Nat), .bool true]) ∧ w = w' := by
  have hl := h.le; have hm := h.max
  have hlen : l.length = n := by simpa using h.len
  obtain ⟨b, off, rfl⟩ := h.form (by omega)
  obtain ⟨p, hp⟩ : ∃ p, p = (l.drop k0).take 8 := ⟨_, rfl⟩
  have hpl : p.length = 8 := by rw [hp]; simp; omega
  have hcell : ∀ j, j < 8 → w.cell? ⟨b, off + k0 + j, none⟩ = some (.int .u8 (bt p j : Int)) := by
    intro j hj
    have := h.byte (k0 + j) (by omega)
    rw [Nat.add_assoc, this, hp, bt_take _ _ _ hj, bt_drop]
  rw [← hp]
  have HP := Lib.hid (piece64_yes w b off n c hl hm k0 hk)
  have HB : Hid (be (p.take 8) = be p) := Lib.hid (by rw [List.take_of_length_le (by omega)])
  have HL := Lib.hid hpl; have HLen := Lib.hid hlen
  have HC := Lib.hid hcell
  clear hcell hp hlen hpl h
  go_enter Try.func131, Try.ntmps131
  have hne := @run_neq_slice_nil_any
  go_wp2_with (go_at_call 141; refine HP.out.mono ?_; rintro e w' ⟨rfl, rfl⟩)
  go_loop [6, 15] (fun x i => ∃ k : Nat, k ≤ 8 ∧ i = .int .i64 k ∧ x = .int .u64 (be (p.take k) : Nat)) (fun _ i => 8 - (intOf i).toNat)
  case atStart => exact ⟨0, by omega, rfl, rfl⟩
  case round =>
    obtain ⟨k, hk3, rfl, rfl⟩ := hrel
    by_cases hlt : k < 8
    · have g := HC.out k hlt
      have hc := bt_lt p k
      have hx : be (p.take k) < 256 ^ k := by
        have := be_lt (p.take k); rwa [List.length_take, Nat.min_eq_left (by rw [HL.out]; omega)] at this
      have hx2 : be (p.take k) < 72057594037927936 * 256 := Nat.lt_of_lt_of_le hx (Nat.pow_le_pow_right (n := 256) (by decide) (show k ≤ 8 by omega))
      have HS := Lib.hid (shl_or64 (be (p.take k)) (bt p k) (by have h3 : 256 ^ k ≤ 256 ^ 7 := Nat.pow_le_pow_right (by decide) (by omega); omega) hc)
      have hx3 : be (p.take k) < 72057594037927936 := by have h3 : 256 ^ k ≤ 256 ^ 7 := Nat.pow_le_pow_right (by decide) (by omega); omega
      go_wp2
      go_round
      case rel => exact ⟨k + 1, by omega, by go_num, by rw [be_take p k (by rw [HL.out]; exact hlt), HS.out]⟩
      case measure => simp [intOf]; omega
    · obtain rfl : k = 8 := by omega
      go_wp2
      go_ret2
      exact ⟨by (rw [HB.out]) <;> rfl, rfl⟩
set_option maxHeartbeats 400000 in
theorem LoadBE64_no (w : World) {A : Option Addr} {n c : Nat} (hn : n ≤ c) (hc : c ≤ 9223372036854775807) (at_ : Int) (h : ¬ (0 ≤ at_ ∧ at_ + 8 ≤ n)) (h2 : at_ ≤ 9223372036854775807) :
    Calls Try.prog 131 #[.slice A n c, .int .i64 at_] w fun e w' => e = .returned (.tuple #[.int .u64 0, .bool false]) ∧ w = w' := by
  have HP := Lib.hid (piece64_no w A n c hn hc at_ h h2)
  clear h
  go_enter Try.func131, Try.ntmps131
  have hne := @run_neq_slice_nil_any
  go_wp2_with (go_at_call 141; refine HP.out.mono ?_; rintro e w' ⟨rfl, rfl⟩)
  go_loop [6, 15] (fun x i => i = .int .i64 0 ∧ x = .int .u64 0) (fun x i => 0)
  case atStart => exact ⟨rfl, rfl⟩
  case round =>
    obtain ⟨rfl, rfl⟩ := hrel
    go_wp2
    go_ret2
    exact ⟨rfl, rfl⟩
theorem or_shl64 (x c j : Nat) (hj : j < 8) (hx : x < 256 ^ j) (hc : c < 256) : bits .or .u64 (x : Int) (IntKind.u64.wrap ((c : Int) * 2 ^ (8 * j))) = ((x + c * 256 ^ j : Nat) : Int) := by
  have e : (256 : Nat) ^ j = 2 ^ (8 * j) := by rw [Nat.pow_mul]
  have hle : c * 2 ^ (8 * j) < 18446744073709551616 := by
    have h1 : (2 : Nat) ^ (8 * j) * 256 ≤ 2 ^ 64 := by rw [show 256 = 2 ^ 8 from rfl, ← Nat.pow_add]; exact Nat.pow_le_pow_right (by decide) (by omega)
    have h2 : c * 2 ^ (8 * j) < 256 * 2 ^ (8 * j) := Nat.mul_lt_mul_of_pos_right hc (Nat.pow_pos (by decide))
    omega
  have e2 : ((c : Int) * 2 ^ (8 * j) % 18446744073709551616) = ((c * 2 ^ (8 * j) : Nat) : Int) := by
    rw [show ((c : Int) * 2 ^ (8 * j)) = ((c * 2 ^ (8 * j) : Nat) : Int) by simp]; omega
  have hx2 : x < 2 ^ 64 := Nat.lt_of_lt_of_le hx (by rw [e]; exact Nat.pow_le_pow_right (by decide) (by omega))
  rw [e] at hx
  rw [IntKind.wrap_u64, e2, bits_or64 _ _ hx2 hle, Nat.or_comm, Nat.mul_comm c, ← Nat.two_pow_add_eq_or_of_lt hx, e, Nat.add_comm, Nat.mul_comm]
theorem EB : ElemT Try.prog 22 5 (.int .u8 0) 1 1 := ⟨Try.underlying22, by kernel_rfl, rfl, by decide⟩
def stLE32 (x k : Nat) : List UInt8 := (List.range 4).map fun i => if i < k then UInt8.ofNat (x / 256 ^ i) else 0
theorem stLE32_len (x k : Nat) : (stLE32 x k).length = 4 := by simp [stLE32]
theorem stLE32_set (x k y : Nat) (hy : y = x / 256 ^ k) (h : k < 4) : ((stLE32 x k).map by8).set k (.int .u8 ((y : Int) % 256)) = (stLE32 x (k + 1)).map by8 := by
  have e : Value.int .u8 ((y : Int) % 256) = by8 (UInt8.ofNat (x / 256 ^ k)) := by simp [by8, hy]
  rw [e, ← List.map_set]
  congr 1
  refine List.ext_getElem (by simp [stLE32]) fun i h1 h2 => ?_
  have hi : i < 4 := by simpa [stLE32] using h2
  simp only [stLE32, List.getElem_set, List.getElem_map, List.getElem_range]
  by_cases h3 : k = i
  · subst h3; simp
  · by_cases h4 : i < k
    · simp [h3, h4, show i < k + 1 by omega]
    · simp [h3, h4, show ¬ i < k + 1 by omega]
set_option maxHeartbeats 400000 in
theorem StoreLE32 (w : World) (x : Nat) (hx : x < 4294967296) :
    Calls Try.prog 91 #[.int .u32 x] w fun e w' => e = .returned (.slice (some ⟨w.heap.size, 0, none⟩) 4 4) ∧
      w'.ownsRow w.heap.size 5 1 (.slice (some ⟨w.heap.size, 0, none⟩) 4 4) 4 ((stLE32 x 4).map by8) ∧ Below w.heap.size w w' := by
  go_enter Try.func91, Try.ntmps91
  go_wp2_with (first | (go_at_call 123; refine (width32 _).mono ?_; rintro e w' ⟨rfl, rfl⟩) | (refine mk_full EB rfl rfl _ _ rfl w.heap.size 4 rfl rfl rfl rfl (by decide) (by decide) (Nat.le_refl _) ?_; intro w1 hown hg; have hb := below_grown hg; clear hg))
  go_loopw [0, 4, 10] (fun x' _ i wr => ∃ k y : Nat, k ≤ 4 ∧ Hid (y = x / 256 ^ k) ∧ y < 4294967296 ∧ i = .int .i64 k ∧ x' = .int .u32 y ∧ wr.ownsRow w.heap.size 5 1 (.slice (some ⟨w.heap.size, 0, none⟩) 4 4) 4 ((stLE32 x k).map by8) ∧ Below w.heap.size w wr) (fun _ _ i _ => 4 - (intOf i).toNat)
  case atStart => exact ⟨0, x, by omega, Lib.hid (by simp), hx, rfl, rfl, by simpa [stLE32, by8, List.range_succ] using hown, hb⟩
  case round =>
    obtain ⟨k, y, hk, hy, hylt, rfl, rfl, hst, hb⟩ := hrel
    by_cases hlt : k < 4
    · obtain ⟨v0, hc0⟩ := own_cell hst k (by omega)
      have hf0 := hst.frozenAt k
      have hs2 := hst.stored k (.int .u8 ((y : Int) % 256))
      have HS := Lib.hid hs2
      clear hs2
      go_wp2
      go_roundw
      case rel => exact ⟨k + 1, y / 256, by omega, Lib.hid (by rw [hy.out, Nat.pow_succ, Nat.div_div_eq_div_mul]), by omega, by go_num, rfl, by have h := HS.out.1; rw [stLE32_set x k y hy.out hlt] at h; exact h, hb.setCell (Nat.le_refl _) _⟩
      case measure => simp [intOf]; omega
    · obtain rfl : k = 4 := by omega
      go_wp2
      go_ret
      exact ⟨rfl, hst, hb⟩
def stLE64 (x k : Nat) : List UInt8 := (List.range 8).map fun i => if i < k then UInt8.ofNat (x / 256 ^ i) else 0
theorem stLE64_len (x k : Nat) : (stLE64 x k).length = 8 := by simp [stLE64]
theorem stLE64_set (x k y : Nat) (hy : y = x / 256 ^ k) (h : k < 8) : ((stLE64 x k).map by8).set k (.int .u8 ((y : Int) % 256)) = (stLE64 x (k + 1)).map by8 := by
  have e : Value.int .u8 ((y : Int) % 256) = by8 (UInt8.ofNat (x / 256 ^ k)) := by simp [by8, hy]
  rw [e, ← List.map_set]
  congr 1
  refine List.ext_getElem (by simp [stLE64]) fun i h1 h2 => ?_
  have hi : i < 8 := by simpa [stLE64] using h2
  simp only [stLE64, List.getElem_set, List.getElem_map, List.getElem_range]
  by_cases h3 : k = i
  · subst h3; simp
  · by_cases h4 : i < k
    · simp [h3, h4, show i < k + 1 by omega]
    · simp [h3, h4, show ¬ i < k + 1 by omega]
def stBE32 (x k : Nat) : List UInt8 := (List.range 4).map fun i => if 4 ≤ i + k then UInt8.ofNat (x / 256 ^ (3 - i)) else 0
theorem stBE32_len (x k : Nat) : (stBE32 x k).length = 4 := by simp [stBE32]
theorem stBE32_set (x k y : Nat) (hy : y = x / 256 ^ k) (h : k < 4) : ((stBE32 x k).map by8).set (3 - k) (.int .u8 ((y : Int) % 256)) = (stBE32 x (k + 1)).map by8 := by
  have e : Value.int .u8 ((y : Int) % 256) = by8 (UInt8.ofNat (x / 256 ^ k)) := by simp [by8, hy]
  rw [e, ← List.map_set]
  congr 1
  refine List.ext_getElem (by simp [stBE32]) fun i h1 h2 => ?_
  have hi : i < 4 := by simpa [stBE32] using h2
  simp only [stBE32, List.getElem_set, List.getElem_map, List.getElem_range]
  by_cases h3 : 3 - k = i
  · subst h3; simp [show 4 ≤ 3 - k + (k + 1) by omega, show 3 - (3 - k) = k by omega]
  · by_cases h4 : 4 ≤ i + k
    · simp [h3, h4, show 4 ≤ i + (k + 1) by omega]
    · simp [h3, h4, show ¬ 4 ≤ i + (k + 1) by omega]
set_option maxHeartbeats 400000 in
theorem StoreBE32 (w : World) (x : Nat) (hx : x < 4294967296) :
    Calls Try.prog 90 #[.int .u32 x] w fun e w' => e = .returned (.slice (some ⟨w.heap.size, 0, none⟩) 4 4) ∧
      w'.ownsRow w.heap.size 5 1 (.slice (some ⟨w.heap.size, 0, none⟩) 4 4) 4 ((stBE32 x 4).map by8) ∧ Below w.heap.size w w' := by
  go_enter Try.func90, Try.ntmps90
  go_wp2_with (first | (go_at_call 123; refine (width32 _).mono ?_; rintro e w' ⟨rfl, rfl⟩) | (refine mk_full EB rfl rfl _ _ rfl w.heap.size 4 rfl rfl rfl rfl (by decide) (by decide) (Nat.le_refl _) ?_; intro w1 hown hg; have hb := below_grown hg; clear hg))
  go_loopw [0, 4] (fun x' i wr => ∃ k y : Nat, k ≤ 4 ∧ Hid (y = x / 256 ^ k) ∧ y < 4294967296 ∧ i = .int .i64 (3 - (k : Int)) ∧ x' = .int .u32 y ∧ wr.ownsRow w.heap.size 5 1 (.slice (some ⟨w.heap.size, 0, none⟩) 4 4) 4 ((stBE32 x k).map by8) ∧ Below w.heap.size w wr) (fun _ i _ => (intOf i + 1).toNat)
  case atStart => exact ⟨0, x, by omega, Lib.hid (by simp), hx, rfl, rfl, by simpa [stBE32, by8, List.range_succ] using hown, hb⟩
  case round =>
    obtain ⟨k, y, hk, hy, hylt, rfl, rfl, hst, hb⟩ := hrel
    by_cases hlt : k < 4
    · obtain ⟨v0, hc0⟩ := own_cell hst (3 - k) (by omega)
      have hf0 := hst.frozenAt (3 - k)
      have hs2 := hst.stored (3 - k) (.int .u8 ((y : Int) % 256))
      have HS := Lib.hid hs2
      clear hs2
      go_wp2
      go_roundw
      case rel => exact ⟨k + 1, y / 256, by omega, Lib.hid (by rw [hy.out, Nat.pow_succ, Nat.div_div_eq_div_mul]), by omega, by congr 1; omega, rfl, by have h := HS.out.1; rw [stBE32_set x k y hy.out hlt] at h; exact h, hb.setCell (Nat.le_refl _) _⟩
      case measure => simp [intOf]; omega
    · obtain rfl : k = 4 := by omega
      go_wp2
      go_ret
      exact ⟨rfl, hst, hb⟩
def stBE64 (x k : Nat) : List UInt8 := (List.range 8).map fun i => if 8 ≤ i + k then UInt8.ofNat (x / 256 ^ (7 - i)) else 0
theorem stBE64_len (x k : Nat) : (stBE64 x k).length = 8 := by simp [stBE64]
theorem stBE64_set (x k y : Nat) (hy : y = x / 256 ^ k) (h : k < 8) : ((stBE64 x k).map by8).set (7 - k) (.int .u8 ((y : Int) % 256)) = (stBE64 x (k + 1)).map by8 := by
  have e : Value.int .u8 ((y : Int) % 256) = by8 (UInt8.ofNat (x / 256 ^ k)) := by simp [by8, hy]
  rw [e, ← List.map_set]
  congr 1
  refine List.ext_getElem (by simp [stBE64]) fun i h1 h2 => ?_
  have hi : i < 8 := by simpa [stBE64] using h2
  simp only [stBE64, List.getElem_set, List.getElem_map, List.getElem_range]
  by_cases h3 : 7 - k = i
  · subst h3; simp [show 8 ≤ 7 - k + (k + 1) by omega, show 7 - (7 - k) = k by omega]
  · by_cases h4 : 8 ≤ i + k
    · simp [h3, h4, show 8 ≤ i + (k + 1) by omega]
    · simp [h3, h4, show ¬ 8 ≤ i + (k + 1) by omega]
set_option maxHeartbeats 400000 in
theorem StoreBE64 (w : World) (x : Nat) (hx : x < 18446744073709551616) :
    Calls Try.prog 132 #[.int .u64 x] w fun e w' => e = .returned (.slice (some ⟨w.heap.size, 0, none⟩) 8 8) ∧
      w'.ownsRow w.heap.size 5 1 (.slice (some ⟨w.heap.size, 0, none⟩) 8 8) 8 ((stBE64 x 8).map by8) ∧ Below w.heap.size w w' := by
  go_enter Try.func132, Try.ntmps132
  go_wp2_with (first | (go_at_call 142; refine (width64 _).mono ?_; rintro e w' ⟨rfl, rfl⟩) | (refine mk_full EB rfl rfl _ _ rfl w.heap.size 8 rfl rfl rfl rfl (by decide) (by decide) (Nat.le_refl _) ?_; intro w1 hown hg; have hb := below_grown hg; clear hg))
  go_loopw [0, 4] (fun x' i wr => ∃ k y : Nat, k ≤ 8 ∧ Hid (y = x / 256 ^ k) ∧ y < 18446744073709551616 ∧ i = .int .i64 (7 - (k : Int)) ∧ x' = .int .u64 y ∧ wr.ownsRow w.heap.size 5 1 (.slice (some ⟨w.heap.size, 0, none⟩) 8 8) 8 ((stBE64 x k).map by8) ∧ Below w.heap.size w wr) (fun _ i _ => (intOf i + 1).toNat)
  case atStart => exact ⟨0, x, by omega, Lib.hid (by simp), hx, rfl, rfl, by simpa [stBE64, by8, List.range_succ] using hown, hb⟩
  case round =>
    obtain ⟨k, y, hk, hy, hylt, rfl, rfl, hst, hb⟩ := hrel
    by_cases hlt : k < 8
    · obtain ⟨v0, hc0⟩ := own_cell hst (7 - k) (by omega)
      have hf0 := hst.frozenAt (7 - k)
      have hs2 := hst.stored (7 - k) (.int .u8 ((y : Int) % 256))
      have HS := Lib.hid hs2
      clear hs2
      go_wp2
      go_roundw
      case rel => exact ⟨k + 1, y / 256, by omega, Lib.hid (by rw [hy.out, Nat.pow_succ, Nat.div_div_eq_div_mul]), by omega, by congr 1; omega, rfl, by have h := HS.out.1; rw [stBE64_set x k y hy.out hlt] at h; exact h, hb.setCell (Nat.le_refl _) _⟩
      case measure => simp [intOf]; omega
    · obtain rfl : k = 8 := by omega
      go_wp2
      go_ret
      exact ⟨rfl, hst, hb⟩
end Go.Proofs.Ytpjmbhhfpoamnaa

namespace Go.Proofs.Ytpjmbhhfpoamnaa
open Go.RowKit

theorem flat_take (ll : List (List UInt8)) (k : Nat) (h : k < ll.length) : (ll.take (k + 1)).flatten = (ll.take k).flatten ++ ll[k] := by
  rw [List.take_succ_eq_append_getElem h, List.flatten_append]; simp
theorem flat_take_le (ll : List (List UInt8)) (k : Nat) : (ll.take k).flatten.length ≤ ll.flatten.length := by
  conv => rhs; rw [← List.take_append_drop k ll]
  rw [List.flatten_append, List.length_append]
  omega
theorem Sls.get {w : World} {b off n c : Nat} {vs : List Value} {ll : List (List UInt8)} (h : Sls w (some ⟨b, off, none⟩) n c vs ll) (k : Nat) (hk : k < n) :
    ∃ a m c, w.cell? ⟨b, off + k, none⟩ = some (.slice a m c) ∧ Sl w 1 a m c ((ll[k]'(by rw [h.len]; exact hk)).map by8) ∧ m = (ll[k]'(by rw [h.len]; exact hk)).length := by
  obtain ⟨a, m, c, h1, h2, h3⟩ := h.at_ k _ (List.getElem?_eq_getElem (by rw [h.len]; exact hk))
  obtain ⟨hk2, h4⟩ := List.getElem?_eq_some_iff.1 h1
  refine ⟨a, m, c, by rw [h.sl.cell k hk2, h4], h2, ?_⟩
  have := h2.len
  simpa using this.symm
set_option maxHeartbeats 800000 in
theorem Join_any (w : World) {A : Option Addr} {n c : Nat} {vs : List Value} {ll : List (List UInt8)} (h : Sls w A n c vs ll) (hr : ll.flatten.length ≤ 140737488355328) :
    Calls Try.prog 89 #[.slice A n c] w fun e w' => e = .returned (.slice (some ⟨w.heap.size, 0, none⟩) ll.flatten.length ll.flatten.length) ∧
      w'.ownsRow w.heap.size 5 1 (.slice (some ⟨w.heap.size, 0, none⟩) ll.flatten.length ll.flatten.length) ll.flatten.length (ll.flatten.map by8) ∧ Below w.heap.size w w' := by
  have HL := Lib.hid h.len
  have h1 := h.sl.le; have h2 := h.sl.max
  obtain ⟨J, hJ⟩ : ∃ J, J = ll.flatten := ⟨_, rfl⟩
  rw [← hJ] at hr ⊢
  obtain ⟨T, hT⟩ : ∃ T, T = J.length := ⟨_, rfl⟩
  rw [← hT] at hr ⊢
  have HJ := Lib.hid hJ
  have HT : Hid (T = ll.flatten.length) := Lib.hid (by rw [hT, hJ])
  clear hT hJ
  go_enter Try.func89, Try.ntmps89
  go_wp2
  go_loop [3, 11] (fun s i => ∃ k m : Nat, k ≤ n ∧ i = .int .i64 k ∧ s = .int .i64 m ∧ Hid (m = (ll.take k).flatten.length) ∧ m ≤ T) (fun _ i => n - (intOf i).toNat)
  case atStart => exact ⟨0, 0, by omega, rfl, rfl, Lib.hid (by simp), by omega⟩
  case round =>
    obtain ⟨k, m, hk, rfl, rfl, hm, hmT⟩ := hrel
    by_cases hlt : k < n
    · obtain ⟨b, off, rfl⟩ := h.sl.form (by omega)
      obtain ⟨a, m2, c2, g, s2, hm2⟩ := h.get k hlt
      have HM : Hid (m + m2 = (ll.take (k + 1)).flatten.length) := Lib.hid (by rw [flat_take ll k (by rw [HL.out]; exact hlt), List.length_append, ← hm.out, ← hm2])
      have hle : m + m2 ≤ T := by rw [HM.out, HT.out]; exact flat_take_le ll (k + 1)
      have z1 := s2.le; have z2 := s2.max
      clear s2 hm2
      go_wp2
      go_round
      case rel => exact ⟨k + 1, m + m2, by omega, by go_num, by go_num, HM, hle⟩
      case measure => simp [intOf]; omega
    · obtain rfl : k = n := by omega
      have hmT2 : Hid (m = T) := Lib.hid (by rw [hm.out, HT.out, List.take_of_length_le (Nat.le_of_eq HL.out)])
      obtain rfl : m = T := hmT2.out
      clear hmT2
      go_wp2_with (first | (at_builtin; refine Stopped.out ?_) | (at_make; refine Stopped.out ?_))
      refine Stopped.mk (mk_own EB rfl _ _ rfl w.heap.size m rfl rfl rfl (by omega) (by simp only [maxLen]; omega) (Nat.le_refl _) ?_)
      intro w1 hown hg
      have hb1 := below_grown hg
      clear hg
      go_wp2_with (first | (at_builtin; refine Stopped.out ?_) | (at_make; refine Stopped.out ?_))
      go_loopw [6, 24] (fun o i wr => ∃ j q : Nat, j ≤ k ∧ i = .int .i64 j ∧ q ≤ m ∧ o = .slice (some ⟨w.heap.size, 0, none⟩) q m ∧ Hid (q = (ll.take j).flatten.length) ∧
        wr.ownsRow w.heap.size 5 1 (.slice (some ⟨w.heap.size, 0, none⟩) q m) q ((ll.take j).flatten.map by8) ∧ Below w.heap.size w wr) (fun _ i _ => k - (intOf i).toNat)
      case atStart => exact ⟨0, 0, by omega, rfl, by omega, rfl, Lib.hid (by simp), by simpa using hown, hb1⟩
      case round =>
        obtain ⟨j, q, hj, rfl, hq, rfl, hqh, hst, hbl⟩ := hrel
        by_cases hlt2 : j < k
        · obtain ⟨b, off, rfl⟩ := h.sl.form (by omega)
          have h' := h.below hbl
          obtain ⟨a, m2, c2, g, s2, hm2⟩ := h'.get j hlt2
          have HM : Hid (q + m2 = (ll.take (j + 1)).flatten.length) := Lib.hid (by rw [flat_take ll j (by rw [HL.out]; exact hlt2), List.length_append, ← hqh.out, ← hm2])
          have hle : q + m2 ≤ m := by rw [HM.out, HT.out]; exact flat_take_le ll (j + 1)
          have HF := Lib.hid (flat_take ll j (by rw [HL.out]; exact hlt2))
          clear hm2
          go_wp2_with (first | (at_builtin; refine Stopped.out ?_) | (at_make; refine Stopped.out ?_))
          refine Stopped.mk (fit_own EB rfl _ _ rfl rfl hst rfl s2 (u8_one _) hle ?_)
          intro w2 hst2 hg2
          clear s2 g
          go_wp2
          go_roundw
          case rel => exact ⟨j + 1, q + m2, by omega, by go_num, hle, rfl, HM, by rw [HF.out, List.map_append]; exact hst2, hbl.grown hg2 hbl.size (fun k hk => (Option.some.inj hk) ▸ Nat.le_refl _)⟩
          case measure => simp [intOf]; omega
        · obtain rfl : j = k := by omega
          have HE : Hid (q = m) := Lib.hid (by rw [hqh.out, HT.out, List.take_of_length_le (Nat.le_of_eq HL.out)])
          obtain rfl : q = m := HE.out
          have HF : Hid ((ll.take j).flatten = J) := Lib.hid (by rw [List.take_of_length_le (Nat.le_of_eq HL.out), HJ.out])
          go_wp2
          go_ret
          exact ⟨rfl, by rw [← HF.out]; exact hst, hbl⟩

/-! ### hex -/
/-- a hex digit's value -/
def hexVal (c : Nat) : Option Nat := if 48 ≤ c ∧ c ≤ 57 then some (c - 48) else if 97 ≤ c ∧ c ≤ 102 then some (c - 87) else none
theorem hexVal_lt {c v : Nat} (h : hexVal c = some v) : v < 16 := by
  unfold hexVal at h
  split at h
  · injection h with h; omega
  · split at h
    · injection h with h; omega
    · cases h
end Go.Proofs.Ytpjmbhhfpoamnaa

namespace Go.Proofs.Ytpjmbhhfpoamnaa
open Go.RowKit
/-- a piece of a slice that is read -/
theorem Sl.piece {w : World} {b off n c : Nat} {l : List UInt8} (h : Sl w 1 (some ⟨b, off, none⟩) n c (l.map by8)) (a m : Nat) (ham : a + m ≤ n) : Sl w 1 (some ⟨b, off + a, none⟩) m (c - a) (((l.drop a).take m).map by8) := by
  have h1 := h.le; have h2 := h.max; have h3 : l.length = n := by simpa using h.len
  refine ⟨by simp; omega, by omega, by omega, (fun e => by cases e), fun ad e hp => ?_⟩
  obtain rfl := Option.some.inj e
  refine ⟨rfl, fun i hi => ?_⟩
  simp at hi
  have := h.cell (a + i) (by simp; omega)
  rw [← Nat.add_assoc] at this
  rw [this]
  simp
theorem Sl.zero (w : World) (A : Option Addr) (c : Nat) (h : A = none → c = 0) (hc : c ≤ 9223372036854775807) : Sl w 1 A 0 c [] := ⟨rfl, Nat.zero_le _, hc, h, fun _ _ hp => by simp at hp⟩
/-- a piece of a slice, wherever it lies -/
theorem slice_piece (A : Option Addr) (m c a n : Nat) (h : a + n ≤ m) (hm : m ≤ c) (hA : A = none → c = 0) (hs : ∀ ad, A = some ad → 0 < m → ad.spot = none) : ∃ A', (if c = a then A else Option.map (fun x => x.add a) A) = A' ∧
    ∀ (w : World) (l : List UInt8), Sl w 1 A m c (l.map by8) → Sl w 1 A' n (c - a) (((l.drop a).take n).map by8) := by
  refine ⟨_, rfl, fun w l hl => ?_⟩
  have hmx := hl.max
  by_cases h0 : n = 0
  · subst h0
    rw [List.take_zero]
    exact Sl.zero w _ _ (fun e => by
      split at e
      · have := hA e; omega
      · have : A = none := by simpa using e
        have := hA this; omega) (by omega)
  · cases A with
    | none => have := hA rfl; omega
    | some ad =>
      obtain ⟨b, off, sp⟩ := ad
      have := hs _ rfl (by omega)
      dsimp only at this
      subst this
      rw [if_neg (by omega)]
      have e : Option.map (fun x : Addr => x.add a) (some ⟨b, off, none⟩) = some ⟨b, off + a, none⟩ := by simp [Addr.add]
      rw [e]
      exact hl.piece a n h
end Go.Proofs.Ytpjmbhhfpoamnaa
