import Derived.Test.YtikjhandhgfohaaChecked
import Derived.Test.YtikjhandhgfohaaPre
set_option linter.unusedVariables false
set_option linter.unusedSimpArgs false
namespace Go.Proofs.Ytikjhandhgfohaa
open Go.RowKit

/-! ### width -/
theorem pow_half (W k : Nat) (h : k < W) : ((2:Int) ^ (W - k) - 1) / 2 = 2 ^ (W - (k+1)) - 1 := by
  have : W - k = (W - (k+1)) + 1 := by omega
  rw [this, Int.pow_succ]; omega
theorem pow_ne (W k : Nat) (h : k < W) : ((2:Int) ^ (W - k) - 1 == 0) = false := by
  have : (0:Int) < 2 ^ (W - (k+1)) := Int.pow_pos (by decide)
  have h2 : W - k = (W - (k+1)) + 1 := by omega
  rw [beq_eq_false_iff_ne, h2, Int.pow_succ]; omega
/-! ### turns -/
def rotL (W : Nat) (a : Nat) (n : Int) : Nat := ((BitVec.ofNat W a).rotateLeft (n % W).toNat).toNat
def rotR (W : Nat) (a : Nat) (n : Int) : Nat := ((BitVec.ofNat W a).rotateRight (n % W).toNat).toNat
theorem ret_int {k : IntKind} {a b : Int} (h : a = b) : Ending.returned (.int k a) = .returned (.int k b) := by rw [h]
theorem wraps_u32 (n : Int) (h₀ : 0 ≤ n) (h₁ : n < 2 ^ 32) : IntKind.u32.wrap n = n := by rw [IntKind.wrap_u32]; omega
theorem wraps_u64 (n : Int) (h₀ : 0 ≤ n) (h₁ : n < 2 ^ 64) : IntKind.u64.wrap n = n := by rw [IntKind.wrap_u64]; omega
theorem bits_xor_nat (k : IntKind) (j : Nat) (hj : j ≤ k.bits) (hk : ∀ n : Int, 0 ≤ n → n < 2 ^ j → k.wrap n = n) (a b : Nat) (ha : a < 2 ^ j) (hb : b < 2 ^ j) :
    bits .xor k a b = ((a ^^^ b : Nat) : Int) := by
  have hp : 2 ^ j ≤ 2 ^ k.bits := Nat.pow_le_pow_right (by decide) hj
  have ha' : a % 2 ^ k.bits = a := Nat.mod_eq_of_lt (Nat.lt_of_lt_of_le ha hp)
  have hb' : b % 2 ^ k.bits = b := Nat.mod_eq_of_lt (Nat.lt_of_lt_of_le hb hp)
  have cast : ∀ n : Nat, n < 2 ^ j → ((n : Nat) : Int) < 2 ^ j := fun n h => by exact_mod_cast h
  simp only [bits, BitVec.ofInt_natCast, BitVec.toNat_xor, BitVec.toNat_ofNat, ha', hb']
  exact hk _ (Int.natCast_nonneg _) (cast _ (Nat.xor_lt_two_pow ha hb))
theorem bits_or8 (a b : Nat) (ha : a < 2 ^ 8) (hb : b < 2 ^ 8) : bits .or .u8 a b = ((a ||| b : Nat) : Int) := (bits_nat .u8 8 (by decide) wraps_u8 a b ha hb).2
theorem bits_or32 (a b : Nat) (ha : a < 2 ^ 32) (hb : b < 2 ^ 32) : bits .or .u32 a b = ((a ||| b : Nat) : Int) := (bits_nat .u32 32 (by decide) wraps_u32 a b ha hb).2
theorem bits_or64 (a b : Nat) (ha : a < 2 ^ 64) (hb : b < 2 ^ 64) : bits .or .u64 a b = ((a ||| b : Nat) : Int) := (bits_nat .u64 64 (by decide) wraps_u64 a b ha hb).2
theorem bits_and8 (a b : Nat) (ha : a < 2 ^ 8) (hb : b < 2 ^ 8) : bits .and .u8 a b = ((a &&& b : Nat) : Int) := (bits_nat .u8 8 (by decide) wraps_u8 a b ha hb).1
theorem bits_and32 (a b : Nat) (ha : a < 2 ^ 32) (hb : b < 2 ^ 32) : bits .and .u32 a b = ((a &&& b : Nat) : Int) := (bits_nat .u32 32 (by decide) wraps_u32 a b ha hb).1
theorem bits_and64 (a b : Nat) (ha : a < 2 ^ 64) (hb : b < 2 ^ 64) : bits .and .u64 a b = ((a &&& b : Nat) : Int) := (bits_nat .u64 64 (by decide) wraps_u64 a b ha hb).1
theorem bits_xor8 (a b : Nat) (ha : a < 2 ^ 8) (hb : b < 2 ^ 8) : bits .xor .u8 a b = ((a ^^^ b : Nat) : Int) := bits_xor_nat .u8 8 (by decide) wraps_u8 a b ha hb
theorem bits_xor32 (a b : Nat) (ha : a < 2 ^ 32) (hb : b < 2 ^ 32) : bits .xor .u32 a b = ((a ^^^ b : Nat) : Int) := bits_xor_nat .u32 32 (by decide) wraps_u32 a b ha hb
theorem bits_xor64 (a b : Nat) (ha : a < 2 ^ 64) (hb : b < 2 ^ 64) : bits .xor .u64 a b = ((a ^^^ b : Nat) : Int) := bits_xor_nat .u64 64 (by decide) wraps_u64 a b ha hb
theorem places32 (n : Int) : bits .and .u64 (IntKind.u64.wrap n) 31 = n % 32 := by
  obtain ⟨m, hm⟩ := Int.eq_ofNat_of_zero_le (show 0 ≤ IntKind.u64.wrap n by rw [IntKind.wrap_u64]; omega)
  have hlt : m < 2 ^ 64 := by rw [IntKind.wrap_u64] at hm; omega
  rw [hm, show (31 : Int) = ((31 : Nat) : Int) from rfl, bits_and64 m 31 hlt (by decide), show 31 = 2 ^ 5 - 1 from rfl, Nat.and_two_pow_sub_one_eq_mod]
  rw [IntKind.wrap_u64] at hm
  omega
theorem places64 (n : Int) : bits .and .u64 (IntKind.u64.wrap n) 63 = n % 64 := by
  obtain ⟨m, hm⟩ := Int.eq_ofNat_of_zero_le (show 0 ≤ IntKind.u64.wrap n by rw [IntKind.wrap_u64]; omega)
  have hlt : m < 2 ^ 64 := by rw [IntKind.wrap_u64] at hm; omega
  rw [hm, show (63 : Int) = ((63 : Nat) : Int) from rfl, bits_and64 m 63 hlt (by decide), show 63 = 2 ^ 6 - 1 from rfl, Nat.and_two_pow_sub_one_eq_mod]
  rw [IntKind.wrap_u64] at hm
  omega
theorem rotL32_eq (a : Nat) (ha : a < 4294967296) (n : Int) : bits BinOp.or IntKind.u32 (↑a * 2 ^ (n % 32).toNat % 4294967296) (↑a / 2 ^ (32 - n % 32).toNat) = ((rotL 32 a n : Nat) : Int) := by
  obtain ⟨k, hk⟩ := Int.eq_ofNat_of_zero_le (show 0 ≤ n % 32 by omega)
  have hk2 : k < 32 := by omega
  have e1 : ((a : Int) * 2 ^ (n % 32).toNat % 4294967296) = ((a * 2 ^ k % 4294967296 : Nat) : Int) := by rw [hk]; simp
  have e2 : ((a : Int) / 2 ^ (32 - n % 32).toNat) = ((a / 2 ^ (32 - k) : Nat) : Int) := by rw [hk, show ((32 : Int) - (k : Int)).toNat = 32 - k by omega]; simp
  rw [e1, e2, bits_or32 _ _ (by omega) (Nat.lt_of_le_of_lt (Nat.div_le_self _ _) ha)]
  unfold rotL
  rw [show (n % ((32 : Nat) : Int)).toNat = k by omega, BitVec.rotateLeft_def, Nat.mod_eq_of_lt hk2]
  simp [Nat.shiftLeft_eq, Nat.shiftRight_eq_div_pow, Nat.mod_eq_of_lt ha]
theorem rotR32_eq (a : Nat) (ha : a < 4294967296) (n : Int) : bits BinOp.or IntKind.u32 (↑a / 2 ^ (n % 32).toNat) (↑a * 2 ^ (32 - n % 32).toNat % 4294967296) = ((rotR 32 a n : Nat) : Int) := by
  obtain ⟨k, hk⟩ := Int.eq_ofNat_of_zero_le (show 0 ≤ n % 32 by omega)
  have hk2 : k < 32 := by omega
  have e1 : ((a : Int) / 2 ^ (n % 32).toNat) = ((a / 2 ^ k : Nat) : Int) := by rw [hk]; simp
  have e2 : ((a : Int) * 2 ^ (32 - n % 32).toNat % 4294967296) = ((a * 2 ^ (32 - k) % 4294967296 : Nat) : Int) := by rw [hk, show ((32 : Int) - (k : Int)).toNat = 32 - k by omega]; simp
  rw [e1, e2, bits_or32 _ _ (Nat.lt_of_le_of_lt (Nat.div_le_self _ _) ha) (by omega)]
  unfold rotR
  rw [show (n % ((32 : Nat) : Int)).toNat = k by omega, BitVec.rotateRight_def, Nat.mod_eq_of_lt hk2]
  simp [Nat.shiftLeft_eq, Nat.shiftRight_eq_div_pow, Nat.mod_eq_of_lt ha]
theorem rotL64_eq (a : Nat) (ha : a < 18446744073709551616) (n : Int) : bits BinOp.or IntKind.u64 (↑a * 2 ^ (n % 64).toNat % 18446744073709551616) (↑a / 2 ^ (64 - n % 64).toNat) = ((rotL 64 a n : Nat) : Int) := by
  obtain ⟨k, hk⟩ := Int.eq_ofNat_of_zero_le (show 0 ≤ n % 64 by omega)
  have hk2 : k < 64 := by omega
  have e1 : ((a : Int) * 2 ^ (n % 64).toNat % 18446744073709551616) = ((a * 2 ^ k % 18446744073709551616 : Nat) : Int) := by rw [hk]; simp
  have e2 : ((a : Int) / 2 ^ (64 - n % 64).toNat) = ((a / 2 ^ (64 - k) : Nat) : Int) := by rw [hk, show ((64 : Int) - (k : Int)).toNat = 64 - k by omega]; simp
  rw [e1, e2, bits_or64 _ _ (by omega) (Nat.lt_of_le_of_lt (Nat.div_le_self _ _) ha)]
  unfold rotL
  rw [show (n % ((64 : Nat) : Int)).toNat = k by omega, BitVec.rotateLeft_def, Nat.mod_eq_of_lt hk2]
  simp [Nat.shiftLeft_eq, Nat.shiftRight_eq_div_pow, Nat.mod_eq_of_lt ha]
theorem rotR64_eq (a : Nat) (ha : a < 18446744073709551616) (n : Int) : bits BinOp.or IntKind.u64 (↑a / 2 ^ (n % 64).toNat) (↑a * 2 ^ (64 - n % 64).toNat % 18446744073709551616) = ((rotR 64 a n : Nat) : Int) := by
  obtain ⟨k, hk⟩ := Int.eq_ofNat_of_zero_le (show 0 ≤ n % 64 by omega)
  have hk2 : k < 64 := by omega
  have e1 : ((a : Int) / 2 ^ (n % 64).toNat) = ((a / 2 ^ k : Nat) : Int) := by rw [hk]; simp
  have e2 : ((a : Int) * 2 ^ (64 - n % 64).toNat % 18446744073709551616) = ((a * 2 ^ (64 - k) % 18446744073709551616 : Nat) : Int) := by rw [hk, show ((64 : Int) - (k : Int)).toNat = 64 - k by omega]; simp
  rw [e1, e2, bits_or64 _ _ (Nat.lt_of_le_of_lt (Nat.div_le_self _ _) ha) (by omega)]
  unfold rotR
  rw [show (n % ((64 : Nat) : Int)).toNat = k by omega, BitVec.rotateRight_def, Nat.mod_eq_of_lt hk2]
  simp [Nat.shiftLeft_eq, Nat.shiftRight_eq_div_pow, Nat.mod_eq_of_lt ha]
end Go.Proofs.Ytikjhandhgfohaa
