import Derived.Test.YtikjhandhgfohaaChecked
import Derived.Test.YtikjhandhgfohaaPre
import Derived.Test.YtikjhandhgfohaaBits1
set_option linter.unusedVariables false
set_option linter.unusedSimpArgs false
namespace Go.Proofs.Ytikjhandhgfohaa
open Go.RowKit

theorem shl_or32 (x c : Nat) (hx : x < 16777216) (hc : c < 256) : bits .or .u32 ((x : Int) * 256) (c : Int) = ((x * 256 + c : Nat) : Int) := by
  rw [show ((x : Int) * 256) = ((x * 256 : Nat) : Int) by simp, bits_or32 _ _ (by omega) (by omega), show x * 256 = 2 ^ 8 * x by omega, ← Nat.two_pow_add_eq_or_of_lt hc]
theorem or_shl32 (x c j : Nat) (hj : j < 4) (hx : x < 256 ^ j) (hc : c < 256) : bits .or .u32 (x : Int) ((c : Int) * 2 ^ (8 * j) % 4294967296) = ((x + c * 256 ^ j : Nat) : Int) := by
  have e : (256 : Nat) ^ j = 2 ^ (8 * j) := by rw [Nat.pow_mul]
  have hle : c * 2 ^ (8 * j) < 4294967296 := by
    have h1 : (2 : Nat) ^ (8 * j) * 256 ≤ 2 ^ 32 := by rw [show 256 = 2 ^ 8 from rfl, ← Nat.pow_add]; exact Nat.pow_le_pow_right (by decide) (by omega)
    have h2 : c * 2 ^ (8 * j) < 256 * 2 ^ (8 * j) := Nat.mul_lt_mul_of_pos_right hc (Nat.pow_pos (by decide))
    omega
  have e2 : ((c : Int) * 2 ^ (8 * j) % 4294967296) = ((c * 2 ^ (8 * j) : Nat) : Int) := by
    rw [show ((c : Int) * 2 ^ (8 * j)) = ((c * 2 ^ (8 * j) : Nat) : Int) by simp]; omega
  have hx2 : x < 2 ^ 32 := Nat.lt_of_lt_of_le hx (by rw [e]; exact Nat.pow_le_pow_right (by decide) (by omega))
  rw [e] at hx
  rw [e2, bits_or32 _ _ hx2 hle, Nat.or_comm, Nat.mul_comm c, ← Nat.two_pow_add_eq_or_of_lt hx, e, Nat.add_comm, Nat.mul_comm]
theorem shl_or64 (x c : Nat) (hx : x < 72057594037927936) (hc : c < 256) : bits .or .u64 ((x : Int) * 256) (c : Int) = ((x * 256 + c : Nat) : Int) := by
  rw [show ((x : Int) * 256) = ((x * 256 : Nat) : Int) by simp, bits_or64 _ _ (by omega) (by omega), show x * 256 = 2 ^ 8 * x by omega, ← Nat.two_pow_add_eq_or_of_lt hc]
theorem or_shl64 (x c j : Nat) (hj : j < 8) (hx : x < 256 ^ j) (hc : c < 256) : bits .or .u64 (x : Int) (IntKind.u64.wrap ((c : Int) * 2 ^ (8 * j))) = ((x + c * 256 ^ j : Nat) : Int) := by
  have e : (256 : Nat) ^ j = 2 ^ (8 * j) := by rw [Nat.pow_mul]
  have hle : c * 2 ^ (8 * j) < 18446744073709551616 := by
    have h1 : (2 : Nat) ^ (8 * j) * 256 ≤ 2 ^ 64 := by rw [show 256 = 2 ^ 8 from rfl, ← Nat.pow_add]; exact Nat.pow_le_pow_right (by decide) (by omega)
    have h2 : c * 2 ^ (8 * j) < 256 * 2 ^ (8 * j) := Nat.mul_lt_mul_of_pos_right hc (Nat.pow_pos (by decide))
    omega
  have e2 : ((c : Int) * 2 ^ (8 * j) % 18446744073709551616) = ((c * 2 ^ (8 * j) : Nat) : Int) := by
    rw [show ((c : Int) * 2 ^ (8 * j)) = ((c * 2 ^ (8 * j) : Nat) : Int) by simp]; omega
  have hx2 : x < 2 ^ 64 := Nat.lt_of_lt_of_le hx (by rw [e]; exact Nat.pow_le_pow_right (by decide) (by omega))
  rw [e] at hx
  rw [IntKind.wrap_u64, e2, bits_or64 _ _ hx2 hle, Nat.or_comm, Nat.mul_comm c, ← Nat.two_pow_add_eq_or_of_lt hx, e, Nat.add_comm, Nat.mul_comm]
theorem EB : ElemT Try.prog 23 5 (.int .u8 0) 1 1 := ⟨Try.underlying23, by kernel_rfl, rfl, by decide⟩
def stLE32 (x k : Nat) : List UInt8 := (List.range 4).map fun i => if i < k then UInt8.ofNat (x / 256 ^ i) else 0
theorem stLE32_len (x k : Nat) : (stLE32 x k).length = 4 := by simp [stLE32]
theorem stLE32_set (x k y : Nat) (hy : y = x / 256 ^ k) (h : k < 4) : ((stLE32 x k).map by8).set k (.int .u8 ((y : Int) % 256)) = (stLE32 x (k + 1)).map by8 := by
  have e : Value.int .u8 ((y : Int) % 256) = by8 (UInt8.ofNat (x / 256 ^ k)) := by simp [by8, hy]
  rw [e, ← List.map_set]
  congr 1
  refine List.ext_getElem (by simp [stLE32]) fun i h1 h2 => ?_
  have hi : i < 4 := by simpa [stLE32] using h2
  simp only [stLE32, List.getElem_set, List.getElem_map, List.getElem_range]
  by_cases h3 : k = i
  · subst h3; simp
  · by_cases h4 : i < k
    · simp [h3, h4, show i < k + 1 by omega]
    · simp [h3, h4, show ¬ i < k + 1 by omega]
def stLE64 (x k : Nat) : List UInt8 := (List.range 8).map fun i => if i < k then UInt8.ofNat (x / 256 ^ i) else 0
theorem stLE64_len (x k : Nat) : (stLE64 x k).length = 8 := by simp [stLE64]
theorem stLE64_set (x k y : Nat) (hy : y = x / 256 ^ k) (h : k < 8) : ((stLE64 x k).map by8).set k (.int .u8 ((y : Int) % 256)) = (stLE64 x (k + 1)).map by8 := by
  have e : Value.int .u8 ((y : Int) % 256) = by8 (UInt8.ofNat (x / 256 ^ k)) := by simp [by8, hy]
  rw [e, ← List.map_set]
  congr 1
  refine List.ext_getElem (by simp [stLE64]) fun i h1 h2 => ?_
  have hi : i < 8 := by simpa [stLE64] using h2
  simp only [stLE64, List.getElem_set, List.getElem_map, List.getElem_range]
  by_cases h3 : k = i
  · subst h3; simp
  · by_cases h4 : i < k
    · simp [h3, h4, show i < k + 1 by omega]
    · simp [h3, h4, show ¬ i < k + 1 by omega]
def stBE32 (x k : Nat) : List UInt8 := (List.range 4).map fun i => if 4 ≤ i + k then UInt8.ofNat (x / 256 ^ (3 - i)) else 0
theorem stBE32_len (x k : Nat) : (stBE32 x k).length = 4 := by simp [stBE32]
theorem stBE32_set (x k y : Nat) (hy : y = x / 256 ^ k) (h : k < 4) : ((stBE32 x k).map by8).set (3 - k) (.int .u8 ((y : Int) % 256)) = (stBE32 x (k + 1)).map by8 := by
  have e : Value.int .u8 ((y : Int) % 256) = by8 (UInt8.ofNat (x / 256 ^ k)) := by simp [by8, hy]
  rw [e, ← List.map_set]
  congr 1
  refine List.ext_getElem (by simp [stBE32]) fun i h1 h2 => ?_
  have hi : i < 4 := by simpa [stBE32] using h2
  simp only [stBE32, List.getElem_set, List.getElem_map, List.getElem_range]
  by_cases h3 : 3 - k = i
  · subst h3; simp [show 4 ≤ 3 - k + (k + 1) by omega, show 3 - (3 - k) = k by omega]
  · by_cases h4 : 4 ≤ i + k
    · simp [h3, h4, show 4 ≤ i + (k + 1) by omega]
    · simp [h3, h4, show ¬ 4 ≤ i + (k + 1) by omega]
def stBE64 (x k : Nat) : List UInt8 := (List.range 8).map fun i => if 8 ≤ i + k then UInt8.ofNat (x / 256 ^ (7 - i)) else 0
theorem stBE64_len (x k : Nat) : (stBE64 x k).length = 8 := by simp [stBE64]
theorem stBE64_set (x k y : Nat) (hy : y = x / 256 ^ k) (h : k < 8) : ((stBE64 x k).map by8).set (7 - k) (.int .u8 ((y : Int) % 256)) = (stBE64 x (k + 1)).map by8 := by
  have e : Value.int .u8 ((y : Int) % 256) = by8 (UInt8.ofNat (x / 256 ^ k)) := by simp [by8, hy]
  rw [e, ← List.map_set]
  congr 1
  refine List.ext_getElem (by simp [stBE64]) fun i h1 h2 => ?_
  have hi : i < 8 := by simpa [stBE64] using h2
  simp only [stBE64, List.getElem_set, List.getElem_map, List.getElem_range]
  by_cases h3 : 7 - k = i
  · subst h3; simp [show 8 ≤ 7 - k + (k + 1) by omega, show 7 - (7 - k) = k by omega]
  · by_cases h4 : 8 ≤ i + k
    · simp [h3, h4, show 8 ≤ i + (k + 1) by omega]
    · simp [h3, h4, show ¬ 8 ≤ i + (k + 1) by omega]
end Go.Proofs.Ytikjhandhgfohaa
