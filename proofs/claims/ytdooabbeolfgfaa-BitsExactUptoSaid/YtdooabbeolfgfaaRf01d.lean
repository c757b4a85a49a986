import Derived.Test.YtdooabbeolfgfaaRf01c
import Derived.Test.YtdooabbeolfgfaaBits3
import Derived.Test.YtdooabbeolfgfaaMany
set_option linter.unusedVariables false
set_option linter.unusedSimpArgs false
namespace Go.Proofs.Ytdooabbeolfgfaa
open Go.RowKit
theorem bit_xor_eq (a b i : Nat) : (a ^^^ b) / 2 ^ i % 2 = (a / 2 ^ i % 2 + b / 2 ^ i % 2) % 2 := by
  have h := Nat.testBit_xor a b i
  rw [Nat.testBit_eq_decide_div_mod_eq, Nat.testBit_eq_decide_div_mod_eq, Nat.testBit_eq_decide_div_mod_eq] at h
  rcases Nat.mod_two_eq_zero_or_one ((a ^^^ b) / 2 ^ i) with h1 | h1 <;> rcases Nat.mod_two_eq_zero_or_one (a / 2 ^ i) with h2 | h2 <;> rcases Nat.mod_two_eq_zero_or_one (b / 2 ^ i) with h3 | h3 <;> rw [h1, h2, h3] at h <;> simp at h <;> rw [h1, h2, h3]
set_option maxRecDepth 10000 in
set_option maxHeartbeats 1600000 in
theorem unlike01 (w : World) (a b : Nat) (ha : a < 256) (hb : b < 256) :
    Calls Try.prog 162 #[.int .u8 (a : Int), .int .u8 (b : Int)] w fun e w' => e = .returned (.int .u8 ((a ^^^ b : Nat) : Int)) ∧ Drawn w w' := by
  have HB := Lib.hid (bit_xor_eq a b)
  have hz : a ^^^ b < 256 := Nat.xor_lt_two_pow (n := 8) ha hb
  obtain ⟨z, hze⟩ : ∃ z, z = a ^^^ b := ⟨_, rfl⟩
  rw [← hze] at hz HB ⊢
  clear hze
  go_enter Try.func162, Try.ntmps162
  go_wp2
  go_loopw [5, 6] (fun o k wr => ∃ j : Nat, j ≤ 8 ∧ k = .int .u8 ((128 / 2 ^ j : Nat) : Int) ∧ o = .int .u8 ((z / 2 ^ (8 - j) * 2 ^ (8 - j) : Nat) : Int) ∧ Drawn w wr) (fun _ k _ => (intOf k).toNat)
  case atStart => exact ⟨0, by omega, rfl, by simp; omega, Drawn.refl _⟩
  case round =>
    obtain ⟨j, hj, rfl, rfl, hd⟩ := hrel
    rcases (show j = 0 ∨ j = 1 ∨ j = 2 ∨ j = 3 ∨ j = 4 ∨ j = 5 ∨ j = 6 ∨ j = 7 ∨ j = 8 by omega) with rfl | rfl | rfl | rfl | rfl | rfl | rfl | rfl | rfl
    · have hx := HB.out 7
      rw [show (2 : Nat) ^ 7 = 128 from rfl] at hx
      rw [show ((128 / 2 ^ 0 : Nat) : Int) = 128 from rfl, show z / 2 ^ (8 - 0) * 2 ^ (8 - 0) = z / 256 * 256 from rfl]
      obtain ⟨oo, ho⟩ : ∃ oo, oo = z / 256 * 256 := ⟨_, rfl⟩
      rw [← ho]
      have hol : oo + 128 ≤ 256 := by omega
      have HD := Lib.hid hd
      clear hd
      by_cases hab : a / 128 % 2 = b / 128 % 2
      · have hq : ((a : Int) / 128 % 2 != (b : Int) / 128 % 2) = false := by simp; omega
        have HO := Lib.hid (show z / 128 * 128 = oo by omega)
        clear hab hx ho
        go_wp2
        go_quiet (fail)
        go_wp2
        first | go_roundw | refine ⟨?rel, ?measure⟩
        case rel => exact ⟨1, by omega, rfl, by rw [← HO.out], HD.out.step _⟩
        case measure => simp [intOf]
      · have hq : ((a : Int) / 128 % 2 != (b : Int) / 128 % 2) = true := by simp; omega
        have HO := Lib.hid (show z / 128 * 128 = oo + 128 by omega)
        have hol2 : oo + 128 < 256 := by omega
        clear hab hx ho
        go_wp2
        go_quiet (fail)
        go_wp2
        first | go_roundw | refine ⟨?rel, ?measure⟩
        case rel => exact ⟨1, by omega, rfl, by show _ = Value.int .u8 ((z / 128 * 128 : Nat) : Int); rw [HO.out]; rfl, HD.out.step _⟩
        case measure => simp [intOf]
    · have hx := HB.out 6
      rw [show (2 : Nat) ^ 6 = 64 from rfl] at hx
      rw [show ((128 / 2 ^ 1 : Nat) : Int) = 64 from rfl, show z / 2 ^ (8 - 1) * 2 ^ (8 - 1) = z / 128 * 128 from rfl]
      obtain ⟨oo, ho⟩ : ∃ oo, oo = z / 128 * 128 := ⟨_, rfl⟩
      rw [← ho]
      have hol : oo + 64 ≤ 256 := by omega
      have HD := Lib.hid hd
      clear hd
      by_cases hab : a / 64 % 2 = b / 64 % 2
      · have hq : ((a : Int) / 64 % 2 != (b : Int) / 64 % 2) = false := by simp; omega
        have HO := Lib.hid (show z / 64 * 64 = oo by omega)
        clear hab hx ho
        go_wp2
        go_quiet (fail)
        go_wp2
        first | go_roundw | refine ⟨?rel, ?measure⟩
        case rel => exact ⟨2, by omega, rfl, by rw [← HO.out], HD.out.step _⟩
        case measure => simp [intOf]
      · have hq : ((a : Int) / 64 % 2 != (b : Int) / 64 % 2) = true := by simp; omega
        have HO := Lib.hid (show z / 64 * 64 = oo + 64 by omega)
        have hol2 : oo + 64 < 256 := by omega
        clear hab hx ho
        go_wp2
        go_quiet (fail)
        go_wp2
        first | go_roundw | refine ⟨?rel, ?measure⟩
        case rel => exact ⟨2, by omega, rfl, by show _ = Value.int .u8 ((z / 64 * 64 : Nat) : Int); rw [HO.out]; rfl, HD.out.step _⟩
        case measure => simp [intOf]
    · have hx := HB.out 5
      rw [show (2 : Nat) ^ 5 = 32 from rfl] at hx
      rw [show ((128 / 2 ^ 2 : Nat) : Int) = 32 from rfl, show z / 2 ^ (8 - 2) * 2 ^ (8 - 2) = z / 64 * 64 from rfl]
      obtain ⟨oo, ho⟩ : ∃ oo, oo = z / 64 * 64 := ⟨_, rfl⟩
      rw [← ho]
      have hol : oo + 32 ≤ 256 := by omega
      have HD := Lib.hid hd
      clear hd
      by_cases hab : a / 32 % 2 = b / 32 % 2
      · have hq : ((a : Int) / 32 % 2 != (b : Int) / 32 % 2) = false := by simp; omega
        have HO := Lib.hid (show z / 32 * 32 = oo by omega)
        clear hab hx ho
        go_wp2
        go_quiet (fail)
        go_wp2
        first | go_roundw | refine ⟨?rel, ?measure⟩
        case rel => exact ⟨3, by omega, rfl, by rw [← HO.out], HD.out.step _⟩
        case measure => simp [intOf]
      · have hq : ((a : Int) / 32 % 2 != (b : Int) / 32 % 2) = true := by simp; omega
        have HO := Lib.hid (show z / 32 * 32 = oo + 32 by omega)
        have hol2 : oo + 32 < 256 := by omega
        clear hab hx ho
        go_wp2
        go_quiet (fail)
        go_wp2
        first | go_roundw | refine ⟨?rel, ?measure⟩
        case rel => exact ⟨3, by omega, rfl, by show _ = Value.int .u8 ((z / 32 * 32 : Nat) : Int); rw [HO.out]; rfl, HD.out.step _⟩
        case measure => simp [intOf]
    · have hx := HB.out 4
      rw [show (2 : Nat) ^ 4 = 16 from rfl] at hx
      rw [show ((128 / 2 ^ 3 : Nat) : Int) = 16 from rfl, show z / 2 ^ (8 - 3) * 2 ^ (8 - 3) = z / 32 * 32 from rfl]
      obtain ⟨oo, ho⟩ : ∃ oo, oo = z / 32 * 32 := ⟨_, rfl⟩
      rw [← ho]
      have hol : oo + 16 ≤ 256 := by omega
      have HD := Lib.hid hd
      clear hd
      by_cases hab : a / 16 % 2 = b / 16 % 2
      · have hq : ((a : Int) / 16 % 2 != (b : Int) / 16 % 2) = false := by simp; omega
        have HO := Lib.hid (show z / 16 * 16 = oo by omega)
        clear hab hx ho
        go_wp2
        go_quiet (fail)
        go_wp2
        first | go_roundw | refine ⟨?rel, ?measure⟩
        case rel => exact ⟨4, by omega, rfl, by rw [← HO.out], HD.out.step _⟩
        case measure => simp [intOf]
      · have hq : ((a : Int) / 16 % 2 != (b : Int) / 16 % 2) = true := by simp; omega
        have HO := Lib.hid (show z / 16 * 16 = oo + 16 by omega)
        have hol2 : oo + 16 < 256 := by omega
        clear hab hx ho
        go_wp2
        go_quiet (fail)
        go_wp2
        first | go_roundw | refine ⟨?rel, ?measure⟩
        case rel => exact ⟨4, by omega, rfl, by show _ = Value.int .u8 ((z / 16 * 16 : Nat) : Int); rw [HO.out]; rfl, HD.out.step _⟩
        case measure => simp [intOf]
    · have hx := HB.out 3
      rw [show (2 : Nat) ^ 3 = 8 from rfl] at hx
      rw [show ((128 / 2 ^ 4 : Nat) : Int) = 8 from rfl, show z / 2 ^ (8 - 4) * 2 ^ (8 - 4) = z / 16 * 16 from rfl]
      obtain ⟨oo, ho⟩ : ∃ oo, oo = z / 16 * 16 := ⟨_, rfl⟩
      rw [← ho]
      have hol : oo + 8 ≤ 256 := by omega
      have HD := Lib.hid hd
      clear hd
      by_cases hab : a / 8 % 2 = b / 8 % 2
      · have hq : ((a : Int) / 8 % 2 != (b : Int) / 8 % 2) = false := by simp; omega
        have HO := Lib.hid (show z / 8 * 8 = oo by omega)
        clear hab hx ho
        go_wp2
        go_quiet (fail)
        go_wp2
        first | go_roundw | refine ⟨?rel, ?measure⟩
        case rel => exact ⟨5, by omega, rfl, by rw [← HO.out], HD.out.step _⟩
        case measure => simp [intOf]
      · have hq : ((a : Int) / 8 % 2 != (b : Int) / 8 % 2) = true := by simp; omega
        have HO := Lib.hid (show z / 8 * 8 = oo + 8 by omega)
        have hol2 : oo + 8 < 256 := by omega
        clear hab hx ho
        go_wp2
        go_quiet (fail)
        go_wp2
        first | go_roundw | refine ⟨?rel, ?measure⟩
        case rel => exact ⟨5, by omega, rfl, by show _ = Value.int .u8 ((z / 8 * 8 : Nat) : Int); rw [HO.out]; rfl, HD.out.step _⟩
        case measure => simp [intOf]
    · have hx := HB.out 2
      rw [show (2 : Nat) ^ 2 = 4 from rfl] at hx
      rw [show ((128 / 2 ^ 5 : Nat) : Int) = 4 from rfl, show z / 2 ^ (8 - 5) * 2 ^ (8 - 5) = z / 8 * 8 from rfl]
      obtain ⟨oo, ho⟩ : ∃ oo, oo = z / 8 * 8 := ⟨_, rfl⟩
      rw [← ho]
      have hol : oo + 4 ≤ 256 := by omega
      have HD := Lib.hid hd
      clear hd
      by_cases hab : a / 4 % 2 = b / 4 % 2
      · have hq : ((a : Int) / 4 % 2 != (b : Int) / 4 % 2) = false := by simp; omega
        have HO := Lib.hid (show z / 4 * 4 = oo by omega)
        clear hab hx ho
        go_wp2
        go_quiet (fail)
        go_wp2
        first | go_roundw | refine ⟨?rel, ?measure⟩
        case rel => exact ⟨6, by omega, rfl, by rw [← HO.out], HD.out.step _⟩
        case measure => simp [intOf]
      · have hq : ((a : Int) / 4 % 2 != (b : Int) / 4 % 2) = true := by simp; omega
        have HO := Lib.hid (show z / 4 * 4 = oo + 4 by omega)
        have hol2 : oo + 4 < 256 := by omega
        clear hab hx ho
        go_wp2
        go_quiet (fail)
        go_wp2
        first | go_roundw | refine ⟨?rel, ?measure⟩
        case rel => exact ⟨6, by omega, rfl, by show _ = Value.int .u8 ((z / 4 * 4 : Nat) : Int); rw [HO.out]; rfl, HD.out.step _⟩
        case measure => simp [intOf]
    · have hx := HB.out 1
      rw [show (2 : Nat) ^ 1 = 2 from rfl] at hx
      rw [show ((128 / 2 ^ 6 : Nat) : Int) = 2 from rfl, show z / 2 ^ (8 - 6) * 2 ^ (8 - 6) = z / 4 * 4 from rfl]
      obtain ⟨oo, ho⟩ : ∃ oo, oo = z / 4 * 4 := ⟨_, rfl⟩
      rw [← ho]
      have hol : oo + 2 ≤ 256 := by omega
      have HD := Lib.hid hd
      clear hd
      by_cases hab : a / 2 % 2 = b / 2 % 2
      · have hq : ((a : Int) / 2 % 2 != (b : Int) / 2 % 2) = false := by simp; omega
        have HO := Lib.hid (show z / 2 * 2 = oo by omega)
        clear hab hx ho
        go_wp2
        go_quiet (fail)
        go_wp2
        first | go_roundw | refine ⟨?rel, ?measure⟩
        case rel => exact ⟨7, by omega, rfl, by rw [← HO.out], HD.out.step _⟩
        case measure => simp [intOf]
      · have hq : ((a : Int) / 2 % 2 != (b : Int) / 2 % 2) = true := by simp; omega
        have HO := Lib.hid (show z / 2 * 2 = oo + 2 by omega)
        have hol2 : oo + 2 < 256 := by omega
        clear hab hx ho
        go_wp2
        go_quiet (fail)
        go_wp2
        first | go_roundw | refine ⟨?rel, ?measure⟩
        case rel => exact ⟨7, by omega, rfl, by show _ = Value.int .u8 ((z / 2 * 2 : Nat) : Int); rw [HO.out]; rfl, HD.out.step _⟩
        case measure => simp [intOf]
    · have hx := HB.out 0
      rw [show (2 : Nat) ^ 0 = 1 from rfl] at hx
      rw [show ((128 / 2 ^ 7 : Nat) : Int) = 1 from rfl, show z / 2 ^ (8 - 7) * 2 ^ (8 - 7) = z / 2 * 2 from rfl]
      obtain ⟨oo, ho⟩ : ∃ oo, oo = z / 2 * 2 := ⟨_, rfl⟩
      rw [← ho]
      have hol : oo + 1 ≤ 256 := by omega
      have HD := Lib.hid hd
      clear hd
      by_cases hab : a / 1 % 2 = b / 1 % 2
      · have hq : ((a : Int) / 1 % 2 != (b : Int) / 1 % 2) = false := by simp; omega
        have HO := Lib.hid (show z / 1 * 1 = oo by omega)
        clear hab hx ho
        go_wp2
        go_quiet (fail)
        go_wp2
        first | go_roundw | refine ⟨?rel, ?measure⟩
        case rel => exact ⟨8, by omega, rfl, by rw [← HO.out], HD.out.step _⟩
        case measure => simp [intOf]
      · have hq : ((a : Int) / 1 % 2 != (b : Int) / 1 % 2) = true := by simp; omega
        have HO := Lib.hid (show z / 1 * 1 = oo + 1 by omega)
        have hol2 : oo + 1 < 256 := by omega
        clear hab hx ho
        go_wp2
        go_quiet (fail)
        go_wp2
        first | go_roundw | refine ⟨?rel, ?measure⟩
        case rel => exact ⟨8, by omega, rfl, by show _ = Value.int .u8 ((z / 1 * 1 : Nat) : Int); rw [HO.out]; rfl, HD.out.step _⟩
        case measure => simp [intOf]
    · have HD := Lib.hid hd
      have HZ := Lib.hid (show z / 2 ^ (8 - 8) * 2 ^ (8 - 8) = z by simp)
      rw [HZ.out, show ((128 / 2 ^ 8 : Nat) : Int) = 0 from rfl]
      clear hd
      go_wp2
      go_ret
      exact ⟨rfl, HD.out⟩
end Go.Proofs.Ytdooabbeolfgfaa
