import Derived.Test.YtpjmbhhfpoamnaaChecked
import Derived.Test.YtpjmbhhfpoamnaaPre
import Derived.Test.YtpjmbhhfpoamnaaBits1
import Derived.Test.YtpjmbhhfpoamnaaCrc
set_option linter.unusedVariables false
set_option linter.unusedSimpArgs false
namespace Go.Proofs.Ytpjmbhhfpoamnaa
open Go.RowKit

theorem crc_and1 (a : Nat) (ha : a < 4294967296) : bits .and .u32 (a : Int) 1 = ((a % 2 : Nat) : Int) := by
  rw [show (1 : Int) = ((1 : Nat) : Int) from rfl, bits_and32 a 1 (by omega) (by decide), Nat.and_one_is_mod]
/-- a turn of the register, as the code does it -/
theorem crc_turn (r : BitVec 32) :
    bits .xor .u32 ((r.toNat : Int) / 2) (bits .and .u32 3988292384 (-((r.toNat : Int) % 2) % 4294967296)) = ((crcBit r).toNat : Int) := by
  obtain ⟨odd, ho⟩ : ∃ odd, odd = r.toNat % 2 := ⟨_, rfl⟩
  rw [show -((r.toNat : Int) % 2) = 0 - (odd : Int) by omega]
  have hr := r.isLt
  have h0 : r.getLsbD 0 = decide (odd = 1) := by
    rw [BitVec.getLsbD, Nat.testBit_zero, ho]
  have e1 : ((r.toNat : Int) / 2) = ((r.toNat / 2 : Nat) : Int) := by omega
  have e3 : (3988292384 : Int) = ((3988292384 : Nat) : Int) := rfl
  rcases (show odd = 0 ∨ odd = 1 by omega) with h | h
  · subst h
    rw [e1, show ((0 - ((0 : Nat) : Int)) % 4294967296) = ((0 : Nat) : Int) by simp, e3, bits_and32 _ _ (by decide) (by decide), Nat.and_zero, bits_xor32 _ _ (by omega) (by decide), Nat.xor_zero]
    unfold crcBit
    rw [h0]
    simp [BitVec.toNat_ushiftRight, Nat.shiftRight_eq_div_pow]
  · subst h
    rw [e1, show ((0 - ((1 : Nat) : Int)) % 4294967296) = ((4294967295 : Nat) : Int) by decide, e3, bits_and32 _ _ (by decide) (by decide), show 3988292384 &&& 4294967295 = 3988292384 by decide, bits_xor32 _ _ (by omega) (by decide)]
    unfold crcBit
    rw [h0]
    simp [BitVec.toNat_ushiftRight, Nat.shiftRight_eq_div_pow]
set_option maxHeartbeats 400000 in
theorem step_any (w : World) (r : BitVec 32) (c : UInt8) :
    Calls Try.prog 88 #[.int .u32 (r.toNat : Int), .int .u8 (c.toNat : Int)] w fun e w' => e = .returned (.int .u32 ((crcStep r c).toNat : Int)) ∧ w = w' := by
  have hc := u8_lt c
  have hr := r.isLt
  have HX : Hid (bits .xor .u32 (r.toNat : Int) (c.toNat : Int) = ((r ^^^ crcByte c).toNat : Int)) := Lib.hid (by
    rw [bits_xor32 _ _ (by omega) (by omega), BitVec.toNat_xor]
    unfold crcByte
    rw [BitVec.toNat_ofNat, Nat.mod_eq_of_lt (show c.toNat < 2 ^ 32 by omega)])
  obtain ⟨r0, hr0⟩ : ∃ r0 : BitVec 32, r0 = r ^^^ crcByte c := ⟨_, rfl⟩
  rw [← hr0] at HX
  have HF : Hid (crcStep r c = crcBits 8 r0) := Lib.hid (by rw [hr0]; rfl)
  clear hr0
  have hx := HX.out
  go_enter Try.func88, Try.ntmps88
  go_wp2
  clear hx
  go_loop [0, 10] (fun x i => ∃ k : Nat, k ≤ 8 ∧ i = .int .i64 k ∧ x = .int .u32 ((crcBits k r0).toNat : Int)) (fun _ i => 8 - (intOf i).toNat)
  case atStart => exact ⟨0, by omega, rfl, rfl⟩
  case round =>
    obtain ⟨k, hk, rfl, rfl⟩ := hrel
    by_cases hlt : k < 8
    · obtain ⟨s, hs⟩ : ∃ s : BitVec 32, s = crcBits k r0 := ⟨_, rfl⟩
      have HS : Hid (crcBits (k + 1) r0 = crcBit s) := Lib.hid (by rw [hs]; rfl)
      rw [← hs]
      clear hs
      have hsl := s.isLt
      have h1 := crc_and1 s.toNat (by omega)
      have HT := Lib.hid (crc_turn s)
      go_wp2
      go_round
      case rel => exact ⟨k + 1, by omega, by go_num, by rw [HT.out, HS.out]⟩
      case measure => simp [intOf]; omega
    · obtain rfl : k = 8 := by omega
      go_wp2
      go_ret
      exact ⟨by (rw [HF.out]) <;> rfl, rfl⟩
theorem crcRun_take (r : BitVec 32) (l : List UInt8) (k : Nat) (h : k < l.length) : crcRun r (l.take (k + 1)) = crcStep (crcRun r (l.take k)) (UInt8.ofNat (bt l k)) := by
  rw [take_bt l k h, crcRun_append]; rfl
set_option maxHeartbeats 400000 in
theorem Sum_any (w : World) {A : Option Addr} {n c : Nat} {l : List UInt8} (h : Sl w 1 A n c (l.map by8)) :
    Calls Try.prog 44 #[.slice A n c] w fun e w' => e = .returned (.int .u32 ((crcSum l).toNat : Int)) ∧ w = w' := by
  have hl : l.length = n := by simpa using h.len
  have h1 := h.le; have h2 := h.max
  have HL := Lib.hid hl
  clear hl
  go_enter Try.func44, Try.ntmps44
  go_wp2
  go_loop [3, 8] (fun x i => ∃ k : Nat, k ≤ n ∧ i = .int .i64 k ∧ x = .int .u32 ((crcRun (BitVec.allOnes 32) (l.take k)).toNat : Int)) (fun _ i => n - (intOf i).toNat)
  case atStart => exact ⟨0, by omega, rfl, by simp [crcRun]⟩
  case round =>
    obtain ⟨k, hk, rfl, rfl⟩ := hrel
    obtain ⟨s, hs⟩ : ∃ s : BitVec 32, s = crcRun (BitVec.allOnes 32) (l.take k) := ⟨_, rfl⟩
    rw [← hs]
    have hsl := s.isLt
    by_cases hlt : k < n
    · obtain ⟨b, off, rfl⟩ := h.form (by omega)
      have g := h.byte k hlt
      have HT := Lib.hid (crcRun_take (BitVec.allOnes 32) l k (by rw [HL.out]; exact hlt))
      rw [← hs] at HT
      clear hs
      obtain ⟨y, hy⟩ : ∃ y : UInt8, y = UInt8.ofNat (bt l k) := ⟨_, rfl⟩
      have hy2 : bt l k = y.toNat := by rw [hy, UInt8.toNat_ofNat', Nat.mod_eq_of_lt (bt_lt l k)]
      rw [hy2] at g
      rw [← hy] at HT
      clear hy hy2
      go_wp2_with (go_at_call 88; refine (step_any _ _ _).mono ?_; rintro e w' ⟨rfl, rfl⟩)
      go_round
      case rel => exact ⟨k + 1, by omega, by go_num, by rw [HT.out]⟩
      case measure => simp [intOf]; omega
    · obtain rfl : k = n := by omega
      have HF : Hid (crcSum l = ~~~ s) := Lib.hid (by rw [hs, List.take_of_length_le (Nat.le_of_eq HL.out)]; rfl)
      clear hs
      have HN : Hid (bits BinOp.xor IntKind.u32 IntKind.u32.max (s.toNat : Int) = ((~~~ s).toNat : Int)) := Lib.hid (by
        rw [show IntKind.u32.max = ((4294967295 : Nat) : Int) from rfl, bits_xor32 _ _ (by decide) (by omega), BitVec.toNat_not]
        congr 1
        have h3 := Nat.xor_comm 4294967295 s.toNat
        have h4 : (~~~ s).toNat = (BitVec.allOnes 32 ^^^ s).toNat := by rw [BitVec.allOnes_xor]
        rw [BitVec.toNat_not, BitVec.toNat_xor] at h4
        exact h4.symm)
      go_wp2
      go_ret
      exact ⟨by (rw [HF.out, ← HN.out]) <;> rfl, rfl⟩
end Go.Proofs.Ytpjmbhhfpoamnaa
