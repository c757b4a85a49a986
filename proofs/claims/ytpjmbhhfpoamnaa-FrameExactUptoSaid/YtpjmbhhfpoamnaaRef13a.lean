import Derived.Test.YtpjmbhhfpoamnaaFrSum
import Derived.Test.YtpjmbhhfpoamnaaFrDec
set_option linter.unusedVariables false
set_option linter.unusedSimpArgs false
namespace Go.Proofs.Ytpjmbhhfpoamnaa
open Go.RowKit
theorem crcBit_one (r : BitVec 32) (one : Bool) : (crcBit (r ^^^ (if one then 1#32 else 0#32))).toNat = if (decide (r.toNat % 2 = 1) != one) = true then (r.toNat / 2) ^^^ 3988292384 else r.toNat / 2 := by
  have h0 : r.getLsbD 0 = decide (r.toNat % 2 = 1) := by rw [BitVec.getLsbD, Nat.testBit_zero]
  have h1 : (r ^^^ (if one then 1#32 else 0#32)) >>> 1 = r >>> 1 := by
    rw [BitVec.ushiftRight_xor_distrib]
    cases one
    · simp
    · rw [show (if true = true then 1#32 else 0#32) >>> 1 = 0#32 by decide, BitVec.xor_zero]
  have h2 : (r ^^^ (if one then 1#32 else 0#32)).getLsbD 0 = (decide (r.toNat % 2 = 1) != one) := by
    rw [BitVec.getLsbD_xor, h0]
    cases one <;> simp
  unfold crcBit
  rw [h1, h2]
  split
  · simp [BitVec.toNat_ushiftRight, Nat.shiftRight_eq_div_pow]
  · simp [BitVec.toNat_ushiftRight, Nat.shiftRight_eq_div_pow]
theorem bit13 (w : World) (r : BitVec 32) (one : Bool) :
    Calls Try.prog 127 #[.int .u32 (r.toNat : Int), .bool one] w fun e w' => e = .returned (.int .u32 ((crcBit (r ^^^ (if one then 1#32 else 0#32))).toNat : Int)) ∧ w = w' := by
  have hr := r.isLt
  rw [crcBit_one]
  obtain ⟨a, ha⟩ : ∃ a, a = r.toNat := ⟨_, rfl⟩
  rw [← ha] at hr ⊢
  clear ha
  have e1 : ((a : Int) % 2) = ((a % 2 : Nat) : Int) := by omega
  have e2 : ((a : Int) / 2) = ((a / 2 : Nat) : Int) := by omega
  have ex : bits .xor .u32 ((a : Int) / 2) 3988292384 = ((a / 2 ^^^ 3988292384 : Nat) : Int) := by
    rw [e2, show (3988292384 : Int) = ((3988292384 : Nat) : Int) from rfl, bits_xor32 _ _ (by omega) (by decide)]
  have HX := Lib.hid (And.intro ex e2)
  clear ex e2
  rcases (show a % 2 = 0 ∨ a % 2 = 1 by omega) with h | h
  · have hb : ((a : Int) % 2 == 1) = false := by rw [e1, h]; rfl
    rw [h]
    clear e1 h
    cases one
    · go_enter Try.func127, Try.ntmps127
      go_wp2
      go_ret
      exact ⟨rfl, rfl⟩
    · have hx := HX.out.1
      go_enter Try.func127, Try.ntmps127
      go_wp2
      go_ret
      exact ⟨rfl, rfl⟩
  · have hb : ((a : Int) % 2 == 1) = true := by rw [e1, h]; rfl
    rw [h]
    clear e1 h
    cases one
    · have hx := HX.out.1
      go_enter Try.func127, Try.ntmps127
      go_wp2
      go_ret
      exact ⟨rfl, rfl⟩
    · go_enter Try.func127, Try.ntmps127
      go_wp2
      go_ret
      exact ⟨rfl, rfl⟩
theorem bits8_get (c : UInt8) (k : Nat) (h : k < 8) : (bits8 c)[k]? = some (c.toNat.testBit k) := by
  unfold bits8
  rw [List.getElem?_map, List.getElem?_range h]
  rfl
theorem crcB_take (r : BitVec 32) (c : UInt8) (k : Nat) (h : k < 8) : crcB r ((bits8 c).take (k + 1)) = crcBit (crcB r ((bits8 c).take k) ^^^ (if decide (c.toNat / 2 ^ k % 2 = 1) then 1#32 else 0#32)) := by
  rw [List.take_add_one, bits8_get c k h, crcB_append, Nat.testBit_eq_decide_div_mod_eq]
  rfl
set_option maxHeartbeats 400000 in
theorem RefSum (w : World) {A : Option Addr} {n c : Nat} {l : List UInt8} (h : Sl w 1 A n c (l.map by8)) :
    Calls Try.prog 96 #[.slice A n c] w fun e w' => e = .returned (.int .u32 ((crcSum l).toNat : Int)) ∧ w = w' := by
  have hl : l.length = n := by simpa using h.len
  have h1 := h.le; have h2 := h.max
  have HL := Lib.hid hl
  clear hl
  go_enter Try.func96, Try.ntmps96
  go_wp2
  go_loop [3, 4] (fun x i => ∃ k : Nat, k ≤ n ∧ i = .int .i64 k ∧ x = .int .u32 ((crcRun (BitVec.allOnes 32) (l.take k)).toNat : Int)) (fun _ i => n - (intOf i).toNat)
  case atStart => exact ⟨0, by omega, rfl, by simp [crcRun]⟩
  case round =>
    obtain ⟨k, hk, rfl, rfl⟩ := hrel
    obtain ⟨s, hs⟩ : ∃ s : BitVec 32, s = crcRun (BitVec.allOnes 32) (l.take k) := ⟨_, rfl⟩
    rw [← hs]
    have hsl := s.isLt
    by_cases hlt : k < n
    · obtain ⟨b, off, rfl⟩ := h.form (by omega)
      have g := h.byte k hlt
      have HT := Lib.hid (crcRun_take (BitVec.allOnes 32) l k (by rw [HL.out]; exact hlt))
      rw [← hs] at HT
      clear hs
      obtain ⟨y, hy⟩ : ∃ y : UInt8, y = UInt8.ofNat (bt l k) := ⟨_, rfl⟩
      have hy2 : bt l k = y.toNat := by rw [hy, UInt8.toNat_ofNat', Nat.mod_eq_of_lt (bt_lt l k)]
      rw [hy2] at g
      rw [← hy] at HT
      have hyl := u8_lt y
      have hk1 : (k : Int) < (n : Int) := by omega
      clear hy hy2
      go_wp2
      go_loop [3, 5, 6] (fun x cc i => ∃ q : Nat, q ≤ 8 ∧ i = .int .i64 q ∧ cc = .int .u8 ((y.toNat / 2 ^ q : Nat) : Int) ∧ x = .int .u32 ((crcB s ((bits8 y).take q)).toNat : Int)) (fun _ _ i => 8 - (intOf i).toNat)
      case atStart => exact ⟨0, by omega, rfl, by simp, by simp [crcB]⟩
      case round =>
        obtain ⟨q, hq, rfl, rfl, rfl⟩ := hrel
        by_cases hql : q < 8
        · have HQ := Lib.hid (crcB_take s y q hql)
          have HD : Hid (y.toNat / 2 ^ (q + 1) = y.toNat / 2 ^ q / 2) := Lib.hid (by rw [Nat.pow_succ, Nat.div_div_eq_div_mul])
          obtain ⟨t, ht⟩ : ∃ t : BitVec 32, t = crcB s ((bits8 y).take q) := ⟨_, rfl⟩
          have hdl : y.toNat / 2 ^ q < 256 := Nat.lt_of_le_of_lt (Nat.div_le_self _ _) hyl
          obtain ⟨d, hd⟩ : ∃ d, d = y.toNat / 2 ^ q := ⟨_, rfl⟩
          rw [← ht] at HQ ⊢
          rw [← hd] at HQ HD hdl ⊢
          clear ht hd g
          have eb : ((d : Int) % 2 == 1) = decide (d % 2 = 1) := by
            by_cases hd2 : d % 2 = 1
            · rw [decide_eq_true hd2, show (d : Int) % 2 = 1 by omega]; rfl
            · rw [decide_eq_false hd2, show (d : Int) % 2 = 0 by omega]; rfl
          obtain ⟨o, ho⟩ : ∃ o, o = decide (d % 2 = 1) := ⟨_, rfl⟩
          rw [← ho] at HQ eb
          clear ho
          go_wp2_with (go_at_call 127; refine (bit13 _ t o).mono ?_; rintro e w' ⟨rfl, rfl⟩)
          go_round
          case rel => exact ⟨q + 1, by omega, by go_num, by rw [HD.out]; simp, by rw [HQ.out]⟩
          case measure => simp [intOf]; omega
        · obtain rfl : q = 8 := by omega
          have HE : Hid (crcB s ((bits8 y).take 8) = crcStep s y) := Lib.hid (by rw [crcStep_bits, List.take_of_length_le (by simp [bits8])])
          clear g
          rw [HE.out]
          go_wp2
          go_round
          case rel => exact ⟨k + 1, by omega, by go_num, by rw [HT.out]⟩
          case measure => simp [intOf]; omega
    · obtain rfl : k = n := by omega
      have HF : Hid ((crcSum l).toNat = 4294967295 - s.toNat) := Lib.hid (by
        rw [hs, List.take_of_length_le (Nat.le_of_eq HL.out)]
        unfold crcSum
        rw [BitVec.toNat_not])
      clear hs
      go_wp2
      go_ret
      exact ⟨by rw [HF.out, show (((4294967295 - s.toNat : Nat)) : Int) = 4294967295 - (s.toNat : Int) by omega]; rfl, rfl⟩
end Go.Proofs.Ytpjmbhhfpoamnaa
