import Derived.Test.YtdooabbeolfgfaaBits2
set_option linter.unusedVariables false
set_option linter.unusedSimpArgs false
namespace Go.Proofs.Ytdooabbeolfgfaa
open Go.RowKit
theorem le_drop (l : List UInt8) (i : Nat) (h : i < l.length) : le (l.drop i) = bt l i + 256 * le (l.drop (i + 1)) := by
  rw [List.drop_eq_getElem_cons h]
  have e : le (l[i] :: l.drop (i + 1)) = (l[i]).toNat + 256 * le (l.drop (i + 1)) := rfl
  rw [e]
  unfold bt
  rw [List.getElem?_eq_getElem h]
  rfl
theorem bt_part (l : List UInt8) (a W i : Nat) (h : i < W) : bt ((l.drop a).take W) i = bt l (a + i) := by
  unfold bt
  rw [List.getElem?_take_of_lt h, List.getElem?_drop]
theorem load01_no (w : World) {A : Option Addr} {n c : Nat} (hn : n ≤ c) (hc : c ≤ 9223372036854775807) (at_ : Int) (W : Nat) (hW : W ≤ 8) (big : Bool) (h : ¬ (0 ≤ at_ ∧ at_ + W ≤ n)) (h2 : at_ ≤ 9223372036854775807) :
    Calls Try.prog 161 #[.slice A n c, .int .i64 at_, .int .i64 (W : Int), .bool big] w fun e w' => e = .returned (.tuple #[.int .u64 0, .bool false]) ∧ w = w' := by
  by_cases h0 : at_ < 0
  · clear h
    go_enter Try.func161, Try.ntmps161
    go_wp2
    go_ret2
    exact ⟨rfl, rfl⟩
  · have d0 : decide (at_ < 0) = false := decide_eq_false h0
    obtain ⟨a, rfl⟩ : ∃ a : Nat, at_ = a := ⟨at_.toNat, by omega⟩
    by_cases h1 : n < a
    · have d1 : (n : Int) < (a : Int) := by omega
      clear h
      go_enter Try.func161, Try.ntmps161
      go_wp2
      go_ret2
      exact ⟨rfl, rfl⟩
    · have d1 : (a : Int) ≤ (n : Int) := by omega
      have d2 : (n : Int) - (a : Int) < (W : Int) := by omega
      clear h h0
      go_enter Try.func161, Try.ntmps161
      go_wp2
      go_ret2
      exact ⟨rfl, rfl⟩
set_option maxHeartbeats 800000 in
theorem load01_be (w : World) {A : Option Addr} {n c : Nat} {l : List UInt8} (h : Sl w 1 A n c (l.map by8)) (a W : Nat) (hW : W ≤ 8) (hW0 : 0 < W) (ha : a + W ≤ n) :
    Calls Try.prog 161 #[.slice A n c, .int .i64 (a : Int), .int .i64 (W : Int), .bool true] w fun e w' => e = .returned (.tuple #[.int .u64 (be ((l.drop a).take W) : Nat), .bool true]) ∧ w = w' := by
  have hl : l.length = n := by simpa using h.len
  have hc := h.le; have hcm := h.max
  obtain ⟨b, off, rfl⟩ := h.form (by omega)
  have d0 : (0 : Int) ≤ (a : Int) := Int.natCast_nonneg _
  have d1 : (a : Int) ≤ (n : Int) := by omega
  have d2 : (W : Int) ≤ (n : Int) - (a : Int) := by omega
  have HL := Lib.hid (show ((l.drop a).take W).length = W by rw [List.length_take, List.length_drop]; omega)
  have HB := Lib.hid h
  clear h hl
  go_enter Try.func161, Try.ntmps161
  go_wp2
  go_loop [10, 11] (fun x i => ∃ k : Nat, k ≤ W ∧ i = .int .i64 k ∧ x = .int .u64 (be (((l.drop a).take W).take k) : Nat)) (fun _ i => W - (intOf i).toNat)
  case atStart => exact ⟨0, by omega, rfl, by simp [be]⟩
  case round =>
    obtain ⟨k, hk, rfl, rfl⟩ := hrel
    by_cases hlt : k < W
    · have g := HB.out.byte (a + k) (by omega)
      have hb := be_take ((l.drop a).take W) k (by rw [HL.out]; exact hlt)
      rw [bt_part l a W k hlt] at hb
      have hb2 := be_lt (((l.drop a).take W).take (k + 1))
      have hb3 : 256 ^ (((l.drop a).take W).take (k + 1)).length ≤ 256 ^ 8 := Nat.pow_le_pow_right (by decide) (by rw [List.length_take, HL.out]; omega)
      rw [hb] at hb2
      have HX := Lib.hid hb
      have hq := bt_lt l (a + k)
      obtain ⟨q, hqe⟩ : ∃ q, q = bt l (a + k) := ⟨_, rfl⟩
      obtain ⟨x, hxe⟩ : ∃ x, x = be (((l.drop a).take W).take k) := ⟨_, rfl⟩
      rw [← hqe] at g hb2 HX hq; rw [← hxe] at hb2 HX ⊢
      have hx : x * 256 + q < 18446744073709551616 := Nat.lt_of_lt_of_le hb2 hb3
      have k0 : (0 : Int) ≤ (k : Int) := Int.natCast_nonneg _
      have k1 : (k : Int) < (W : Int) := by omega
      have k2 : (a : Int) + (k : Int) < (n : Int) := by omega
      have k3 : (0 : Int) ≤ (a : Int) + (k : Int) := by omega
      have k4 : ((a : Int) + (k : Int)).toNat = a + k := by omega
      have u1 : IntKind.u64.wrap (256 * (x : Int)) = 256 * (x : Int) := by rw [IntKind.wrap_u64]; omega
      have u2 : IntKind.u64.wrap (256 * (x : Int) + (q : Int)) = 256 * (x : Int) + (q : Int) := by rw [IntKind.wrap_u64]; omega
      have u3 : IntKind.u64.wrap (q : Int) = (q : Int) := by rw [IntKind.wrap_u64]; omega
      clear hb hb2 hb3 hqe hxe
      go_wp2
      go_round
      case rel => exact ⟨k + 1, by omega, by go_num, by rw [HX.out]; congr 1; omega⟩
      case measure => simp [intOf]; omega
    · have HK := Lib.hid (show k = W by omega)
      have HE := Lib.hid (show ((l.drop a).take W).take k = (l.drop a).take W by rw [List.take_of_length_le (by rw [HL.out]; omega)])
      rw [HE.out]
      have k1 : (W : Int) ≤ (k : Int) := by omega
      go_wp2
      go_ret2
      exact ⟨rfl, rfl⟩
set_option maxHeartbeats 800000 in
theorem load01_le (w : World) {A : Option Addr} {n c : Nat} {l : List UInt8} (h : Sl w 1 A n c (l.map by8)) (a W : Nat) (hW : W ≤ 8) (hW0 : 0 < W) (ha : a + W ≤ n) :
    Calls Try.prog 161 #[.slice A n c, .int .i64 (a : Int), .int .i64 (W : Int), .bool false] w fun e w' => e = .returned (.tuple #[.int .u64 (le ((l.drop a).take W) : Nat), .bool true]) ∧ w = w' := by
  have hl : l.length = n := by simpa using h.len
  have hc := h.le; have hcm := h.max
  obtain ⟨b, off, rfl⟩ := h.form (by omega)
  have d0 : (0 : Int) ≤ (a : Int) := Int.natCast_nonneg _
  have d1 : (a : Int) ≤ (n : Int) := by omega
  have d2 : (W : Int) ≤ (n : Int) - (a : Int) := by omega
  have HL := Lib.hid (show ((l.drop a).take W).length = W by rw [List.length_take, List.length_drop]; omega)
  have HB := Lib.hid h
  clear h hl
  go_enter Try.func161, Try.ntmps161
  go_wp2
  go_loop [10, 11] (fun x i => ∃ k : Nat, k ≤ W ∧ i = .int .i64 k ∧ x = .int .u64 (le (((l.drop a).take W).drop (W - k)) : Nat)) (fun _ i => W - (intOf i).toNat)
  case atStart => exact ⟨0, by omega, rfl, by rw [List.drop_of_length_le (by rw [HL.out]; omega)]; rfl⟩
  case round =>
    obtain ⟨k, hk, rfl, rfl⟩ := hrel
    by_cases hlt : k < W
    · have g := HB.out.byte (a + (W - 1 - k)) (by omega)
      have hb := le_drop ((l.drop a).take W) (W - 1 - k) (by rw [HL.out]; omega)
      rw [bt_part l a W (W - 1 - k) (by omega), show W - 1 - k + 1 = W - k by omega] at hb
      have hb2 := le_lt (((l.drop a).take W).drop (W - 1 - k))
      have hb3 : 256 ^ (((l.drop a).take W).drop (W - 1 - k)).length ≤ 256 ^ 8 := Nat.pow_le_pow_right (by decide) (by rw [List.length_drop, HL.out]; omega)
      rw [hb] at hb2
      have HX := Lib.hid (show le (((l.drop a).take W).drop (W - (k + 1))) = bt l (a + (W - 1 - k)) + 256 * le (((l.drop a).take W).drop (W - k)) by rw [show W - (k + 1) = W - 1 - k by omega]; exact hb)
      have hq := bt_lt l (a + (W - 1 - k))
      obtain ⟨q, hqe⟩ : ∃ q, q = bt l (a + (W - 1 - k)) := ⟨_, rfl⟩
      obtain ⟨x, hxe⟩ : ∃ x, x = le (((l.drop a).take W).drop (W - k)) := ⟨_, rfl⟩
      rw [← hqe] at g hb2 HX hq; rw [← hxe] at hb2 HX ⊢
      have hx : q + 256 * x < 18446744073709551616 := Nat.lt_of_lt_of_le hb2 hb3
      obtain ⟨p, hp⟩ : ∃ p, p = a + (W - 1 - k) := ⟨_, rfl⟩
      rw [← hp] at g
      have k0 : (0 : Int) ≤ (k : Int) := Int.natCast_nonneg _
      have k1 : (k : Int) < (W : Int) := by omega
      have ep : (a : Int) + (W : Int) - 1 - (k : Int) = (p : Int) := by omega
      have k2 : (p : Int) < (n : Int) := by omega
      have k3 : (0 : Int) ≤ (p : Int) := by omega
      have u1 : IntKind.u64.wrap (256 * (x : Int)) = 256 * (x : Int) := by rw [IntKind.wrap_u64]; omega
      have u2 : IntKind.u64.wrap (256 * (x : Int) + (q : Int)) = 256 * (x : Int) + (q : Int) := by rw [IntKind.wrap_u64]; omega
      have u3 : IntKind.u64.wrap (q : Int) = (q : Int) := by rw [IntKind.wrap_u64]; omega
      clear hb hb2 hb3 hqe hxe hp
      go_wp2
      go_round
      case rel => exact ⟨k + 1, by omega, by go_num, by rw [HX.out]; congr 1; omega⟩
      case measure => simp [intOf]; omega
    · have HK := Lib.hid (show k = W by omega)
      have HE := Lib.hid (show ((l.drop a).take W).drop (W - k) = (l.drop a).take W by rw [show W - k = 0 by omega]; rfl)
      rw [HE.out]
      have k1 : (W : Int) ≤ (k : Int) := by omega
      go_wp2
      go_ret2
      exact ⟨rfl, rfl⟩
theorem refLoadBE32_yes (w : World) {A : Option Addr} {n c : Nat} {l : List UInt8} (h : Sl w 1 A n c (l.map by8)) (a : Nat) (ha : a + 4 ≤ n) :
    Calls Try.prog 124 #[.slice A n c, .int .i64 (a : Int)] w fun e w' => e = .returned (.tuple #[.int .u32 (be ((l.drop a).take 4) : Nat), .bool true]) ∧ w = w' := by
  have HC := Lib.hid (load01_be w h a 4 (by omega) (by omega) ha)
  have hb := be_lt ((l.drop a).take 4)
  rw [show ((l.drop a).take 4).length = 4 by rw [List.length_take, List.length_drop]; have := h.len; simp at this; omega] at hb
  obtain ⟨x, hx⟩ : ∃ x, x = be ((l.drop a).take 4) := ⟨_, rfl⟩
  rw [← hx] at HC hb ⊢
  have hb2 : x < 4294967296 := hb
  clear hx hb h
  go_enter Try.func124, Try.ntmps124
  go_wp2_with (first | (at_builtin; refine Stopped.out ?_) | (at_make; refine Stopped.out ?_))
  refine HC.out.mono ?_
  rintro e w' ⟨rfl, rfl⟩
  go_wp2
  go_ret2
  exact ⟨rfl, rfl⟩
theorem refLoadBE32_no (w : World) {A : Option Addr} {n c : Nat} (hn : n ≤ c) (hc : c ≤ 9223372036854775807) (at_ : Int) (h : ¬ (0 ≤ at_ ∧ at_ + 4 ≤ n)) (h2 : at_ ≤ 9223372036854775807) :
    Calls Try.prog 124 #[.slice A n c, .int .i64 at_] w fun e w' => e = .returned (.tuple #[.int .u32 0, .bool false]) ∧ w = w' := by
  have HC := Lib.hid (load01_no w (A := A) hn hc at_ 4 (by omega) true h h2)
  clear h
  go_enter Try.func124, Try.ntmps124
  go_wp2_with (first | (at_builtin; refine Stopped.out ?_) | (at_make; refine Stopped.out ?_))
  refine HC.out.mono ?_
  rintro e w' ⟨rfl, rfl⟩
  go_wp2
  go_ret2
  exact ⟨rfl, rfl⟩
theorem refLoadLE32_yes (w : World) {A : Option Addr} {n c : Nat} {l : List UInt8} (h : Sl w 1 A n c (l.map by8)) (a : Nat) (ha : a + 4 ≤ n) :
    Calls Try.prog 125 #[.slice A n c, .int .i64 (a : Int)] w fun e w' => e = .returned (.tuple #[.int .u32 (le ((l.drop a).take 4) : Nat), .bool true]) ∧ w = w' := by
  have HC := Lib.hid (load01_le w h a 4 (by omega) (by omega) ha)
  have hb := le_lt ((l.drop a).take 4)
  rw [show ((l.drop a).take 4).length = 4 by rw [List.length_take, List.length_drop]; have := h.len; simp at this; omega] at hb
  obtain ⟨x, hx⟩ : ∃ x, x = le ((l.drop a).take 4) := ⟨_, rfl⟩
  rw [← hx] at HC hb ⊢
  have hb2 : x < 4294967296 := hb
  clear hx hb h
  go_enter Try.func125, Try.ntmps125
  go_wp2_with (first | (at_builtin; refine Stopped.out ?_) | (at_make; refine Stopped.out ?_))
  refine HC.out.mono ?_
  rintro e w' ⟨rfl, rfl⟩
  go_wp2
  go_ret2
  exact ⟨rfl, rfl⟩
theorem refLoadLE32_no (w : World) {A : Option Addr} {n c : Nat} (hn : n ≤ c) (hc : c ≤ 9223372036854775807) (at_ : Int) (h : ¬ (0 ≤ at_ ∧ at_ + 4 ≤ n)) (h2 : at_ ≤ 9223372036854775807) :
    Calls Try.prog 125 #[.slice A n c, .int .i64 at_] w fun e w' => e = .returned (.tuple #[.int .u32 0, .bool false]) ∧ w = w' := by
  have HC := Lib.hid (load01_no w (A := A) hn hc at_ 4 (by omega) false h h2)
  clear h
  go_enter Try.func125, Try.ntmps125
  go_wp2_with (first | (at_builtin; refine Stopped.out ?_) | (at_make; refine Stopped.out ?_))
  refine HC.out.mono ?_
  rintro e w' ⟨rfl, rfl⟩
  go_wp2
  go_ret2
  exact ⟨rfl, rfl⟩
theorem refLoadBE64_yes (w : World) {A : Option Addr} {n c : Nat} {l : List UInt8} (h : Sl w 1 A n c (l.map by8)) (a : Nat) (ha : a + 8 ≤ n) :
    Calls Try.prog 126 #[.slice A n c, .int .i64 (a : Int)] w fun e w' => e = .returned (.tuple #[.int .u64 (be ((l.drop a).take 8) : Nat), .bool true]) ∧ w = w' := by
  have HC := Lib.hid (load01_be w h a 8 (by omega) (by omega) ha)
  have hb := be_lt ((l.drop a).take 8)
  rw [show ((l.drop a).take 8).length = 8 by rw [List.length_take, List.length_drop]; have := h.len; simp at this; omega] at hb
  obtain ⟨x, hx⟩ : ∃ x, x = be ((l.drop a).take 8) := ⟨_, rfl⟩
  rw [← hx] at HC hb ⊢
  have hb2 : x < 18446744073709551616 := hb
  clear hx hb h
  go_enter Try.func126, Try.ntmps126
  go_wp2_with (first | (at_builtin; refine Stopped.out ?_) | (at_make; refine Stopped.out ?_))
  refine HC.out.mono ?_
  rintro e w' ⟨rfl, rfl⟩
  go_wp2
  go_ret2
  exact ⟨rfl, rfl⟩
theorem refLoadBE64_no (w : World) {A : Option Addr} {n c : Nat} (hn : n ≤ c) (hc : c ≤ 9223372036854775807) (at_ : Int) (h : ¬ (0 ≤ at_ ∧ at_ + 8 ≤ n)) (h2 : at_ ≤ 9223372036854775807) :
    Calls Try.prog 126 #[.slice A n c, .int .i64 at_] w fun e w' => e = .returned (.tuple #[.int .u64 0, .bool false]) ∧ w = w' := by
  have HC := Lib.hid (load01_no w (A := A) hn hc at_ 8 (by omega) true h h2)
  clear h
  go_enter Try.func126, Try.ntmps126
  go_wp2_with (first | (at_builtin; refine Stopped.out ?_) | (at_make; refine Stopped.out ?_))
  refine HC.out.mono ?_
  rintro e w' ⟨rfl, rfl⟩
  go_wp2
  go_ret2
  exact ⟨rfl, rfl⟩
theorem refLoadLE64_yes (w : World) {A : Option Addr} {n c : Nat} {l : List UInt8} (h : Sl w 1 A n c (l.map by8)) (a : Nat) (ha : a + 8 ≤ n) :
    Calls Try.prog 128 #[.slice A n c, .int .i64 (a : Int)] w fun e w' => e = .returned (.tuple #[.int .u64 (le ((l.drop a).take 8) : Nat), .bool true]) ∧ w = w' := by
  have HC := Lib.hid (load01_le w h a 8 (by omega) (by omega) ha)
  have hb := le_lt ((l.drop a).take 8)
  rw [show ((l.drop a).take 8).length = 8 by rw [List.length_take, List.length_drop]; have := h.len; simp at this; omega] at hb
  obtain ⟨x, hx⟩ : ∃ x, x = le ((l.drop a).take 8) := ⟨_, rfl⟩
  rw [← hx] at HC hb ⊢
  have hb2 : x < 18446744073709551616 := hb
  clear hx hb h
  go_enter Try.func128, Try.ntmps128
  go_wp2_with (first | (at_builtin; refine Stopped.out ?_) | (at_make; refine Stopped.out ?_))
  refine HC.out.mono ?_
  rintro e w' ⟨rfl, rfl⟩
  go_wp2
  go_ret2
  exact ⟨rfl, rfl⟩
theorem refLoadLE64_no (w : World) {A : Option Addr} {n c : Nat} (hn : n ≤ c) (hc : c ≤ 9223372036854775807) (at_ : Int) (h : ¬ (0 ≤ at_ ∧ at_ + 8 ≤ n)) (h2 : at_ ≤ 9223372036854775807) :
    Calls Try.prog 128 #[.slice A n c, .int .i64 at_] w fun e w' => e = .returned (.tuple #[.int .u64 0, .bool false]) ∧ w = w' := by
  have HC := Lib.hid (load01_no w (A := A) hn hc at_ 8 (by omega) false h h2)
  clear h
  go_enter Try.func128, Try.ntmps128
  go_wp2_with (first | (at_builtin; refine Stopped.out ?_) | (at_make; refine Stopped.out ?_))
  refine HC.out.mono ?_
  rintro e w' ⟨rfl, rfl⟩
  go_wp2
  go_ret2
  exact ⟨rfl, rfl⟩
end Go.Proofs.Ytdooabbeolfgfaa
