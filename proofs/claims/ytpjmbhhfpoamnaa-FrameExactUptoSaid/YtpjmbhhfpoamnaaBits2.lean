import Derived.Test.YtpjmbhhfpoamnaaChecked
import Derived.Test.YtpjmbhhfpoamnaaPre
import Derived.Test.YtpjmbhhfpoamnaaBits1
set_option linter.unusedVariables false
set_option linter.unusedSimpArgs false
namespace Go.Proofs.Ytpjmbhhfpoamnaa
open Go.RowKit

set_option maxHeartbeats 400000 in
theorem piece32_yes (w : World) (b off n c : Nat) (hn : n ≤ c) (hc : c ≤ 9223372036854775807) (k : Nat) (hk : k + 4 ≤ n) :
    Calls Try.prog 140 #[.slice (some ⟨b, off, none⟩) n c, .int .i64 k] w fun e w' => e = .returned (.slice (some ⟨b, off + k, none⟩) 4 (c - k)) ∧ w = w' := by
  have h0 : decide ((k:Int) < 0) = false := by simp
  have h3' : ¬ ((n:Int) - 4 < k) := by omega
  go_enter Try.func140, Try.ntmps140
  go_wp2_with (go_at_call 123; refine (width32 _).mono ?_; rintro e w' ⟨rfl, rfl⟩)
  go_ret
  exact ⟨by simp [Nat.add_sub_cancel_left], rfl⟩
set_option maxHeartbeats 400000 in
theorem piece32_no (w : World) (A : Option Addr) (n c : Nat) (hn : n ≤ c) (hc : c ≤ 9223372036854775807) (at_ : Int) (h : ¬ (0 ≤ at_ ∧ at_ + 4 ≤ n)) (h2 : at_ ≤ 9223372036854775807) :
    Calls Try.prog 140 #[.slice A n c, .int .i64 at_] w fun e w' => e = .returned (.slice none 0 0) ∧ w = w' := by
  by_cases h0 : at_ < 0
  · have h0' : decide (at_ < 0) = true := by simpa using h0
    clear h
    go_enter Try.func140, Try.ntmps140
    go_wp2_with (go_at_call 123; refine (width32 _).mono ?_; rintro e w' ⟨rfl, rfl⟩)
    go_ret
    exact ⟨rfl, rfl⟩
  · obtain ⟨k, rfl⟩ := Int.eq_ofNat_of_zero_le (show 0 ≤ at_ by omega)
    have h0' : decide ((k:Int) < 0) = false := by simp
    have h3 : (n:Int) - 4 < k := by omega
    clear h
    go_enter Try.func140, Try.ntmps140
    go_wp2_with (go_at_call 123; refine (width32 _).mono ?_; rintro e w' ⟨rfl, rfl⟩)
    go_ret
    exact ⟨rfl, rfl⟩
set_option maxHeartbeats 400000 in
theorem piece64_yes (w : World) (b off n c : Nat) (hn : n ≤ c) (hc : c ≤ 9223372036854775807) (k : Nat) (hk : k + 8 ≤ n) :
    Calls Try.prog 141 #[.slice (some ⟨b, off, none⟩) n c, .int .i64 k] w fun e w' => e = .returned (.slice (some ⟨b, off + k, none⟩) 8 (c - k)) ∧ w = w' := by
  have h0 : decide ((k:Int) < 0) = false := by simp
  have h3' : ¬ ((n:Int) - 8 < k) := by omega
  go_enter Try.func141, Try.ntmps141
  go_wp2_with (go_at_call 142; refine (width64 _).mono ?_; rintro e w' ⟨rfl, rfl⟩)
  go_ret
  exact ⟨by simp [Nat.add_sub_cancel_left], rfl⟩
set_option maxHeartbeats 400000 in
theorem piece64_no (w : World) (A : Option Addr) (n c : Nat) (hn : n ≤ c) (hc : c ≤ 9223372036854775807) (at_ : Int) (h : ¬ (0 ≤ at_ ∧ at_ + 8 ≤ n)) (h2 : at_ ≤ 9223372036854775807) :
    Calls Try.prog 141 #[.slice A n c, .int .i64 at_] w fun e w' => e = .returned (.slice none 0 0) ∧ w = w' := by
  by_cases h0 : at_ < 0
  · have h0' : decide (at_ < 0) = true := by simpa using h0
    clear h
    go_enter Try.func141, Try.ntmps141
    go_wp2_with (go_at_call 142; refine (width64 _).mono ?_; rintro e w' ⟨rfl, rfl⟩)
    go_ret
    exact ⟨rfl, rfl⟩
  · obtain ⟨k, rfl⟩ := Int.eq_ofNat_of_zero_le (show 0 ≤ at_ by omega)
    have h0' : decide ((k:Int) < 0) = false := by simp
    have h3 : (n:Int) - 8 < k := by omega
    clear h
    go_enter Try.func141, Try.ntmps141
    go_wp2_with (go_at_call 142; refine (width64 _).mono ?_; rintro e w' ⟨rfl, rfl⟩)
    go_ret
    exact ⟨rfl, rfl⟩
theorem shl_or32 (x c : Nat) (hx : x < 16777216) (hc : c < 256) : bits .or .u32 ((x : Int) * 256) (c : Int) = ((x * 256 + c : Nat) : Int) := by
  rw [show ((x : Int) * 256) = ((x * 256 : Nat) : Int) by simp, bits_or32 _ _ (by omega) (by omega), show x * 256 = 2 ^ 8 * x by omega, ← Nat.two_pow_add_eq_or_of_lt hc]
set_option maxHeartbeats 400000 in
theorem LoadBE32_yes (w : World) {A : Option Addr} {n c : Nat} {l : List UInt8} (h : Sl w 1 A n c (l.map by8)) (k0 : Nat) (hk : k0 + 4 ≤ n) :
    Calls Try.prog 124 #[.slice A n c, .int .i64 k0] w fun e w' => e = .returned (.tuple #[.int .u32 (be ((l.drop k0).take 4) : Nat), .bool true]) ∧ w = w' := by
  have hl := h.le; have hm := h.max
  have hlen : l.length = n := by simpa using h.len
  obtain ⟨b, off, rfl⟩ := h.form (by omega)
  obtain ⟨p, hp⟩ : ∃ p, p = (l.drop k0).take 4 := ⟨_, rfl⟩
  have hpl : p.length = 4 := by rw [hp]; simp; omega
  have hcell : ∀ j, j < 4 → w.cell? ⟨b, off + k0 + j, none⟩ = some (.int .u8 (bt p j : Int)) := by
    intro j hj
    have := h.byte (k0 + j) (by omega)
    rw [Nat.add_assoc, this, hp, bt_take _ _ _ hj, bt_drop]
  rw [← hp]
  have HP := Lib.hid (piece32_yes w b off n c hl hm k0 hk)
  have HB : Hid (be (p.take 4) = be p) := Lib.hid (by rw [List.take_of_length_le (by omega)])
  have HL := Lib.hid hpl; have HLen := Lib.hid hlen
  have HC := Lib.hid hcell
  clear hcell hp hlen hpl h
  go_enter Try.func124, Try.ntmps124
  have hne := @run_neq_slice_nil_any
  go_wp2_with (go_at_call 140; refine HP.out.mono ?_; rintro e w' ⟨rfl, rfl⟩)
  go_loop [6, 15] (fun x i => ∃ k : Nat, k ≤ 4 ∧ i = .int .i64 k ∧ x = .int .u32 (be (p.take k) : Nat)) (fun _ i => 4 - (intOf i).toNat)
  case atStart => exact ⟨0, by omega, rfl, rfl⟩
  case round =>
    obtain ⟨k, hk3, rfl, rfl⟩ := hrel
    by_cases hlt : k < 4
    · have g := HC.out k hlt
      have hc := bt_lt p k
      have hx : be (p.take k) < 256 ^ k := by
        have := be_lt (p.take k); rwa [List.length_take, Nat.min_eq_left (by rw [HL.out]; omega)] at this
      have hx2 : be (p.take k) < 16777216 * 256 := Nat.lt_of_lt_of_le hx (Nat.pow_le_pow_right (n := 256) (by decide) (show k ≤ 4 by omega))
      have HS := Lib.hid (shl_or32 (be (p.take k)) (bt p k) (by have h3 : 256 ^ k ≤ 256 ^ 3 := Nat.pow_le_pow_right (by decide) (by omega); omega) hc)
      have hx3 : be (p.take k) < 16777216 := by have h3 : 256 ^ k ≤ 256 ^ 3 := Nat.pow_le_pow_right (by decide) (by omega); omega
      go_wp2
      go_round
      case rel => exact ⟨k + 1, by omega, by go_num, by rw [be_take p k (by rw [HL.out]; exact hlt), HS.out]⟩
      case measure => simp [intOf]; omega
    · obtain rfl : k = 4 := by omega
      go_wp2
      go_ret2
      exact ⟨by (rw [HB.out]) <;> rfl, rfl⟩
set_option maxHeartbeats 400000 in
theorem LoadBE32_no (w : World) {A : Option Addr} {n c : Nat} (hn : n ≤ c) (hc : c ≤ 9223372036854775807) (at_ : Int) (h : ¬ (0 ≤ at_ ∧ at_ + 4 ≤ n)) (h2 : at_ ≤ 9223372036854775807) :
    Calls Try.prog 124 #[.slice A n c, .int .i64 at_] w fun e w' => e = .returned (.tuple #[.int .u32 0, .bool false]) ∧ w = w' := by
  have HP := Lib.hid (piece32_no w A n c hn hc at_ h h2)
  clear h
  go_enter Try.func124, Try.ntmps124
  have hne := @run_neq_slice_nil_any
  go_wp2_with (go_at_call 140; refine HP.out.mono ?_; rintro e w' ⟨rfl, rfl⟩)
  go_loop [6, 15] (fun x i => i = .int .i64 0 ∧ x = .int .u32 0) (fun x i => 0)
  case atStart => exact ⟨rfl, rfl⟩
  case round =>
    obtain ⟨rfl, rfl⟩ := hrel
    go_wp2
    go_ret2
    exact ⟨rfl, rfl⟩
theorem or_shl32 (x c j : Nat) (hj : j < 4) (hx : x < 256 ^ j) (hc : c < 256) : bits .or .u32 (x : Int) ((c : Int) * 2 ^ (8 * j) % 4294967296) = ((x + c * 256 ^ j : Nat) : Int) := by
  have e : (256 : Nat) ^ j = 2 ^ (8 * j) := by rw [Nat.pow_mul]
  have hle : c * 2 ^ (8 * j) < 4294967296 := by
    have h1 : (2 : Nat) ^ (8 * j) * 256 ≤ 2 ^ 32 := by rw [show 256 = 2 ^ 8 from rfl, ← Nat.pow_add]; exact Nat.pow_le_pow_right (by decide) (by omega)
    have h2 : c * 2 ^ (8 * j) < 256 * 2 ^ (8 * j) := Nat.mul_lt_mul_of_pos_right hc (Nat.pow_pos (by decide))
    omega
  have e2 : ((c : Int) * 2 ^ (8 * j) % 4294967296) = ((c * 2 ^ (8 * j) : Nat) : Int) := by
    rw [show ((c : Int) * 2 ^ (8 * j)) = ((c * 2 ^ (8 * j) : Nat) : Int) by simp]; omega
  have hx2 : x < 2 ^ 32 := Nat.lt_of_lt_of_le hx (by rw [e]; exact Nat.pow_le_pow_right (by decide) (by omega))
  rw [e] at hx
  rw [e2, bits_or32 _ _ hx2 hle, Nat.or_comm, Nat.mul_comm c, ← Nat.two_pow_add_eq_or_of_lt hx, e, Nat.add_comm, Nat.mul_comm]
set_option maxHeartbeats 400000 in
theorem LoadLE32_yes (w : World) {A : Option Addr} {n c : Nat} {l : List UInt8} (h : Sl w 1 A n c (l.map by8)) (k0 : Nat) (hk : k0 + 4 ≤ n) :
    Calls Try.prog 125 #[.slice A n c, .int .i64 k0] w fun e w' => e = .returned (.tuple #[.int .u32 (le ((l.drop k0).take 4) : Nat), .bool true]) ∧ w = w' := by
  have hl := h.le; have hm := h.max
  have hlen : l.length = n := by simpa using h.len
  obtain ⟨b, off, rfl⟩ := h.form (by omega)
  obtain ⟨p, hp⟩ : ∃ p, p = (l.drop k0).take 4 := ⟨_, rfl⟩
  have hpl : p.length = 4 := by rw [hp]; simp; omega
  have hcell : ∀ j, j < 4 → w.cell? ⟨b, off + k0 + j, none⟩ = some (.int .u8 (bt p j : Int)) := by
    intro j hj
    have := h.byte (k0 + j) (by omega)
    rw [Nat.add_assoc, this, hp, bt_take _ _ _ hj, bt_drop]
  rw [← hp]
  have HP := Lib.hid (piece32_yes w b off n c hl hm k0 hk)
  have HB : Hid (le (p.take 4) = le p) := Lib.hid (by rw [List.take_of_length_le (by omega)])
  have HL := Lib.hid hpl; have HLen := Lib.hid hlen
  have HC := Lib.hid hcell
  clear hcell hp hlen hpl h
  go_enter Try.func125, Try.ntmps125
  have hne := @run_neq_slice_nil_any
  go_wp2_with (go_at_call 140; refine HP.out.mono ?_; rintro e w' ⟨rfl, rfl⟩)
  go_loop [6, 15] (fun x i => ∃ k : Nat, k ≤ 4 ∧ i = .int .i64 k ∧ x = .int .u32 (le (p.take k) : Nat)) (fun _ i => 4 - (intOf i).toNat)
  case atStart => exact ⟨0, by omega, rfl, rfl⟩
  case round =>
    obtain ⟨k, hk3, rfl, rfl⟩ := hrel
    by_cases hlt : k < 4
    · have g := HC.out k hlt
      have hc := bt_lt p k
      have hx : le (p.take k) < 256 ^ k := by
        have := le_lt (p.take k); rwa [List.length_take, Nat.min_eq_left (by rw [HL.out]; omega)] at this
      have hx2 : le (p.take k) < 16777216 * 256 := Nat.lt_of_lt_of_le hx (Nat.pow_le_pow_right (n := 256) (by decide) (show k ≤ 4 by omega))
      have HS := Lib.hid (or_shl32 (le (p.take k)) (bt p k) k hlt hx hc)
      go_wp2
      go_round
      case rel => exact ⟨k + 1, by omega, by go_num, by rw [le_take p k (by rw [HL.out]; exact hlt), HS.out]⟩
      case measure => simp [intOf]; omega
    · obtain rfl : k = 4 := by omega
      go_wp2
      go_ret2
      exact ⟨by (rw [HB.out]) <;> rfl, rfl⟩
set_option maxHeartbeats 400000 in
theorem LoadLE32_no (w : World) {A : Option Addr} {n c : Nat} (hn : n ≤ c) (hc : c ≤ 9223372036854775807) (at_ : Int) (h : ¬ (0 ≤ at_ ∧ at_ + 4 ≤ n)) (h2 : at_ ≤ 9223372036854775807) :
    Calls Try.prog 125 #[.slice A n c, .int .i64 at_] w fun e w' => e = .returned (.tuple #[.int .u32 0, .bool false]) ∧ w = w' := by
  have HP := Lib.hid (piece32_no w A n c hn hc at_ h h2)
  clear h
  go_enter Try.func125, Try.ntmps125
  have hne := @run_neq_slice_nil_any
  go_wp2_with (go_at_call 140; refine HP.out.mono ?_; rintro e w' ⟨rfl, rfl⟩)
  go_loop [6, 15] (fun x i => i = .int .i64 0 ∧ x = .int .u32 0) (fun x i => 0)
  case atStart => exact ⟨rfl, rfl⟩
  case round =>
    obtain ⟨rfl, rfl⟩ := hrel
    go_wp2
    go_ret2
    exact ⟨rfl, rfl⟩
theorem shl_or64 (x c : Nat) (hx : x < 72057594037927936) (hc : c < 256) : bits .or .u64 ((x : Int) * 256) (c : Int) = ((x * 256 + c : Nat) : Int) := by
  rw [show ((x : Int) * 256) = ((x * 256 : Nat) : Int) by simp, bits_or64 _ _ (by omega) (by omega), show x * 256 = 2 ^ 8 * x by omega, ← Nat.two_pow_add_eq_or_of_lt hc]
set_option maxHeartbeats 400000 in
theorem LoadBE64_yes (w : World) {A : Option Addr} {n c : Nat} {l : List UInt8} (h : Sl w 1 A n c (l.map by8)) (k0 : Nat) (hk : k0 + 8 ≤ n) :
    Calls Try.prog 131 #[.slice A n c, .int .i64 k0] w fun e w' => e = .returned (.tuple #[.int .u64 (be ((l.drop k0).take 8) : Nat), .bool true]) ∧ w = w' := by
  have hl := h.le; have hm := h.max
  have hlen : l.length = n := by simpa using h.len
  obtain ⟨b, off, rfl⟩ := h.form (by omega)
  obtain ⟨p, hp⟩ : ∃ p, p = (l.drop k0).take 8 := ⟨_, rfl⟩
  have hpl : p.length = 8 := by rw [hp]; simp; omega
  have hcell : ∀ j, j < 8 → w.cell? ⟨b, off + k0 + j, none⟩ = some (.int .u8 (bt p j : Int)) := by
    intro j hj
    have := h.byte (k0 + j) (by omega)
    rw [Nat.add_assoc, this, hp, bt_take _ _ _ hj, bt_drop]
  rw [← hp]
  have HP := Lib.hid (piece64_yes w b off n c hl hm k0 hk)
  have HB : Hid (be (p.take 8) = be p) := Lib.hid (by rw [List.take_of_length_le (by omega)])
  have HL := Lib.hid hpl; have HLen := Lib.hid hlen
  have HC := Lib.hid hcell
  clear hcell hp hlen hpl h
  go_enter Try.func131, Try.ntmps131
  have hne := @run_neq_slice_nil_any
  go_wp2_with (go_at_call 141; refine HP.out.mono ?_; rintro e w' ⟨rfl, rfl⟩)
  go_loop [6, 15] (fun x i => ∃ k : Nat, k ≤ 8 ∧ i = .int .i64 k ∧ x = .int .u64 (be (p.take k) : Nat)) (fun _ i => 8 - (intOf i).toNat)
  case atStart => exact ⟨0, by omega, rfl, rfl⟩
  case round =>
    obtain ⟨k, hk3, rfl, rfl⟩ := hrel
    by_cases hlt : k < 8
    · have g := HC.out k hlt
      have hc := bt_lt p k
      have hx : be (p.take k) < 256 ^ k := by
        have := be_lt (p.take k); rwa [List.length_take, Nat.min_eq_left (by rw [HL.out]; omega)] at this
      have hx2 : be (p.take k) < 72057594037927936 * 256 := Nat.lt_of_lt_of_le hx (Nat.pow_le_pow_right (n := 256) (by decide) (show k ≤ 8 by omega))
      have HS := Lib.hid (shl_or64 (be (p.take k)) (bt p k) (by have h3 : 256 ^ k ≤ 256 ^ 7 := Nat.pow_le_pow_right (by decide) (by omega); omega) hc)
      have hx3 : be (p.take k) < 72057594037927936 := by have h3 : 256 ^ k ≤ 256 ^ 7 := Nat.pow_le_pow_right (by decide) (by omega); omega
      go_wp2
      go_round
      case rel => exact ⟨k + 1, by omega, by go_num, by rw [be_take p k (by rw [HL.out]; exact hlt), HS.out]⟩
      case measure => simp [intOf]; omega
    · obtain rfl : k = 8 := by omega
      go_wp2
      go_ret2
      exact ⟨by (rw [HB.out]) <;> rfl, rfl⟩
set_option maxHeartbeats 400000 in
theorem LoadBE64_no (w : World) {A : Option Addr} {n c : Nat} (hn : n ≤ c) (hc : c ≤ 9223372036854775807) (at_ : Int) (h : ¬ (0 ≤ at_ ∧ at_ + 8 ≤ n)) (h2 : at_ ≤ 9223372036854775807) :
    Calls Try.prog 131 #[.slice A n c, .int .i64 at_] w fun e w' => e = .returned (.tuple #[.int .u64 0, .bool false]) ∧ w = w' := by
  have HP := Lib.hid (piece64_no w A n c hn hc at_ h h2)
  clear h
  go_enter Try.func131, Try.ntmps131
  have hne := @run_neq_slice_nil_any
  go_wp2_with (go_at_call 141; refine HP.out.mono ?_; rintro e w' ⟨rfl, rfl⟩)
  go_loop [6, 15] (fun x i => i = .int .i64 0 ∧ x = .int .u64 0) (fun x i => 0)
  case atStart => exact ⟨rfl, rfl⟩
  case round =>
    obtain ⟨rfl, rfl⟩ := hrel
    go_wp2
    go_ret2
    exact ⟨rfl, rfl⟩
theorem or_shl64 (x c j : Nat) (hj : j < 8) (hx : x < 256 ^ j) (hc : c < 256) : bits .or .u64 (x : Int) (IntKind.u64.wrap ((c : Int) * 2 ^ (8 * j))) = ((x + c * 256 ^ j : Nat) : Int) := by
  have e : (256 : Nat) ^ j = 2 ^ (8 * j) := by rw [Nat.pow_mul]
  have hle : c * 2 ^ (8 * j) < 18446744073709551616 := by
    have h1 : (2 : Nat) ^ (8 * j) * 256 ≤ 2 ^ 64 := by rw [show 256 = 2 ^ 8 from rfl, ← Nat.pow_add]; exact Nat.pow_le_pow_right (by decide) (by omega)
    have h2 : c * 2 ^ (8 * j) < 256 * 2 ^ (8 * j) := Nat.mul_lt_mul_of_pos_right hc (Nat.pow_pos (by decide))
    omega
  have e2 : ((c : Int) * 2 ^ (8 * j) % 18446744073709551616) = ((c * 2 ^ (8 * j) : Nat) : Int) := by
    rw [show ((c : Int) * 2 ^ (8 * j)) = ((c * 2 ^ (8 * j) : Nat) : Int) by simp]; omega
  have hx2 : x < 2 ^ 64 := Nat.lt_of_lt_of_le hx (by rw [e]; exact Nat.pow_le_pow_right (by decide) (by omega))
  rw [e] at hx
  rw [IntKind.wrap_u64, e2, bits_or64 _ _ hx2 hle, Nat.or_comm, Nat.mul_comm c, ← Nat.two_pow_add_eq_or_of_lt hx, e, Nat.add_comm, Nat.mul_comm]
theorem EB : ElemT Try.prog 22 5 (.int .u8 0) 1 1 := ⟨Try.underlying22, by kernel_rfl, rfl, by decide⟩
def stLE32 (x k : Nat) : List UInt8 := (List.range 4).map fun i => if i < k then UInt8.ofNat (x / 256 ^ i) else 0
theorem stLE32_len (x k : Nat) : (stLE32 x k).length = 4 := by simp [stLE32]
theorem stLE32_set (x k y : Nat) (hy : y = x / 256 ^ k) (h : k < 4) : ((stLE32 x k).map by8).set k (.int .u8 ((y : Int) % 256)) = (stLE32 x (k + 1)).map by8 := by
  have e : Value.int .u8 ((y : Int) % 256) = by8 (UInt8.ofNat (x / 256 ^ k)) := by simp [by8, hy]
  rw [e, ← List.map_set]
  congr 1
  refine List.ext_getElem (by simp [stLE32]) fun i h1 h2 => ?_
  have hi : i < 4 := by simpa [stLE32] using h2
  simp only [stLE32, List.getElem_set, List.getElem_map, List.getElem_range]
  by_cases h3 : k = i
  · subst h3; simp
  · by_cases h4 : i < k
    · simp [h3, h4, show i < k + 1 by omega]
    · simp [h3, h4, show ¬ i < k + 1 by omega]
set_option maxHeartbeats 400000 in
theorem StoreLE32 (w : World) (x : Nat) (hx : x < 4294967296) :
    Calls Try.prog 91 #[.int .u32 x] w fun e w' => e = .returned (.slice (some ⟨w.heap.size, 0, none⟩) 4 4) ∧
      w'.ownsRow w.heap.size 5 1 (.slice (some ⟨w.heap.size, 0, none⟩) 4 4) 4 ((stLE32 x 4).map by8) ∧ Below w.heap.size w w' := by
  go_enter Try.func91, Try.ntmps91
  go_wp2_with (first | (go_at_call 123; refine (width32 _).mono ?_; rintro e w' ⟨rfl, rfl⟩) | (refine mk_full EB rfl rfl _ _ rfl w.heap.size 4 rfl rfl rfl rfl (by decide) (by decide) (Nat.le_refl _) ?_; intro w1 hown hg; have hb := below_grown hg; clear hg))
  go_loopw [0, 4, 10] (fun x' _ i wr => ∃ k y : Nat, k ≤ 4 ∧ Hid (y = x / 256 ^ k) ∧ y < 4294967296 ∧ i = .int .i64 k ∧ x' = .int .u32 y ∧ wr.ownsRow w.heap.size 5 1 (.slice (some ⟨w.heap.size, 0, none⟩) 4 4) 4 ((stLE32 x k).map by8) ∧ Below w.heap.size w wr) (fun _ _ i _ => 4 - (intOf i).toNat)
  case atStart => exact ⟨0, x, by omega, Lib.hid (by simp), hx, rfl, rfl, by simpa [stLE32, by8, List.range_succ] using hown, hb⟩
  case round =>
    obtain ⟨k, y, hk, hy, hylt, rfl, rfl, hst, hb⟩ := hrel
    by_cases hlt : k < 4
    · obtain ⟨v0, hc0⟩ := own_cell hst k (by omega)
      have hf0 := hst.frozenAt k
      have hs2 := hst.stored k (.int .u8 ((y : Int) % 256))
      have HS := Lib.hid hs2
      clear hs2
      go_wp2
      go_roundw
      case rel => exact ⟨k + 1, y / 256, by omega, Lib.hid (by rw [hy.out, Nat.pow_succ, Nat.div_div_eq_div_mul]), by omega, by go_num, rfl, by have h := HS.out.1; rw [stLE32_set x k y hy.out hlt] at h; exact h, hb.setCell (Nat.le_refl _) _⟩
      case measure => simp [intOf]; omega
    · obtain rfl : k = 4 := by omega
      go_wp2
      go_ret
      exact ⟨rfl, hst, hb⟩
def stLE64 (x k : Nat) : List UInt8 := (List.range 8).map fun i => if i < k then UInt8.ofNat (x / 256 ^ i) else 0
theorem stLE64_len (x k : Nat) : (stLE64 x k).length = 8 := by simp [stLE64]
theorem stLE64_set (x k y : Nat) (hy : y = x / 256 ^ k) (h : k < 8) : ((stLE64 x k).map by8).set k (.int .u8 ((y : Int) % 256)) = (stLE64 x (k + 1)).map by8 := by
  have e : Value.int .u8 ((y : Int) % 256) = by8 (UInt8.ofNat (x / 256 ^ k)) := by simp [by8, hy]
  rw [e, ← List.map_set]
  congr 1
  refine List.ext_getElem (by simp [stLE64]) fun i h1 h2 => ?_
  have hi : i < 8 := by simpa [stLE64] using h2
  simp only [stLE64, List.getElem_set, List.getElem_map, List.getElem_range]
  by_cases h3 : k = i
  · subst h3; simp
  · by_cases h4 : i < k
    · simp [h3, h4, show i < k + 1 by omega]
    · simp [h3, h4, show ¬ i < k + 1 by omega]
def stBE32 (x k : Nat) : List UInt8 := (List.range 4).map fun i => if 4 ≤ i + k then UInt8.ofNat (x / 256 ^ (3 - i)) else 0
theorem stBE32_len (x k : Nat) : (stBE32 x k).length = 4 := by simp [stBE32]
theorem stBE32_set (x k y : Nat) (hy : y = x / 256 ^ k) (h : k < 4) : ((stBE32 x k).map by8).set (3 - k) (.int .u8 ((y : Int) % 256)) = (stBE32 x (k + 1)).map by8 := by
  have e : Value.int .u8 ((y : Int) % 256) = by8 (UInt8.ofNat (x / 256 ^ k)) := by simp [by8, hy]
  rw [e, ← List.map_set]
  congr 1
  refine List.ext_getElem (by simp [stBE32]) fun i h1 h2 => ?_
  have hi : i < 4 := by simpa [stBE32] using h2
  simp only [stBE32, List.getElem_set, List.getElem_map, List.getElem_range]
  by_cases h3 : 3 - k = i
  · subst h3; simp [show 4 ≤ 3 - k + (k + 1) by omega, show 3 - (3 - k) = k by omega]
  · by_cases h4 : 4 ≤ i + k
    · simp [h3, h4, show 4 ≤ i + (k + 1) by omega]
    · simp [h3, h4, show ¬ 4 ≤ i + (k + 1) by omega]
set_option maxHeartbeats 400000 in
theorem StoreBE32 (w : World) (x : Nat) (hx : x < 4294967296) :
    Calls Try.prog 90 #[.int .u32 x] w fun e w' => e = .returned (.slice (some ⟨w.heap.size, 0, none⟩) 4 4) ∧
      w'.ownsRow w.heap.size 5 1 (.slice (some ⟨w.heap.size, 0, none⟩) 4 4) 4 ((stBE32 x 4).map by8) ∧ Below w.heap.size w w' := by
  go_enter Try.func90, Try.ntmps90
  go_wp2_with (first | (go_at_call 123; refine (width32 _).mono ?_; rintro e w' ⟨rfl, rfl⟩) | (refine mk_full EB rfl rfl _ _ rfl w.heap.size 4 rfl rfl rfl rfl (by decide) (by decide) (Nat.le_refl _) ?_; intro w1 hown hg; have hb := below_grown hg; clear hg))
  go_loopw [0, 4] (fun x' i wr => ∃ k y : Nat, k ≤ 4 ∧ Hid (y = x / 256 ^ k) ∧ y < 4294967296 ∧ i = .int .i64 (3 - (k : Int)) ∧ x' = .int .u32 y ∧ wr.ownsRow w.heap.size 5 1 (.slice (some ⟨w.heap.size, 0, none⟩) 4 4) 4 ((stBE32 x k).map by8) ∧ Below w.heap.size w wr) (fun _ i _ => (intOf i + 1).toNat)
  case atStart => exact ⟨0, x, by omega, Lib.hid (by simp), hx, rfl, rfl, by simpa [stBE32, by8, List.range_succ] using hown, hb⟩
  case round =>
    obtain ⟨k, y, hk, hy, hylt, rfl, rfl, hst, hb⟩ := hrel
    by_cases hlt : k < 4
    · obtain ⟨v0, hc0⟩ := own_cell hst (3 - k) (by omega)
      have hf0 := hst.frozenAt (3 - k)
      have hs2 := hst.stored (3 - k) (.int .u8 ((y : Int) % 256))
      have HS := Lib.hid hs2
      clear hs2
      go_wp2
      go_roundw
      case rel => exact ⟨k + 1, y / 256, by omega, Lib.hid (by rw [hy.out, Nat.pow_succ, Nat.div_div_eq_div_mul]), by omega, by congr 1; omega, rfl, by have h := HS.out.1; rw [stBE32_set x k y hy.out hlt] at h; exact h, hb.setCell (Nat.le_refl _) _⟩
      case measure => simp [intOf]; omega
    · obtain rfl : k = 4 := by omega
      go_wp2
      go_ret
      exact ⟨rfl, hst, hb⟩
def stBE64 (x k : Nat) : List UInt8 := (List.range 8).map fun i => if 8 ≤ i + k then UInt8.ofNat (x / 256 ^ (7 - i)) else 0
theorem stBE64_len (x k : Nat) : (stBE64 x k).length = 8 := by simp [stBE64]
theorem stBE64_set (x k y : Nat) (hy : y = x / 256 ^ k) (h : k < 8) : ((stBE64 x k).map by8).set (7 - k) (.int .u8 ((y : Int) % 256)) = (stBE64 x (k + 1)).map by8 := by
  have e : Value.int .u8 ((y : Int) % 256) = by8 (UInt8.ofNat (x / 256 ^ k)) := by simp [by8, hy]
  rw [e, ← List.map_set]
  congr 1
  refine List.ext_getElem (by simp [stBE64]) fun i h1 h2 => ?_
  have hi : i < 8 := by simpa [stBE64] using h2
  simp only [stBE64, List.getElem_set, List.getElem_map, List.getElem_range]
  by_cases h3 : 7 - k = i
  · subst h3; simp [show 8 ≤ 7 - k + (k + 1) by omega, show 7 - (7 - k) = k by omega]
  · by_cases h4 : 8 ≤ i + k
    · simp [h3, h4, show 8 ≤ i + (k + 1) by omega]
    · simp [h3, h4, show ¬ 8 ≤ i + (k + 1) by omega]
set_option maxHeartbeats 400000 in
theorem StoreBE64 (w : World) (x : Nat) (hx : x < 18446744073709551616) :
    Calls Try.prog 132 #[.int .u64 x] w fun e w' => e = .returned (.slice (some ⟨w.heap.size, 0, none⟩) 8 8) ∧
      w'.ownsRow w.heap.size 5 1 (.slice (some ⟨w.heap.size, 0, none⟩) 8 8) 8 ((stBE64 x 8).map by8) ∧ Below w.heap.size w w' := by
  go_enter Try.func132, Try.ntmps132
  go_wp2_with (first | (go_at_call 142; refine (width64 _).mono ?_; rintro e w' ⟨rfl, rfl⟩) | (refine mk_full EB rfl rfl _ _ rfl w.heap.size 8 rfl rfl rfl rfl (by decide) (by decide) (Nat.le_refl _) ?_; intro w1 hown hg; have hb := below_grown hg; clear hg))
  go_loopw [0, 4] (fun x' i wr => ∃ k y : Nat, k ≤ 8 ∧ Hid (y = x / 256 ^ k) ∧ y < 18446744073709551616 ∧ i = .int .i64 (7 - (k : Int)) ∧ x' = .int .u64 y ∧ wr.ownsRow w.heap.size 5 1 (.slice (some ⟨w.heap.size, 0, none⟩) 8 8) 8 ((stBE64 x k).map by8) ∧ Below w.heap.size w wr) (fun _ i _ => (intOf i + 1).toNat)
  case atStart => exact ⟨0, x, by omega, Lib.hid (by simp), hx, rfl, rfl, by simpa [stBE64, by8, List.range_succ] using hown, hb⟩
  case round =>
    obtain ⟨k, y, hk, hy, hylt, rfl, rfl, hst, hb⟩ := hrel
    by_cases hlt : k < 8
    · obtain ⟨v0, hc0⟩ := own_cell hst (7 - k) (by omega)
      have hf0 := hst.frozenAt (7 - k)
      have hs2 := hst.stored (7 - k) (.int .u8 ((y : Int) % 256))
      have HS := Lib.hid hs2
      clear hs2
      go_wp2
      go_roundw
      case rel => exact ⟨k + 1, y / 256, by omega, Lib.hid (by rw [hy.out, Nat.pow_succ, Nat.div_div_eq_div_mul]), by omega, by congr 1; omega, rfl, by have h := HS.out.1; rw [stBE64_set x k y hy.out hlt] at h; exact h, hb.setCell (Nat.le_refl _) _⟩
      case measure => simp [intOf]; omega
    · obtain rfl : k = 8 := by omega
      go_wp2
      go_ret
      exact ⟨rfl, hst, hb⟩
end Go.Proofs.Ytpjmbhhfpoamnaa
