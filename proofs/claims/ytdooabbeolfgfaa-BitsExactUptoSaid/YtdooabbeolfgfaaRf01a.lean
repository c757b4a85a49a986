import Derived.Test.YtdooabbeolfgfaaTurns
set_option linter.unusedVariables false
set_option linter.unusedSimpArgs false
namespace Go.Proofs.Ytdooabbeolfgfaa
open Go.RowKit
theorem tmod_pos (n W : Int) (h : 0 ≤ n) : n.tmod W = n % W := Int.tmod_eq_emod_of_nonneg h
theorem tmod_neg (n W : Int) (h : n < 0) : n.tmod W = -((-n) % W) := by
  have := Int.neg_tmod (-n) W
  rw [Int.neg_neg] at this
  rw [this, Int.tmod_eq_emod_of_nonneg (by omega)]
theorem places_32 (w : World) (n : Int) (h1 : -9223372036854775808 ≤ n) (h2 : n ≤ 9223372036854775807) :
    Calls Try.prog 160 #[.int .i64 n, .int .i64 32] w fun e w' => e = .returned (.int .i64 (n % 32)) ∧ w = w' := by
  by_cases hn : 0 ≤ n
  · have e1 := tmod_pos n 32 hn
    have e2 : decide (n % 32 < 0) = false := decide_eq_false (by omega)
    clear hn
    go_enter Try.func160, Try.ntmps160
    go_wp2
    go_ret
    exact ⟨rfl, rfl⟩
  · have e1 := tmod_neg n 32 (by omega)
    by_cases hz : (-n) % 32 = 0
    · have e0 : n.tmod 32 = 0 := by rw [e1, hz]; rfl
      have HR : Hid (n % 32 = 0) := Lib.hid (by omega)
      rw [HR.out]
      clear e1 hz hn HR
      go_enter Try.func160, Try.ntmps160
      go_wp2
      go_ret
      exact ⟨rfl, rfl⟩
    · obtain ⟨r, hr⟩ : ∃ r, r = (-n) % 32 := ⟨_, rfl⟩
      have hr1 : 0 < r := by omega
      have hr2 : r < 32 := by omega
      have HR : Hid (n % 32 = 32 - r) := Lib.hid (by omega)
      rw [← hr] at e1
      rw [HR.out]
      have e2 : decide (-r < 0) = true := decide_eq_true (by omega)
      clear hz hn HR hr
      go_enter Try.func160, Try.ntmps160
      go_wp2
      go_ret
      exact ⟨by first | rfl | (rw [show (32 : Int) - r = -r + 32 by omega]; rfl), rfl⟩
theorem places_64 (w : World) (n : Int) (h1 : -9223372036854775808 ≤ n) (h2 : n ≤ 9223372036854775807) :
    Calls Try.prog 160 #[.int .i64 n, .int .i64 64] w fun e w' => e = .returned (.int .i64 (n % 64)) ∧ w = w' := by
  by_cases hn : 0 ≤ n
  · have e1 := tmod_pos n 64 hn
    have e2 : decide (n % 64 < 0) = false := decide_eq_false (by omega)
    clear hn
    go_enter Try.func160, Try.ntmps160
    go_wp2
    go_ret
    exact ⟨rfl, rfl⟩
  · have e1 := tmod_neg n 64 (by omega)
    by_cases hz : (-n) % 64 = 0
    · have e0 : n.tmod 64 = 0 := by rw [e1, hz]; rfl
      have HR : Hid (n % 64 = 0) := Lib.hid (by omega)
      rw [HR.out]
      clear e1 hz hn HR
      go_enter Try.func160, Try.ntmps160
      go_wp2
      go_ret
      exact ⟨rfl, rfl⟩
    · obtain ⟨r, hr⟩ : ∃ r, r = (-n) % 64 := ⟨_, rfl⟩
      have hr1 : 0 < r := by omega
      have hr2 : r < 64 := by omega
      have HR : Hid (n % 64 = 64 - r) := Lib.hid (by omega)
      rw [← hr] at e1
      rw [HR.out]
      have e2 : decide (-r < 0) = true := decide_eq_true (by omega)
      clear hz hn HR hr
      go_enter Try.func160, Try.ntmps160
      go_wp2
      go_ret
      exact ⟨by first | rfl | (rw [show (64 : Int) - r = -r + 64 by omega]; rfl), rfl⟩
theorem rotR_rotR (W : Nat) (hW : 0 < W) (a : Nat) (n m : Int) : rotR W (rotR W a n) m = rotR W a (n + m) := by
  refine bits_ext W (rotR_lt ..) (rotR_lt ..) (fun i hi => ?_)
  rw [rotR_bit W hW _ m i hi, rotR_bit W hW _ n _ (place_lt W hW _), rotR_bit W hW _ _ i hi, place_cast W hW]
  congr 2
  rw [Int.emod_add_emod]
  congr 1
  omega
theorem rotL_place32 (a : Nat) (n : Int) : rotL 32 a ((n % 32).toNat : Nat) = rotL 32 a n := by
  unfold rotL
  congr 2
  omega
theorem rotR_place32 (a : Nat) (n : Int) : rotR 32 a ((n % 32).toNat : Nat) = rotR 32 a n := by
  unfold rotR
  congr 2
  omega
theorem rotL_zero32 (a : Nat) (ha : a < 4294967296) : rotL 32 a ((0 : Nat) : Int) = a := by
  refine bits_ext 32 (rotL_lt ..) ha (fun i hi => ?_)
  rw [rotL_bit 32 (by decide) _ _ i hi]
  congr 1
  omega
theorem rotR_zero32 (a : Nat) (ha : a < 4294967296) : rotR 32 a ((0 : Nat) : Int) = a := by
  refine bits_ext 32 (rotR_lt ..) ha (fun i hi => ?_)
  rw [rotR_bit 32 (by decide) _ _ i hi]
  congr 1
  omega
theorem rotL_one32 (x : Nat) (hx : x < 4294967296) : rotL 32 x 1 = 2 * x % 4294967296 + x / 2147483648 := by
  have h := rotL32_eq x hx 1
  rw [show ((1 : Int) % 32).toNat = 1 by decide, show ((32 : Int) - 1 % 32).toNat = 31 by decide] at h
  have e1 : (x : Int) * 2 ^ 1 % 4294967296 = ((x * 2 % 4294967296 : Nat) : Int) := by simp
  have e2 : (x : Int) / 2 ^ 31 = ((x / 2147483648 : Nat) : Int) := by simp
  rw [e1, e2, bits_or32 _ _ (by omega) (by omega)] at h
  have h2 : rotL 32 x 1 = x * 2 % 4294967296 ||| x / 2147483648 := by exact_mod_cast h.symm
  have h3 := Nat.two_pow_add_eq_or_of_lt (i := 1) (b := x / 2147483648) (by omega) (x % 2147483648)
  rw [h2, show x * 2 % 4294967296 = 2 ^ 1 * (x % 2147483648) by omega, ← h3]
  omega
theorem rotR_one32 (x : Nat) (hx : x < 4294967296) : rotR 32 x 1 = x / 2 + x % 2 * 2147483648 := by
  have h := rotR32_eq x hx 1
  rw [show ((1 : Int) % 32).toNat = 1 by decide, show ((32 : Int) - 1 % 32).toNat = 31 by decide] at h
  have e1 : (x : Int) * 2 ^ 31 % 4294967296 = ((x * 2147483648 % 4294967296 : Nat) : Int) := by simp
  have e2 : (x : Int) / 2 ^ 1 = ((x / 2 : Nat) : Int) := by simp
  rw [e1, e2, bits_or32 _ _ (by omega) (by omega)] at h
  have h2 : rotR 32 x 1 = x / 2 ||| x * 2147483648 % 4294967296 := by exact_mod_cast h.symm
  have h3 := Nat.two_pow_add_eq_or_of_lt (i := 31) (b := x / 2) (by omega) (x % 2)
  rw [h2, Nat.or_comm, show x * 2147483648 % 4294967296 = 2 ^ 31 * (x % 2) by omega, ← h3]
  omega
set_option maxHeartbeats 400000 in
theorem refRotL32 (w : World) (a : Nat) (ha : a < 4294967296) (n : Int) (h1 : -9223372036854775808 ≤ n) (h2 : n ≤ 9223372036854775807) :
    Calls Try.prog 118 #[.int .u32 (a : Int), .int .i64 n] w fun e w' => e = .returned (.int .u32 (rotL 32 a n : Nat)) ∧ w = w' := by
  have HP := Lib.hid (places_32 w n h1 h2)
  obtain ⟨P, hP⟩ : ∃ P, P = (n % 32).toNat := ⟨_, rfl⟩
  have HQ : Hid (n % 32 = (P : Int)) := Lib.hid (by omega)
  have hPl : P < 32 := by omega
  have HR := Lib.hid (show rotL 32 a n = rotL 32 a (P : Int) by rw [hP]; exact (rotL_place32 a n).symm)
  rw [HR.out]
  rw [HQ.out] at HP
  clear HR HQ hP
  go_enter Try.func118, Try.ntmps118
  go_wp2_with (first | (at_builtin; refine Stopped.out ?_) | (at_make; refine Stopped.out ?_))
  refine HP.out.mono ?_
  rintro e w' ⟨rfl, rfl⟩
  go_wp2
  go_loop [0, 5] (fun x i => ∃ j : Nat, j ≤ P ∧ i = .int .i64 ((P - j : Nat) : Int) ∧ x = .int .u32 ((rotL 32 a (j : Nat) : Nat) : Int)) (fun _ i => (intOf i).toNat)
  case atStart => exact ⟨0, by omega, rfl, by rw [rotL_zero32 a ha]⟩
  case round =>
    obtain ⟨j, hj, rfl, rfl⟩ := hrel
    have HS := Lib.hid (show rotL 32 (rotL 32 a (j : Nat)) 1 = rotL 32 a ((j + 1 : Nat) : Int) by rw [rotL_rotL 32 (by decide)]; rfl)
    have hx : rotL 32 a (j : Nat) < 4294967296 := rotL_lt 32 a _
    obtain ⟨x, hxe⟩ : ∃ x, x = rotL 32 a (j : Nat) := ⟨_, rfl⟩
    rw [← hxe] at HS hx ⊢
    obtain ⟨q, hq⟩ : ∃ q, q = P - j := ⟨_, rfl⟩
    rw [← hq]
    by_cases hlt : 0 < q
    · have HO := Lib.hid (And.intro hq (rotL_one32 x hx))
      have hq1 : (0 : Int) < (q : Int) := by omega
      have hq2 : q ≤ 32 := by omega
      have hw : wrap64 ((q : Int) - 1) = (q : Int) - 1 := by unfold wrap64; omega
      clear hxe hq
      go_wp2
      go_round
      case rel => exact ⟨j + 1, by have := HO.out.1; omega, by have := HO.out.1; congr 1; omega, by rw [← HS.out, HO.out.2]; first | (simp; done) | (simp [IntKind.wrap_u64]; omega)⟩
      case measure => simp [intOf]; omega
    · obtain rfl : j = P := by omega
      have HX := Lib.hid hxe
      have hq1 : q = 0 := by omega
      clear hxe hq
      subst hq1
      go_wp2
      go_ret
      exact ⟨by rw [← HX.out]; rfl, rfl⟩
set_option maxHeartbeats 400000 in
theorem refRotR32 (w : World) (a : Nat) (ha : a < 4294967296) (n : Int) (h1 : -9223372036854775808 ≤ n) (h2 : n ≤ 9223372036854775807) :
    Calls Try.prog 119 #[.int .u32 (a : Int), .int .i64 n] w fun e w' => e = .returned (.int .u32 (rotR 32 a n : Nat)) ∧ w = w' := by
  have HP := Lib.hid (places_32 w n h1 h2)
  obtain ⟨P, hP⟩ : ∃ P, P = (n % 32).toNat := ⟨_, rfl⟩
  have HQ : Hid (n % 32 = (P : Int)) := Lib.hid (by omega)
  have hPl : P < 32 := by omega
  have HR := Lib.hid (show rotR 32 a n = rotR 32 a (P : Int) by rw [hP]; exact (rotR_place32 a n).symm)
  rw [HR.out]
  rw [HQ.out] at HP
  clear HR HQ hP
  go_enter Try.func119, Try.ntmps119
  go_wp2_with (first | (at_builtin; refine Stopped.out ?_) | (at_make; refine Stopped.out ?_))
  refine HP.out.mono ?_
  rintro e w' ⟨rfl, rfl⟩
  go_wp2
  go_loop [0, 5] (fun x i => ∃ j : Nat, j ≤ P ∧ i = .int .i64 ((P - j : Nat) : Int) ∧ x = .int .u32 ((rotR 32 a (j : Nat) : Nat) : Int)) (fun _ i => (intOf i).toNat)
  case atStart => exact ⟨0, by omega, rfl, by rw [rotR_zero32 a ha]⟩
  case round =>
    obtain ⟨j, hj, rfl, rfl⟩ := hrel
    have HS := Lib.hid (show rotR 32 (rotR 32 a (j : Nat)) 1 = rotR 32 a ((j + 1 : Nat) : Int) by rw [rotR_rotR 32 (by decide)]; rfl)
    have hx : rotR 32 a (j : Nat) < 4294967296 := rotR_lt 32 a _
    obtain ⟨x, hxe⟩ : ∃ x, x = rotR 32 a (j : Nat) := ⟨_, rfl⟩
    rw [← hxe] at HS hx ⊢
    obtain ⟨q, hq⟩ : ∃ q, q = P - j := ⟨_, rfl⟩
    rw [← hq]
    by_cases hlt : 0 < q
    · have HO := Lib.hid (And.intro hq (rotR_one32 x hx))
      have hq1 : (0 : Int) < (q : Int) := by omega
      have hq2 : q ≤ 32 := by omega
      have hw : wrap64 ((q : Int) - 1) = (q : Int) - 1 := by unfold wrap64; omega
      clear hxe hq
      go_wp2
      go_round
      case rel => exact ⟨j + 1, by have := HO.out.1; omega, by have := HO.out.1; congr 1; omega, by rw [← HS.out, HO.out.2]; first | (simp; done) | (simp [IntKind.wrap_u64]; omega)⟩
      case measure => simp [intOf]; omega
    · obtain rfl : j = P := by omega
      have HX := Lib.hid hxe
      have hq1 : q = 0 := by omega
      clear hxe hq
      subst hq1
      go_wp2
      go_ret
      exact ⟨by rw [← HX.out]; rfl, rfl⟩
theorem rotL_place64 (a : Nat) (n : Int) : rotL 64 a ((n % 64).toNat : Nat) = rotL 64 a n := by
  unfold rotL
  congr 2
  omega
theorem rotR_place64 (a : Nat) (n : Int) : rotR 64 a ((n % 64).toNat : Nat) = rotR 64 a n := by
  unfold rotR
  congr 2
  omega
theorem rotL_zero64 (a : Nat) (ha : a < 18446744073709551616) : rotL 64 a ((0 : Nat) : Int) = a := by
  refine bits_ext 64 (rotL_lt ..) ha (fun i hi => ?_)
  rw [rotL_bit 64 (by decide) _ _ i hi]
  congr 1
  omega
theorem rotR_zero64 (a : Nat) (ha : a < 18446744073709551616) : rotR 64 a ((0 : Nat) : Int) = a := by
  refine bits_ext 64 (rotR_lt ..) ha (fun i hi => ?_)
  rw [rotR_bit 64 (by decide) _ _ i hi]
  congr 1
  omega
theorem rotL_one64 (x : Nat) (hx : x < 18446744073709551616) : rotL 64 x 1 = 2 * x % 18446744073709551616 + x / 9223372036854775808 := by
  have h := rotL64_eq x hx 1
  rw [show ((1 : Int) % 64).toNat = 1 by decide, show ((64 : Int) - 1 % 64).toNat = 63 by decide] at h
  have e1 : (x : Int) * 2 ^ 1 % 18446744073709551616 = ((x * 2 % 18446744073709551616 : Nat) : Int) := by simp
  have e2 : (x : Int) / 2 ^ 63 = ((x / 9223372036854775808 : Nat) : Int) := by simp
  rw [e1, e2, bits_or64 _ _ (by omega) (by omega)] at h
  have h2 : rotL 64 x 1 = x * 2 % 18446744073709551616 ||| x / 9223372036854775808 := by exact_mod_cast h.symm
  have h3 := Nat.two_pow_add_eq_or_of_lt (i := 1) (b := x / 9223372036854775808) (by omega) (x % 9223372036854775808)
  rw [h2, show x * 2 % 18446744073709551616 = 2 ^ 1 * (x % 9223372036854775808) by omega, ← h3]
  omega
theorem rotR_one64 (x : Nat) (hx : x < 18446744073709551616) : rotR 64 x 1 = x / 2 + x % 2 * 9223372036854775808 := by
  have h := rotR64_eq x hx 1
  rw [show ((1 : Int) % 64).toNat = 1 by decide, show ((64 : Int) - 1 % 64).toNat = 63 by decide] at h
  have e1 : (x : Int) * 2 ^ 63 % 18446744073709551616 = ((x * 9223372036854775808 % 18446744073709551616 : Nat) : Int) := by simp
  have e2 : (x : Int) / 2 ^ 1 = ((x / 2 : Nat) : Int) := by simp
  rw [e1, e2, bits_or64 _ _ (by omega) (by omega)] at h
  have h2 : rotR 64 x 1 = x / 2 ||| x * 9223372036854775808 % 18446744073709551616 := by exact_mod_cast h.symm
  have h3 := Nat.two_pow_add_eq_or_of_lt (i := 63) (b := x / 2) (by omega) (x % 2)
  rw [h2, Nat.or_comm, show x * 9223372036854775808 % 18446744073709551616 = 2 ^ 63 * (x % 2) by omega, ← h3]
  omega
set_option maxHeartbeats 400000 in
theorem refRotL64 (w : World) (a : Nat) (ha : a < 18446744073709551616) (n : Int) (h1 : -9223372036854775808 ≤ n) (h2 : n ≤ 9223372036854775807) :
    Calls Try.prog 120 #[.int .u64 (a : Int), .int .i64 n] w fun e w' => e = .returned (.int .u64 (rotL 64 a n : Nat)) ∧ w = w' := by
  have HP := Lib.hid (places_64 w n h1 h2)
  obtain ⟨P, hP⟩ : ∃ P, P = (n % 64).toNat := ⟨_, rfl⟩
  have HQ : Hid (n % 64 = (P : Int)) := Lib.hid (by omega)
  have hPl : P < 64 := by omega
  have HR := Lib.hid (show rotL 64 a n = rotL 64 a (P : Int) by rw [hP]; exact (rotL_place64 a n).symm)
  rw [HR.out]
  rw [HQ.out] at HP
  clear HR HQ hP
  go_enter Try.func120, Try.ntmps120
  go_wp2_with (first | (at_builtin; refine Stopped.out ?_) | (at_make; refine Stopped.out ?_))
  refine HP.out.mono ?_
  rintro e w' ⟨rfl, rfl⟩
  go_wp2
  go_loop [0, 5] (fun x i => ∃ j : Nat, j ≤ P ∧ i = .int .i64 ((P - j : Nat) : Int) ∧ x = .int .u64 ((rotL 64 a (j : Nat) : Nat) : Int)) (fun _ i => (intOf i).toNat)
  case atStart => exact ⟨0, by omega, rfl, by rw [rotL_zero64 a ha]⟩
  case round =>
    obtain ⟨j, hj, rfl, rfl⟩ := hrel
    have HS := Lib.hid (show rotL 64 (rotL 64 a (j : Nat)) 1 = rotL 64 a ((j + 1 : Nat) : Int) by rw [rotL_rotL 64 (by decide)]; rfl)
    have hx : rotL 64 a (j : Nat) < 18446744073709551616 := rotL_lt 64 a _
    obtain ⟨x, hxe⟩ : ∃ x, x = rotL 64 a (j : Nat) := ⟨_, rfl⟩
    rw [← hxe] at HS hx ⊢
    obtain ⟨q, hq⟩ : ∃ q, q = P - j := ⟨_, rfl⟩
    rw [← hq]
    by_cases hlt : 0 < q
    · have HO := Lib.hid (And.intro hq (rotL_one64 x hx))
      have hq1 : (0 : Int) < (q : Int) := by omega
      have hq2 : q ≤ 64 := by omega
      have hw : wrap64 ((q : Int) - 1) = (q : Int) - 1 := by unfold wrap64; omega
      clear hxe hq
      go_wp2
      go_round
      case rel => exact ⟨j + 1, by have := HO.out.1; omega, by have := HO.out.1; congr 1; omega, by rw [← HS.out, HO.out.2]; first | (simp; done) | (simp [IntKind.wrap_u64]; omega)⟩
      case measure => simp [intOf]; omega
    · obtain rfl : j = P := by omega
      have HX := Lib.hid hxe
      have hq1 : q = 0 := by omega
      clear hxe hq
      subst hq1
      go_wp2
      go_ret
      exact ⟨by rw [← HX.out]; rfl, rfl⟩
set_option maxHeartbeats 400000 in
theorem refRotR64 (w : World) (a : Nat) (ha : a < 18446744073709551616) (n : Int) (h1 : -9223372036854775808 ≤ n) (h2 : n ≤ 9223372036854775807) :
    Calls Try.prog 121 #[.int .u64 (a : Int), .int .i64 n] w fun e w' => e = .returned (.int .u64 (rotR 64 a n : Nat)) ∧ w = w' := by
  have HP := Lib.hid (places_64 w n h1 h2)
  obtain ⟨P, hP⟩ : ∃ P, P = (n % 64).toNat := ⟨_, rfl⟩
  have HQ : Hid (n % 64 = (P : Int)) := Lib.hid (by omega)
  have hPl : P < 64 := by omega
  have HR := Lib.hid (show rotR 64 a n = rotR 64 a (P : Int) by rw [hP]; exact (rotR_place64 a n).symm)
  rw [HR.out]
  rw [HQ.out] at HP
  clear HR HQ hP
  go_enter Try.func121, Try.ntmps121
  go_wp2_with (first | (at_builtin; refine Stopped.out ?_) | (at_make; refine Stopped.out ?_))
  refine HP.out.mono ?_
  rintro e w' ⟨rfl, rfl⟩
  go_wp2
  go_loop [0, 5] (fun x i => ∃ j : Nat, j ≤ P ∧ i = .int .i64 ((P - j : Nat) : Int) ∧ x = .int .u64 ((rotR 64 a (j : Nat) : Nat) : Int)) (fun _ i => (intOf i).toNat)
  case atStart => exact ⟨0, by omega, rfl, by rw [rotR_zero64 a ha]⟩
  case round =>
    obtain ⟨j, hj, rfl, rfl⟩ := hrel
    have HS := Lib.hid (show rotR 64 (rotR 64 a (j : Nat)) 1 = rotR 64 a ((j + 1 : Nat) : Int) by rw [rotR_rotR 64 (by decide)]; rfl)
    have hx : rotR 64 a (j : Nat) < 18446744073709551616 := rotR_lt 64 a _
    obtain ⟨x, hxe⟩ : ∃ x, x = rotR 64 a (j : Nat) := ⟨_, rfl⟩
    rw [← hxe] at HS hx ⊢
    obtain ⟨q, hq⟩ : ∃ q, q = P - j := ⟨_, rfl⟩
    rw [← hq]
    by_cases hlt : 0 < q
    · have HO := Lib.hid (And.intro hq (rotR_one64 x hx))
      have hq1 : (0 : Int) < (q : Int) := by omega
      have hq2 : q ≤ 64 := by omega
      have hw : wrap64 ((q : Int) - 1) = (q : Int) - 1 := by unfold wrap64; omega
      clear hxe hq
      go_wp2
      go_round
      case rel => exact ⟨j + 1, by have := HO.out.1; omega, by have := HO.out.1; congr 1; omega, by rw [← HS.out, HO.out.2]; first | (simp; done) | (simp [IntKind.wrap_u64]; omega)⟩
      case measure => simp [intOf]; omega
    · obtain rfl : j = P := by omega
      have HX := Lib.hid hxe
      have hq1 : q = 0 := by omega
      clear hxe hq
      subst hq1
      go_wp2
      go_ret
      exact ⟨by rw [← HX.out]; rfl, rfl⟩
end Go.Proofs.Ytdooabbeolfgfaa
