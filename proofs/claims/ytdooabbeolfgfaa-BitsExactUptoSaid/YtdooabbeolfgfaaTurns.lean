import Derived.Test.YtdooabbeolfgfaaBits1
set_option linter.unusedVariables false
set_option linter.unusedSimpArgs false
namespace Go.Proofs.Ytdooabbeolfgfaa
open Go.RowKit

/-! ### the turns' algebra -/
theorem rotL_bit (W : Nat) (hW : 0 < W) (a : Nat) (n : Int) (i : Nat) (hi : i < W) : (rotL W a n).testBit i = (a.testBit (((i : Int) - n) % W).toNat) := by
  unfold rotL
  obtain ⟨k, hk⟩ := Int.eq_ofNat_of_zero_le (show 0 ≤ n % (W : Int) from Int.emod_nonneg _ (by omega))
  have hk2 : k < W := by have := Int.emod_lt_of_pos n (show (0 : Int) < W by omega); omega
  rw [show (n % (W : Int)).toNat = k by omega, ← BitVec.getLsbD, BitVec.getLsbD_rotateLeft, Nat.mod_eq_of_lt hk2]
  have hn : n = (W : Int) * (n / W) + k := by rw [← hk, Int.mul_comm]; exact (Int.ediv_mul_add_emod n W).symm
  by_cases h : i < k
  · have e : (((i : Int) - n) % W).toNat = W - k + i := by
      have h1 : ((i : Int) - n) = ((W - k + i : Nat) : Int) + (W : Int) * (-(n / W) - 1) := by
        rw [Int.mul_sub, Int.mul_neg]
        omega
      rw [h1, Int.add_mul_emod_self_left, Int.emod_eq_of_lt (by omega) (by omega)]
      omega
    rw [e]
    simp [h, BitVec.getLsbD_ofNat]
    omega
  · have e : (((i : Int) - n) % W).toNat = i - k := by
      have h1 : ((i : Int) - n) = ((i - k : Nat) : Int) + (W : Int) * (-(n / W)) := by
        rw [Int.mul_neg]
        omega
      rw [h1, Int.add_mul_emod_self_left, Int.emod_eq_of_lt (by omega) (by omega)]
      omega
    rw [e]
    simp [h, hi, BitVec.getLsbD_ofNat]
    omega
theorem rotR_bit (W : Nat) (hW : 0 < W) (a : Nat) (n : Int) (i : Nat) (hi : i < W) : (rotR W a n).testBit i = (a.testBit (((i : Int) + n) % W).toNat) := by
  unfold rotR
  obtain ⟨k, hk⟩ := Int.eq_ofNat_of_zero_le (show 0 ≤ n % (W : Int) from Int.emod_nonneg _ (by omega))
  have hk2 : k < W := by have := Int.emod_lt_of_pos n (show (0 : Int) < W by omega); omega
  rw [show (n % (W : Int)).toNat = k by omega, ← BitVec.getLsbD, BitVec.getLsbD_rotateRight, Nat.mod_eq_of_lt hk2]
  have hn : n = (W : Int) * (n / W) + k := by rw [← hk, Int.mul_comm]; exact (Int.ediv_mul_add_emod n W).symm
  by_cases h : i < W - k
  · have e : (((i : Int) + n) % W).toNat = k + i := by
      have h1 : ((i : Int) + n) = ((k + i : Nat) : Int) + (W : Int) * (n / W) := by omega
      rw [h1, Int.add_mul_emod_self_left, Int.emod_eq_of_lt (by omega) (by omega)]
      omega
    rw [e]
    simp [h, BitVec.getLsbD_ofNat]
    omega
  · have e : (((i : Int) + n) % W).toNat = i - (W - k) := by
      have h1 : ((i : Int) + n) = ((i - (W - k) : Nat) : Int) + (W : Int) * (n / W + 1) := by
        rw [Int.mul_add]
        omega
      rw [h1, Int.add_mul_emod_self_left, Int.emod_eq_of_lt (by omega) (by omega)]
      omega
    rw [e]
    simp [h, hi, BitVec.getLsbD_ofNat]
    omega
theorem rotL_lt (W a : Nat) (n : Int) : rotL W a n < 2 ^ W := by unfold rotL; exact BitVec.isLt _
theorem rotR_lt (W a : Nat) (n : Int) : rotR W a n < 2 ^ W := by unfold rotR; exact BitVec.isLt _
theorem bits_ext (W : Nat) {a b : Nat} (ha : a < 2 ^ W) (hb : b < 2 ^ W) (h : ∀ i, i < W → a.testBit i = b.testBit i) : a = b := by
  refine Nat.eq_of_testBit_eq fun i => ?_
  by_cases hi : i < W
  · exact h i hi
  · rw [Nat.testBit_lt_two_pow (Nat.lt_of_lt_of_le ha (Nat.pow_le_pow_right (by decide) (by omega))), Nat.testBit_lt_two_pow (Nat.lt_of_lt_of_le hb (Nat.pow_le_pow_right (by decide) (by omega)))]
theorem place_lt (W : Nat) (hW : 0 < W) (z : Int) : (z % W).toNat < W := by
  have := Int.emod_lt_of_pos z (show (0 : Int) < W by omega)
  have := Int.emod_nonneg z (show (W : Int) ≠ 0 by omega)
  omega
theorem place_cast (W : Nat) (hW : 0 < W) (z : Int) : (((z % W).toNat : Nat) : Int) = z % W := by
  have := Int.emod_nonneg z (show (W : Int) ≠ 0 by omega)
  omega
theorem rotL_rotL (W : Nat) (hW : 0 < W) (a : Nat) (n m : Int) : rotL W (rotL W a n) m = rotL W a (n + m) := by
  refine bits_ext W (rotL_lt _ _ _) (rotL_lt _ _ _) fun i hi => ?_
  rw [rotL_bit W hW _ _ i hi, rotL_bit W hW _ _ _ (place_lt W hW _), rotL_bit W hW _ _ i hi, place_cast W hW]
  congr 2
  rw [Int.emod_sub_emod]
  congr 1
  omega
theorem rotR_rotL (W : Nat) (hW : 0 < W) (a : Nat) (ha : a < 2 ^ W) (n : Int) : rotR W (rotL W a n) n = a := by
  refine bits_ext W (rotR_lt _ _ _) ha fun i hi => ?_
  rw [rotR_bit W hW _ _ i hi, rotL_bit W hW _ _ _ (place_lt W hW _), place_cast W hW, Int.emod_sub_emod]
  congr 1
  rw [show (i : Int) + n - n = i by omega, Int.emod_eq_of_lt (by omega) (by omega)]
  omega
theorem rotL_width (W : Nat) (hW : 0 < W) (a : Nat) (ha : a < 2 ^ W) : rotL W a W = a := by
  refine bits_ext W (rotL_lt _ _ _) ha fun i hi => ?_
  rw [rotL_bit W hW _ _ i hi, Int.sub_emod_right, Int.emod_eq_of_lt (by omega) (by omega)]
  congr 1
theorem rotL_xor (W : Nat) (hW : 0 < W) (a b : Nat) (n : Int) : rotL W a n ^^^ rotL W b n = rotL W (a ^^^ b) n := by
  refine bits_ext W (Nat.xor_lt_two_pow (rotL_lt _ _ _) (rotL_lt _ _ _)) (rotL_lt _ _ _) fun i hi => ?_
  rw [Nat.testBit_xor, rotL_bit W hW _ _ i hi, rotL_bit W hW _ _ i hi, rotL_bit W hW _ _ i hi, Nat.testBit_xor]
theorem rotL_and (W : Nat) (hW : 0 < W) (a b : Nat) (n : Int) : rotL W a n &&& rotL W b n = rotL W (a &&& b) n := by
  refine bits_ext W (Nat.and_lt_two_pow _ (rotL_lt _ _ _)) (rotL_lt _ _ _) fun i hi => ?_
  rw [Nat.testBit_and, rotL_bit W hW _ _ i hi, rotL_bit W hW _ _ i hi, rotL_bit W hW _ _ i hi, Nat.testBit_and]
theorem rotL_w32 (a : Nat) (ha : a < 2 ^ 32) : rotL 32 a 32 = a := rotL_width 32 (by decide) a ha
theorem rotL_w64 (a : Nat) (ha : a < 2 ^ 64) : rotL 64 a 64 = a := rotL_width 64 (by decide) a ha
theorem rot_one : rotL 32 1 1 = 2 := by decide
set_option maxRecDepth 100000 in
set_option maxHeartbeats 1600000 in
theorem BitsTurns_walk (W : World) (a l b c : Nat) (ha : a < 4294967296) (hl : l < 18446744073709551616) (hb : b < 4294967296) (hc : c < 18446744073709551616) (n : Int) (hn : n ≤ 9223372036854775807) (hn2 : -9223372036854775808 ≤ n)
    (kd vB vP vT : Value) (A : Option Addr) (m cm : Nat) (hm : m ≤ 140737488351232) :
    Calls Try.prog 3 #[.int .u32 a, .int .u64 l, .agg #[kd, .int .u32 b, .int .u64 c, .int .i64 n, .slice A m cm, vB, vP, vT]] W fun e w' => e = .returned (.bool true) ∧ Below W.heap.size W w' := by
  have HONE : Hid (∀ w : World, Calls Try.prog 15 #[.int .u32 1, .int .i64 1] w fun e w' => e = .returned (.int .u32 2) ∧ w = w') := Lib.hid (fun w => by
    have h := RotL32 w 1 (by decide) 1
    rw [rot_one] at h
    exact h)
  by_cases hbig : 9223372036854775807 - (m : Int) < n
  · have hg : decide (9223372036854775807 - (m : Int) < n) = true := by simpa using hbig
    go_enter Try.func3, Try.ntmps3
    go_wp2
    go_ret
    exact ⟨rfl, (Below.refl _ _).alloc (Nat.le_refl _) _⟩
  · have hg : decide (9223372036854775807 - (m : Int) < n) = false := by simpa using hbig
    obtain ⟨x1, hx1⟩ : ∃ x1 : Nat, x1 = rotL 32 a n := ⟨_, rfl⟩
    obtain ⟨x2, hx2⟩ : ∃ x2 : Nat, x2 = rotL 32 a (n + m) := ⟨_, rfl⟩
    obtain ⟨z1, hz1⟩ : ∃ z1 : Nat, z1 = rotL 32 b n := ⟨_, rfl⟩
    obtain ⟨s1, hs1⟩ : ∃ s1 : Nat, s1 = a ^^^ b := ⟨_, rfl⟩
    obtain ⟨q1, hq1⟩ : ∃ q1 : Nat, q1 = rotL 32 s1 n := ⟨_, rfl⟩
    have lx1 : x1 < 4294967296 := by rw [hx1]; exact rotL_lt 32 _ _
    have lz1 : z1 < 4294967296 := by rw [hz1]; exact rotL_lt 32 _ _
    have ls1 : s1 < 4294967296 := by rw [hs1]; exact Nat.xor_lt_two_pow (n := 32) ha hb
    have es1 : bits .xor .u32 (a : Int) (b : Int) = (s1 : Int) := by rw [bits_xor32 _ _ ha hb, hs1]
    have eq1 : bits .xor .u32 (x1 : Int) (z1 : Int) = (q1 : Int) := by rw [bits_xor32 _ _ lx1 lz1, hx1, hz1, rotL_xor 32 (by decide), hq1, hs1]
    have Cx1 : Hid (∀ w : World, Calls Try.prog 15 #[.int .u32 a, .int .i64 n] w fun e w' => e = .returned (.int .u32 x1) ∧ w = w') := Lib.hid (fun w => by
      have h := RotL32 w a ha n
      rw [← hx1] at h
      exact h)
    have Cx2 : Hid (∀ w : World, Calls Try.prog 15 #[.int .u32 x1, .int .i64 m] w fun e w' => e = .returned (.int .u32 x2) ∧ w = w') := Lib.hid (fun w => by
      have h := RotL32 w x1 lx1 m
      rw [hx1, rotL_rotL 32 (by decide), ← hx2, ← hx1] at h
      exact h)
    have Dx2 : Hid (∀ w : World, Calls Try.prog 15 #[.int .u32 a, .int .i64 (n + m)] w fun e w' => e = .returned (.int .u32 x2) ∧ w = w') := Lib.hid (fun w => by
      have h := RotL32 w a ha (n + m)
      rw [← hx2] at h
      exact h)
    have Ex1 : Hid (∀ w : World, Calls Try.prog 16 #[.int .u32 x1, .int .i64 n] w fun e w' => e = .returned (.int .u32 a) ∧ w = w') := Lib.hid (fun w => by
      have h := RotR32 w x1 lx1 n
      rw [hx1, rotR_rotL 32 (by decide) _ ha, ← hx1] at h
      exact h)
    have Fx1 : Hid (∀ w : World, Calls Try.prog 15 #[.int .u32 a, .int .i64 32] w fun e w' => e = .returned (.int .u32 a) ∧ w = w') := Lib.hid (fun w => by
      have h := RotL32 w a ha 32
      rw [rotL_w32 a ha] at h
      exact h)
    have Gz1 : Hid (∀ w : World, Calls Try.prog 15 #[.int .u32 b, .int .i64 n] w fun e w' => e = .returned (.int .u32 z1) ∧ w = w') := Lib.hid (fun w => by
      have h := RotL32 w b hb n
      rw [← hz1] at h
      exact h)
    have Gq1 : Hid (∀ w : World, Calls Try.prog 15 #[.int .u32 s1, .int .i64 n] w fun e w' => e = .returned (.int .u32 q1) ∧ w = w') := Lib.hid (fun w => by
      have h := RotL32 w s1 ls1 n
      rw [← hq1] at h
      exact h)
    clear hx1 hx2 hz1 hs1 hq1
    obtain ⟨y1, hy1⟩ : ∃ y1 : Nat, y1 = rotL 64 l n := ⟨_, rfl⟩
    obtain ⟨y2, hy2⟩ : ∃ y2 : Nat, y2 = rotL 64 l (n + m) := ⟨_, rfl⟩
    obtain ⟨t1, ht1⟩ : ∃ t1 : Nat, t1 = rotL 64 c n := ⟨_, rfl⟩
    obtain ⟨s2, hs2⟩ : ∃ s2 : Nat, s2 = l &&& c := ⟨_, rfl⟩
    obtain ⟨q2, hq2⟩ : ∃ q2 : Nat, q2 = rotL 64 s2 n := ⟨_, rfl⟩
    have ly1 : y1 < 18446744073709551616 := by rw [hy1]; exact rotL_lt 64 _ _
    have lt1 : t1 < 18446744073709551616 := by rw [ht1]; exact rotL_lt 64 _ _
    have ls2 : s2 < 18446744073709551616 := by rw [hs2]; exact Nat.and_lt_two_pow _ (n := 64)  hc
    have es2 : bits .and .u64 (l : Int) (c : Int) = (s2 : Int) := by rw [bits_and64 _ _ hl hc, hs2]
    have eq2 : bits .and .u64 (y1 : Int) (t1 : Int) = (q2 : Int) := by rw [bits_and64 _ _ ly1 lt1, hy1, ht1, rotL_and 64 (by decide), hq2, hs2]
    have Cy1 : Hid (∀ w : World, Calls Try.prog 17 #[.int .u64 l, .int .i64 n] w fun e w' => e = .returned (.int .u64 y1) ∧ w = w') := Lib.hid (fun w => by
      have h := RotL64 w l hl n
      rw [← hy1] at h
      exact h)
    have Cy2 : Hid (∀ w : World, Calls Try.prog 17 #[.int .u64 y1, .int .i64 m] w fun e w' => e = .returned (.int .u64 y2) ∧ w = w') := Lib.hid (fun w => by
      have h := RotL64 w y1 ly1 m
      rw [hy1, rotL_rotL 64 (by decide), ← hy2, ← hy1] at h
      exact h)
    have Dy2 : Hid (∀ w : World, Calls Try.prog 17 #[.int .u64 l, .int .i64 (n + m)] w fun e w' => e = .returned (.int .u64 y2) ∧ w = w') := Lib.hid (fun w => by
      have h := RotL64 w l hl (n + m)
      rw [← hy2] at h
      exact h)
    have Ey1 : Hid (∀ w : World, Calls Try.prog 18 #[.int .u64 y1, .int .i64 n] w fun e w' => e = .returned (.int .u64 l) ∧ w = w') := Lib.hid (fun w => by
      have h := RotR64 w y1 ly1 n
      rw [hy1, rotR_rotL 64 (by decide) _ hl, ← hy1] at h
      exact h)
    have Fy1 : Hid (∀ w : World, Calls Try.prog 17 #[.int .u64 l, .int .i64 64] w fun e w' => e = .returned (.int .u64 l) ∧ w = w') := Lib.hid (fun w => by
      have h := RotL64 w l hl 64
      rw [rotL_w64 l hl] at h
      exact h)
    have Gt1 : Hid (∀ w : World, Calls Try.prog 17 #[.int .u64 c, .int .i64 n] w fun e w' => e = .returned (.int .u64 t1) ∧ w = w') := Lib.hid (fun w => by
      have h := RotL64 w c hc n
      rw [← ht1] at h
      exact h)
    have Gq2 : Hid (∀ w : World, Calls Try.prog 17 #[.int .u64 s2, .int .i64 n] w fun e w' => e = .returned (.int .u64 q2) ∧ w = w') := Lib.hid (fun w => by
      have h := RotL64 w s2 ls2 n
      rw [← hq2] at h
      exact h)
    clear hy1 hy2 ht1 hs2 hq2
    go_enter Try.func3, Try.ntmps3
    go_wp2_with fail
    refine (HONE.out _).mono ?_
    rintro e w' ⟨rfl, rfl⟩
    go_wp2_with fail
    refine (Cx1.out _).mono ?_
    rintro e w' ⟨rfl, rfl⟩
    go_wp2_with fail
    refine (Cx2.out _).mono ?_
    rintro e w' ⟨rfl, rfl⟩
    go_wp2_with fail
    refine (Dx2.out _).mono ?_
    rintro e w' ⟨rfl, rfl⟩
    go_wp2_with fail
    refine (Cx1.out _).mono ?_
    rintro e w' ⟨rfl, rfl⟩
    go_wp2_with fail
    refine (Ex1.out _).mono ?_
    rintro e w' ⟨rfl, rfl⟩
    go_wp2_with fail
    refine (Fx1.out _).mono ?_
    rintro e w' ⟨rfl, rfl⟩
    go_wp2_with fail
    refine (Cy1.out _).mono ?_
    rintro e w' ⟨rfl, rfl⟩
    go_wp2_with fail
    refine (Cy2.out _).mono ?_
    rintro e w' ⟨rfl, rfl⟩
    go_wp2_with fail
    refine (Dy2.out _).mono ?_
    rintro e w' ⟨rfl, rfl⟩
    go_wp2_with fail
    refine (Cy1.out _).mono ?_
    rintro e w' ⟨rfl, rfl⟩
    go_wp2_with fail
    refine (Ey1.out _).mono ?_
    rintro e w' ⟨rfl, rfl⟩
    go_wp2_with fail
    refine (Fy1.out _).mono ?_
    rintro e w' ⟨rfl, rfl⟩
    go_wp2_with fail
    go_quiet ((first | (go_at_call 15; first | with_reducible exact quiet_id (Cx1.out _) | with_reducible exact quiet_id (Gz1.out _) | with_reducible exact quiet_id (Gq1.out _)) | (go_at_call 17; first | with_reducible exact quiet_id (Cy1.out _) | with_reducible exact quiet_id (Gt1.out _) | with_reducible exact quiet_id (Gq2.out _))))
    go_wp2
    go_ret
    exact ⟨rfl, below_drewN ((Below.refl _ _).alloc (Nat.le_refl _) _) _⟩

end Go.Proofs.Ytdooabbeolfgfaa
