import Derived.Test.YtpjmbhhfpoamnaaFrDec
import Derived.Test.YtpjmbhhfpoamnaaSame13
set_option linter.unusedVariables false
set_option linter.unusedSimpArgs false
namespace Go.Proofs.Ytpjmbhhfpoamnaa
open Go.RowKit
set_option maxRecDepth 100000 in
set_option maxHeartbeats 1600000 in
theorem FrameLong_walk (w : World) (more : Int) (c : Nat) (hc : c < 256) :
    Calls Try.prog 11 #[.int .i64 more, .int .u8 c] w fun e w' => e = .returned (.bool true) ∧ Below w.heap.size w w' := by
  by_cases h0 : more < -40
  · have i0 : more < -40 := h0
    go_enter Try.func11, Try.ntmps11
    go_wp2
    go_ret
    exact ⟨rfl, Below.refl _ _⟩
  have d0 : decide (more < -40) = false := decide_eq_false h0
  by_cases h1 : 40 < more
  · clear h0
    go_enter Try.func11, Try.ntmps11
    go_wp2
    go_ret
    exact ⟨rfl, Below.refl _ _⟩
  have d1 : decide ((40 : Int) < more) = false := decide_eq_false h1
  obtain ⟨N, hN⟩ : ∃ N : Nat, (262144 : Int) + more = N := ⟨(262144 + more).toNat, by omega⟩
  have hN1 : 0 < N ∧ N ≤ 262184 := by omega
  go_enter Try.func11, Try.ntmps11
  go_wp2_with (first | (at_builtin; refine Stopped.out ?_) | (at_make; refine Stopped.out ?_))
  refine Stopped.mk (mk_full EB rfl rfl _ _ rfl w.heap.size N rfl rfl rfl rfl (by omega) (by simp only [maxLen]; omega) (Nat.le_refl _) ?_)
  intro w1 hown hg
  have hb1 := below_grown hg
  have eR : List.replicate N (Value.int .u8 0) = (List.replicate N (0 : UInt8)).map by8 := by simp [by8]
  rw [eR] at hown
  have o2 := (hown.stored (N - 1) (.int .u8 (c : Int))).1
  have e8 : Value.int .u8 (c : Int) = by8 (UInt8.ofNat c) := by simp [by8]; omega
  have hb2 := hb1.setCell (p := ⟨w.heap.size, N - 1, none⟩) (Nat.le_refl _) (.int .u8 (c : Int))
  rw [e8, ← List.map_set, ← e8] at o2
  obtain ⟨v0, hc0⟩ := own_cell hown (N - 1) (by omega)
  have hf0 := hown.frozenAt (N - 1)
  obtain ⟨pl, hpl⟩ : ∃ pl, pl = (List.replicate N (0 : UInt8)).set (N - 1) (UInt8.ofNat c) := ⟨_, rfl⟩
  have hpn : pl.length = N := by rw [hpl]; simp
  rw [← hpl] at o2
  obtain ⟨w2, hw2⟩ : ∃ w2, w2 = w1.setCell ⟨w.heap.size, N - 1, none⟩ (.int .u8 (c : Int)) := ⟨_, rfl⟩
  rw [← hw2] at o2 hb2
  have i1 : (0 : Int) ≤ (N : Int) - 1 := by omega
  have i2 : (N : Int) - 1 < (N : Int) := by omega
  have i3 : ((N : Int) - 1).toNat = N - 1 := by omega
  have HP := Lib.hid (And.intro o2 (And.intro hpn hb2))
  clear hown hg hb1 eR e8 hpl o2 hpn hb2
  go_wp2_with (first | (at_builtin; refine Stopped.out ?_) | (at_make; refine Stopped.out ?_))
  rw [← hw2]
  clear hw2 hc0 hf0
  by_cases h2 : 0 < more
  · refine (Encode_no _ 1 (by omega)).mono ?_
    rintro e w3 ⟨rfl, rfl⟩
    have j0 : IntKind.u8.wrap ((N : Int) / 16777216) = 0 := by rw [IntKind.wrap_u8]; omega
    have j1 : IntKind.u8.wrap ((N : Int) / 65536) = 4 := by rw [IntKind.wrap_u8]; omega
    have j2 : IntKind.u8.wrap ((N : Int) / 256) = 0 := by rw [IntKind.wrap_u8]; omega
    have j3 : IntKind.u8.wrap (N : Int) = more := by rw [IntKind.wrap_u8]; omega
    obtain ⟨M, rfl⟩ : ∃ M : Nat, more = M := ⟨more.toNat, by omega⟩
    have e6 : [Value.int .u8 165, .int .u8 1, .int .u8 0, .int .u8 4, .int .u8 0, .int .u8 (M : Int)] = ([0xa5, 1, 0, 4, 0, UInt8.ofNat M] : List UInt8).map by8 := by simp [by8]; omega
    have sh : Sl (w2.alloc (.cells #[.int .u8 165, .int .u8 1, .int .u8 0, .int .u8 4, .int .u8 0, .int .u8 (M : Int)] 5)) 1 (some ⟨w2.heap.size, 0, none⟩) 6 6 (([0xa5, 1, 0, 4, 0, UInt8.ofNat M] : List UInt8).map by8) := by
      rw [← e6]
      exact Sl.fresh w2 [.int .u8 165, .int .u8 1, .int .u8 0, .int .u8 4, .int .u8 0, .int .u8 (M : Int)] 5 6 1 rfl (by decide)
    have HD := Lib.hid (Decode_any _ sh 0 (by decide))
    have HR : Hid (wholeF [0xa5, 1, 0, 4, 0, UInt8.ofNat M] 0 = (0, [], 0, 2)) := Lib.hid (by
      unfold wholeF
      rw [if_neg (by simp)]
      have : wholeD ([0xa5, 1, 0, 4, 0, UInt8.ofNat M].drop (0 : Int).toNat) = (0, [], 0, 2) := by
        unfold wholeD
        rw [if_neg (by simp), if_neg (by simp), if_neg (by simp), if_pos]
        simp [be]
        omega
      rw [this]
      rfl)
    rw [HR.out] at HD
    have HB := Lib.hid (bthen HP.out.2.2 ((Below.refl w2.heap.size w2).alloc (Nat.le_refl _) (.cells #[.int .u8 165, .int .u8 1, .int .u8 0, .int .u8 4, .int .u8 0, .int .u8 (M : Int)] 5)))
    clear sh e6 HR
    go_wp2_with (first | (at_builtin; refine Stopped.out ?_) | (at_make; refine Stopped.out ?_))
    refine HD.out.mono ?_
    rintro e w4 ⟨g, rfl, o4, hb4⟩
    have HB4 := Lib.hid (bthen HB.out hb4)
    clear o4 hb4 HB HD
    try simp only
    go_wp2
    go_ret
    exact ⟨rfl, bthen HB4.out ((Below.refl _ _).alloc (Nat.le_refl _) _)⟩
  · refine (Encode_yes _ 1 (own_sl' HP.out.1).2.1 (by omega)).mono ?_
    rintro e w3 ⟨g, rfl, o3, hb3⟩
    have HE := Lib.hid (And.intro o3 (bthen HP.out.2.2 hb3))
    have hb3' := hb3
    clear o3 hb3
    have HR : Hid (wholeF (frB 1 pl) 0 = (1, pl, (N : Int) + 10, 0)) := Lib.hid (by
      have := wholeD_frame 1 pl [] (by rw [HP.out.2.1]; omega)
      unfold wholeF
      rw [if_neg (by omega), show ((0 : Int)).toNat = 0 by rfl, List.drop_zero]
      rw [List.append_nil] at this
      rw [this, HP.out.2.1]
      simp)
    have hD := Decode_any _ (own_sl' HE.out.1).2.1 0 (by omega)
    rw [HR.out] at hD
    have HD := Lib.hid hD
    clear hD
    go_wp2_with (first | (at_builtin; refine Stopped.out ?_) | (at_make; refine Stopped.out ?_))
    refine HD.out.mono ?_
    rintro e w4 ⟨g4, rfl, o4, hb4⟩
    simp only at o4 ⊢
    rw [HP.out.2.1] at o4 ⊢
    have hb5 : Below w4.heap.size w4 (w4.alloc (.cells #[.int .u8 1, .slice (some ⟨g4, 0, none⟩) N N] 70)) := (Below.refl _ _).alloc (Nat.le_refl _) _
    have hS := same13 _ (own_sl' (own_below o4 hb5)).2.1 (own_sl' (own_below HP.out.1 (bthen hb3' (bthen hb4 hb5)))).2.1
    rw [decide_eq_true rfl] at hS
    have HS := Lib.hid hS
    clear hS
    have HB5 := Lib.hid (bthen HE.out.2 (bthen hb4 hb5))
    clear o4 hb4 hb5 HE HD HP
    have k1 : (((N : Int) + 10) == ((N : Int) + 10)) = true := by simp
    go_wp2_with (first | (at_builtin; refine Stopped.out ?_) | (at_make; refine Stopped.out ?_))
    refine HS.out.mono ?_
    rintro e w6 ⟨rfl, hd⟩
    have HB6 := Lib.hid (bthen HB5.out hd.below)
    clear hd HS HB5
    go_wp2
    go_ret
    exact ⟨rfl, HB6.out⟩
end Go.Proofs.Ytpjmbhhfpoamnaa
