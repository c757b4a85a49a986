import Derived.Test.YtpjmbhhfpoamnaaFlCrash0
set_option linter.unusedVariables false
set_option linter.unusedSimpArgs false
namespace Go.Proofs.Ytpjmbhhfpoamnaa
open Go.RowKit
set_option maxRecDepth 100000 in
set_option maxHeartbeats 4000000 in
theorem FlashCrashes_A (W : World) {B : Option Addr} {n c a k l : Nat} {b : List UInt8} (hb : Sl W 1 B n c (b.map by8))
    (i1 : 1 ≤ a) (i2 : a ≤ 300) (i3 : 1 ≤ l) (i4 : l ≤ 300) (i5 : 0 ≤ k) (i6 : k ≤ 1048576) (i7 : n ≤ 1000) (hkn : k < n) :
    Calls Try.prog 6 #[.int .i64 a, .int .i64 k, .int .i64 l, .slice B n c] W fun e w' => e = .returned (.bool true) ∧ Below W.heap.size W w' := by
  have n1 := hb.le; have n2 := hb.max
  have hbl : b.length = n := by simpa using hb.len
  have HI := Lib.hid (show 1 ≤ a ∧ a ≤ 300 ∧ 1 ≤ l ∧ l ≤ 300 ∧ k ≤ 1048576 ∧ n ≤ 1000 ∧ b.length = n by omega)
  have d1 : decide ((a : Int) < 1) = false := decide_eq_false (by omega)
  have d2 : decide ((300 : Int) < (a : Int)) = false := decide_eq_false (by omega)
  have d3 : decide ((l : Int) < 1) = false := decide_eq_false (by omega)
  have d4 : decide ((300 : Int) < (l : Int)) = false := decide_eq_false (by omega)
  have d5 : decide ((k : Int) < 0) = false := decide_eq_false (by omega)
  have d6 : decide ((1048576 : Int) < (k : Int)) = false := decide_eq_false (by omega)
  have d7 : decide ((1000 : Int) < (n : Int)) = false := decide_eq_false (by omega)
  obtain ⟨bk, hbk⟩ : ∃ bk, bk = b.take k := ⟨_, rfl⟩
  have HB := Lib.hid (show bk = b.take k ∧ bk.length ≤ 1000 ∧ Sl W 1 B k c (bk.map by8) by
    refine ⟨hbk, by rw [hbk]; simp; omega, ?_⟩
    rw [hbk]; exact hb.preB (by omega))
  clear hbl hbk i1 i2 i3 i4 i5 i6 i7
  go_enter Try.func6, Try.ntmps6
  go_wp2_with (first | (at_builtin; refine Stopped.out ?_) | (at_make; refine Stopped.out ?_))
  refine (flash_New _ 1048576).mono ?_
  rintro e w1 ⟨G, rfl, f1, hb1, hG⟩
  have F1 : FlW W w1 W.heap.size ⟨1048576, [], [], [], 0, 0, false⟩ := ⟨⟨G, by rw [show capF 1048576 = 1048576 by unfold capF; omega] at f1; exact f1, hG⟩, hb1⟩
  clear f1 hb1 hG
  obtain ⟨p, hp⟩ : ∃ p, p = W.heap.size := ⟨_, rfl⟩
  rw [← hp] at F1 ⊢
  clear hp
  go_wp2_with (first | (at_builtin; refine Stopped.out ?_) | (at_make; refine Stopped.out ?_))
  refine (F1.step (fun G hf _ => flash_Arm_yes _ hf a k (by have := HI.out; omega) (by have := HI.out; omega) (by show (0 : Nat) < 64; omega))).mono ?_
  rintro e w2 ⟨rfl, F2⟩
  clear F1
  go_wp2_with (first | (at_builtin; refine Stopped.out ?_) | (at_make; refine Stopped.out ?_))
  refine (F2.step (fun G hf _ => flash_Arm_yes _ hf l 0 (by have := HI.out; omega) (by omega) (by show (1 : Nat) < 64; omega))).mono ?_
  rintro e w3 ⟨rfl, F3⟩
  have HF := Lib.hid F3
  clear F2 F3
  clear d1 d2 d3 d4 d5 d6 d7
  go_wp2_with (first | (at_builtin; refine Stopped.out ?_) | (at_make; refine Stopped.out ?_))
  go_loopw [10] (fun i wr => ∃ (j : Nat) (s : FSt), 1 ≤ j ∧ j ≤ a ∧ i = .int .i64 j ∧ FlW W wr p s ∧ s.size = 1048576 ∧ s.b0 = [] ∧ s.b1.length = j - 1 ∧ s.armed = [(a, k), (l, 0)] ∧ s.count = j - 1 ∧ s.writes = j - 1 ∧ s.down = false) (fun i _ => 400 - (intOf i).toNat)
  case atStart => exact ⟨1, _, by omega, by have := HI.out; omega, rfl, HF.out, rfl, rfl, rfl, rfl, rfl, rfl, rfl⟩
  case round =>
    clear HF
    obtain ⟨j, s, hj1, hja, rfl, F, e1, e2, e3, e4, e5, e6, e7⟩ := hrel
    have hok : FOk s := ⟨by omega, by rw [e2]; simp, by have := HI.out; omega, by have := HI.out; omega, by have := HI.out; omega, by rw [e4]; simp, by rw [e4]; intro c hc; simp at hc; have := HI.out; rcases hc with rfl | rfl <;> simp <;> omega⟩
    have HO := Lib.hid hok
    have HE := Lib.hid (And.intro (And.intro e1 (And.intro e2 (And.intro e3 (And.intro e4 (And.intro e5 (And.intro e6 e7)))))) (And.intro hj1 hja))
    clear hok e1 e2 e3 e4 e5 e6 e7
    have hj300 : j ≤ 300 := by have := HI.out; omega
    by_cases hlt : j < a
    · have i1 : (j : Int) < (a : Int) := by omega
      have hst := strike_no HE.out.1.2.2.2.1 (by simp only; have := HE.out.1.2.2.2.2.1; have := HE.out.2; omega)
      have HST := Lib.hid hst
      clear hst
      obtain ⟨Gx, fx, _⟩ := F.out
      go_wp2_with (first | (at_builtin; refine Stopped.out ?_) | (at_make; refine Stopped.out ?_))
      refine (flash_Append_no _ fx 2 (by unfold refusedF; simp) B n c).mono ?_
      rintro e w4 ⟨rfl, rfl⟩
      clear fx
      have hconv : IntKind.u8.wrap (j : Int) = ((j % 256 : Nat) : Int) := by rw [IntKind.wrap_u8]; omega
      go_wp2_with (first | (at_builtin; refine Stopped.out ?_) | (at_make; refine Stopped.out ?_))
      refine (F.stepAt ((Below.refl _ wr).alloc (Nat.le_refl _) (.cells #[.int .u8 ((j : Int) % 256)] 5)) (fun G hf hG => flash_Append_any1 _ hf HO.out HE.out.1.2.2.2.2.2.2 (one_u8 wr j) (fun ad e _ hx => by obtain rfl := Option.some.inj e; have := (hG _ hx).2; simp at this) (by have := HE.out.1.1; have := HE.out.1.2.2.1; omega))).mono ?_
      rintro e w5 ⟨rfl, F5⟩
      rw [HST.out.1, HST.out.2.1] at F5
      rw [HST.out.2.1, if_neg (by simp)]
      rw [if_neg (by simp)] at F5
      clear F hconv
      go_wp2_with (first | (at_builtin; refine Stopped.out ?_) | (at_make; refine Stopped.out ?_))
      obtain ⟨Gx, fx, _⟩ := F5.out
      refine (flash_Down _ fx).mono ?_
      rintro e w6 ⟨rfl, rfl⟩
      have hdn : (addB { s with writes := s.writes + 1, count := s.count + 1 } 1 [UInt8.ofNat j]).down = false := HE.out.1.2.2.2.2.2.2
      rw [hdn]
      have HF := Lib.hid F5
      clear F5 fx hdn
      go_wp2
      first | go_roundw | refine ⟨?rel, ?measure⟩
      case rel => exact ⟨j + 1, _, by omega, by omega, by go_num, HF.out, HE.out.1.1, HE.out.1.2.1, by simp [addB, HE.out.1.2.2.1]; omega, HE.out.1.2.2.2.1, by simp [addB, HE.out.1.2.2.2.2.1]; omega, by simp [addB, HE.out.1.2.2.2.2.2.1]; omega, HE.out.1.2.2.2.2.2.2⟩
      case measure => simp [intOf]; omega
    · have HJ := Lib.hid (show j = a by omega)
      have hst := strike_yes HE.out.1.2.2.2.1 (by simp only; have := HE.out.1.2.2.2.2.1; have := HE.out.2; have := HJ.out; omega)
      have HST := Lib.hid hst
      clear hst
      have hbw := hb.below F.below
      go_wp2_with (first | (at_builtin; refine Stopped.out ?_) | (at_make; refine Stopped.out ?_))
      refine Stopped.mk (ap_own EF rfl (.tmp 80) (.tmp 81) rfl rfl (World.ownsRow_lit (base := wr.heap.size) _ #[] 0 (by simp) (by decide) rfl) rfl (hbw.alloc _) (u8_one _) (by simp only [maxLen]; have := HI.out; omega) (by have := HI.out; omega) (by simp) ?_)
      intro v4 w4 o4 hg4 _
      have hb4 : Below wr.heap.size wr w4 := ((Below.refl _ wr).alloc (Nat.le_refl _) _).grown hg4 (by simp) (fun k hk => (Option.some.inj hk) ▸ Nat.le_refl _)
      rw [List.nil_append, Nat.zero_add] at o4
      obtain ⟨A4, c4, rfl, s4, hA4⟩ := own_sl o4
      clear o4 hg4 hbw
      go_wp2_with (first | (at_builtin; refine Stopped.out ?_) | (at_make; refine Stopped.out ?_))
      refine (F.stepAt hb4 (fun G hf hG => flash_Append_any0 _ hf HO.out HE.out.1.2.2.2.2.2.2 s4 (fun ad e _ hx => by have h1 := (hG _ hx).2; have h2 := (hA4 ad e).1; omega) (by rw [HE.out.1.1, HE.out.1.2.1]; simp; have := HI.out; omega))).mono ?_
      rintro e w5 ⟨rfl, F5⟩
      rw [HST.out.1, HST.out.2.1, HST.out.2.2, if_pos rfl] at F5
      rw [HST.out.2.1, if_pos rfl]
      clear F hb4 s4 hA4
      have HS5 : Hid (∃ s5 : FSt, FlW W w5 p s5 ∧ s5.size = 1048576 ∧ s5.b0 = bk ∧ s5.b1.length = a - 1 ∧ s5.armed = [(l, 0)] ∧ s5.count = 0 ∧ s5.writes = a ∧ s5.down = true) :=
        Lib.hid ⟨_, F5, HE.out.1.1, by simp [addB, HE.out.1.2.1, HB.out.1], by simp [addB, HE.out.1.2.2.1, HJ.out], rfl, rfl, by simp [addB, HE.out.1.2.2.2.2.2.1]; have := HJ.out; have := HI.out; omega, rfl⟩
      obtain ⟨s5, F5', a1, a2, a3, a4, a5, a6, a7⟩ := HS5.out
      clear F5 HS5 HST HE HO
      have HA5 := Lib.hid (And.intro (And.intro a1 a2) (And.intro a3 (And.intro a4 (And.intro a5 (And.intro a6 a7)))))
      clear a1 a2 a3 a4 a5 a6 a7
      go_wp2_with (first | (at_builtin; refine Stopped.out ?_) | (at_make; refine Stopped.out ?_))
      obtain ⟨Gx, fx, _⟩ := F5'.out
      refine (flash_Down _ fx).mono ?_
      rintro e w6 ⟨rfl, rfl⟩
      rw [HA5.out.2.2.2.2.2]
      go_wp2_with (first | (at_builtin; refine Stopped.out ?_) | (at_make; refine Stopped.out ?_))
      refine (flash_Writes _ fx).mono ?_
      rintro e w6 ⟨rfl, rfl⟩
      rw [HA5.out.2.2.2.2.1]
      have HF5 := Lib.hid F5'
      have HFl := Lib.hid (flash_Files _ fx (by rw [HA5.out.1.2]; have := HB.out.2.1; omega) (by rw [HA5.out.2.1]; have := HI.out; omega))
      clear fx F5'
      have i9 : (k : Int) < (n : Int) := by omega
      have iq0 : (0 : Int) ≤ (k : Int) := Int.natCast_nonneg _
      have iq1 : (k : Int) ≤ (c : Int) := by omega
      go_wp2_with (first | (at_builtin; refine Stopped.out ?_) | (at_make; refine Stopped.out ?_))
      refine HFl.out.mono ?_
      rintro e w7 ⟨A7, B7, rfl, o7, q7, _, hb7⟩
      have HS7 := Lib.hid (own_sl' o7).2.1
      have F7 := HF5.out.then_ hb7
      have j1 : ((s5.b1.length : Int) != (a : Int) - 1) = false := by have := HA5.out.2.1; have := HI.out; simp; omega
      obtain ⟨q5, hq5⟩ : ∃ q, q = s5.b0.length := ⟨_, rfl⟩
      obtain ⟨q6, hq6⟩ : ∃ q, q = s5.b1.length := ⟨_, rfl⟩
      rw [← hq5] at HS7
      rw [← hq6] at j1
      rw [← hq5, ← hq6]
      clear o7 q7 hb7 hq5 hq6 HFl
      go_wp2_with (first | (at_builtin; refine Stopped.out ?_) | (at_make; refine Stopped.out ?_))
      refine (same12 _ HS7.out (HB.out.2.2.below F7.below)).mono ?_
      rintro e w8 ⟨rfl, hd⟩
      rw [decide_eq_true (show s5.b0 = bk from HA5.out.1.2)]
      have F8 := F7.then_ hd.below
      clear F7 hd HS7
      go_wp2_with (first | (at_builtin; refine Stopped.out ?_) | (at_make; refine Stopped.out ?_))
      refine (F8.step (fun G hf _ => flash_Restart _ hf)).mono ?_
      rintro e w9 ⟨rfl, F9⟩
      rw [HA5.out.2.2.2.2.2, if_pos rfl]
      have HS9 : Hid (∃ s : FSt, FlW W w9 p s ∧ s.size = 1048576 ∧ s.b0 = bk ∧ s.b1.length = a - 1 ∧ s.armed = [(l, 0)] ∧ s.count = 0 ∧ s.writes = a ∧ s.down = false) := Lib.hid ⟨_, F9, HA5.out.1.1, HA5.out.1.2, HA5.out.2.1, HA5.out.2.2.1, HA5.out.2.2.2.1, HA5.out.2.2.2.2.1, rfl⟩
      clear F8 F9 HA5 HF5 j1
      go_wp2_with (first | (at_builtin; refine Stopped.out ?_) | (at_make; refine Stopped.out ?_))
      go_loopw [14] (fun i wr => ∃ (j : Nat) (s : FSt), 1 ≤ j ∧ j ≤ l ∧ i = .int .i64 j ∧ FlW W wr p s ∧ s.size = 1048576 ∧ s.b0 = bk ∧ s.b1.length = a - 1 ∧ s.armed = [(l, 0)] ∧ s.count = j - 1 ∧ s.writes = a + (j - 1) ∧ s.down = false) (fun i _ => 400 - (intOf i).toNat)
      case atStart =>
        obtain ⟨s, h1, h2, h3, h4, h5, h6, h7, h8⟩ := HS9.out
        exact ⟨1, s, by omega, by have := HI.out; omega, rfl, h1, h2, h3, h4, h5, h6, h7, h8⟩
      case round =>
        clear HS9
        obtain ⟨j, s, hj1, hja, rfl, F, e1, e2, e3, e4, e5, e6, e7⟩ := hrel
        have hok : FOk s := ⟨by omega, by rw [e2, e1]; have := HB.out.2.1; omega, by have := HI.out; omega, by have := HI.out; omega, by have := HI.out; omega, by rw [e4]; simp, by rw [e4]; intro c hc; simp at hc; have := HI.out; rw [hc]; simp; omega⟩
        have HO := Lib.hid hok
        have HE := Lib.hid (And.intro (And.intro e1 (And.intro e2 (And.intro e3 (And.intro e4 (And.intro e5 (And.intro e6 e7)))))) (And.intro hj1 hja))
        clear hok e1 e2 e3 e4 e5 e6 e7
        have hj300 : j ≤ 300 := by have := HI.out; omega
        by_cases hlt : j < l
        · have i1 : (j : Int) < (l : Int) := by omega
          have hst := strike_no HE.out.1.2.2.2.1 (by simp only; have := HE.out.1.2.2.2.2.1; have := HE.out.2; omega)
          have HST := Lib.hid hst
          clear hst
          go_wp2_with (first | (at_builtin; refine Stopped.out ?_) | (at_make; refine Stopped.out ?_))
          refine (F.step (fun G hf hG => flash_Append_any1 _ hf HO.out HE.out.1.2.2.2.2.2.2 (l := []) (Sl.nilS _ 1) (fun ad e => by cases e) (by have := HE.out.1.1; have := HE.out.1.2.2.1; have := HI.out; omega))).mono ?_
          rintro e w5 ⟨rfl, F5⟩
          rw [HST.out.1, HST.out.2.1, if_neg (by simp)] at F5
          rw [HST.out.2.1, if_neg (by simp)]
          have HF := Lib.hid F5
          clear F F5
          go_wp2
          first | go_roundw | refine ⟨?rel, ?measure⟩
          case rel => exact ⟨j + 1, _, by omega, by omega, by go_num, HF.out, HE.out.1.1, HE.out.1.2.1, by simp [addB, HE.out.1.2.2.1], HE.out.1.2.2.2.1, by simp [addB, HE.out.1.2.2.2.2.1]; omega, by simp [addB, HE.out.1.2.2.2.2.2.1]; omega, HE.out.1.2.2.2.2.2.2⟩
          case measure => simp [intOf]; omega
        · have HJ := Lib.hid (show j = l by omega)
          have hst := strike_yes HE.out.1.2.2.2.1 (by simp only; have := HE.out.1.2.2.2.2.1; have := HE.out.2; have := HJ.out; omega)
          have hera : eraL s s.b0 = bk := by
            have h0 := HE.out.1.2.1
            rw [eraL, hst.2.1, hst.2.2, if_pos rfl, ← h0]
            split
            · rename_i h1; exact (List.eq_nil_of_length_eq_zero (Nat.le_zero.1 h1)).symm
            · rfl
          have HST := Lib.hid (And.intro hst hera)
          clear hst hera
          go_wp2_with (first | (at_builtin; refine Stopped.out ?_) | (at_make; refine Stopped.out ?_))
          refine (F.step (fun G hf hG => flash_Erase_any0 _ hf HO.out HE.out.1.2.2.2.2.2.2)).mono ?_
          rintro e w10 ⟨rfl, F10⟩
          rw [HST.out.2, HST.out.1.1] at F10
          rw [HST.out.1.2.1, if_pos rfl]
          clear F
          go_wp2_with (first | (at_builtin; refine Stopped.out ?_) | (at_make; refine Stopped.out ?_))
          obtain ⟨Gx, fx, _⟩ := F10.out
          have hl10 : (setB { s with writes := s.writes + 1, armed := [], count := 0, down := true } 0 (bk)).b0.length ≤ 140737488355328 := by simp [setB]; have := HB.out.2.1; omega
          have hl11 : (setB { s with writes := s.writes + 1, armed := [], count := 0, down := true } 0 (bk)).b1.length ≤ 140737488355328 := by simp [setB, HE.out.1.2.2.1]; have := HI.out; omega
          refine (flash_Files _ fx hl10 hl11).mono ?_
          rintro e w11 ⟨A11, B11, rfl, o11, q11, _, hb11⟩
          have F11 := F10.then_ hb11
          have s11 := (own_sl' o11).2.1
          have e11 : (setB { s with writes := s.writes + 1, armed := [], count := 0, down := true } 0 (bk)).b0 = bk := rfl
          rw [e11] at s11 ⊢
          obtain ⟨q7, hq7⟩ : ∃ q, q = (setB { s with writes := s.writes + 1, armed := [], count := 0, down := true } 0 (bk)).b1.length := ⟨_, rfl⟩
          rw [← hq7]
          have HS11 := Lib.hid s11
          clear F10 fx o11 q11 hb11 hl10 hl11 e11 s11 hq7
          go_wp2_with (first | (at_builtin; refine Stopped.out ?_) | (at_make; refine Stopped.out ?_))
          obtain ⟨Gx, fx, _⟩ := F11.out
          refine (flash_Writes _ fx).mono ?_
          rintro e w12 ⟨rfl, rfl⟩
          have hw12 : (setB { s with writes := s.writes + 1, armed := [], count := 0, down := true } 0 (bk)).writes = a + l := by simp [setB, HE.out.1.2.2.2.2.2.1]; have := HJ.out; have := HI.out; omega
          rw [hw12]
          have j2 : (((a + l : Nat) : Int) == (a : Int) + l) = true := by simp
          have hB11 := F11.below
          clear fx hw12 F11
          go_wp2_with (first | (at_builtin; refine Stopped.out ?_) | (at_make; refine Stopped.out ?_))
          refine (same12 _ HS11.out (HB.out.2.2.below hB11)).mono ?_
          rintro e w13 ⟨rfl, hd⟩
          rw [decide_eq_true (show bk = bk from rfl)]
          go_wp2
          go_ret
          exact ⟨by simp, bthen hB11 hd.below⟩
end Go.Proofs.Ytpjmbhhfpoamnaa
