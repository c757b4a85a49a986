import Derived.Test.YtpjmbhhfpoamnaaSurv0
import Derived.Test.YtpjmbhhfpoamnaaFlW
set_option linter.unusedVariables false
set_option linter.unusedSimpArgs false
namespace Go.Proofs.Ytpjmbhhfpoamnaa
open Go.RowKit
set_option maxRecDepth 100000 in
set_option maxHeartbeats 4000000 in
theorem FlashSurvives_walk (W : World) (z : Int) {A : Option Addr} {n c : Nat} {vs : List Value} {ss : List St12} (hs : Sts W A n c vs ss) :
    Calls Try.prog 7 #[.int .i64 z, .slice A n c] W fun e w' => e = .returned (.bool true) ∧ Below W.heap.size W w' := by
  have n1 := hs.sl.le; have n2 := hs.sl.max
  by_cases g1 : 400 < n
  · have i0 : (400 : Int) < (n : Int) := by omega
    go_enter Try.func7, Try.ntmps7
    go_wp2
    go_ret
    exact ⟨rfl, Below.refl _ _⟩
  have i0 : decide ((400 : Int) < (n : Int)) = false := decide_eq_false (by omega)
  have hn : n ≤ 400 := by omega
  clear g1
  have HLs := Lib.hid hs.len
  go_enter Try.func7, Try.ntmps7
  go_wp2_with (first | (at_builtin; refine Stopped.out ?_) | (at_make; refine Stopped.out ?_))
  refine (size12_any _ hs hn).mono ?_
  rintro e w1 ⟨r1, rfl, a1, a2, a3, hd1⟩
  by_cases g3 : 2097152 < r1
  · have i3 : (2097152 : Int) < (r1 : Int) := by omega
    go_wp2
    go_ret
    exact ⟨by simp, hd1.below⟩
  have i3 : decide ((2097152 : Int) < (r1 : Int)) = false := decide_eq_false (by omega)
  have HZ := Lib.hid (show size12 ss ≤ 2097152 from by rw [← a2 (by omega)]; omega)
  have hB2 := hd1.below
  clear a1 a2 g3 hd1
  go_wp2_with (first | (at_builtin; refine Stopped.out ?_) | (at_make; refine Stopped.out ?_))
  refine (flash_New _ z).mono ?_
  rintro e w3 ⟨G, rfl, f1, hb1, hG⟩
  have F1 : FlW W w3 w1.heap.size ⟨capF z, [], [], [], 0, 0, false⟩ := ⟨⟨G, f1, fun x hx => Nat.le_trans hB2.size (hG x hx)⟩, bthen hB2 hb1⟩
  clear f1 hb1 hG hB2
  obtain ⟨p, hp⟩ : ∃ p, p = w1.heap.size := ⟨_, rfl⟩
  rw [← hp] at F1
  rw [← hp]
  clear hp
  go_wp2_with (first | (at_builtin; refine Stopped.out ?_) | (at_make; refine Stopped.out ?_))
  refine (holds12 _).mono ?_
  rintro e w4 ⟨rfl, hb4⟩
  have HF := Lib.hid (F1.then_ hb4)
  clear F1 hb4
  clear i0 i3 a3
  go_wp2_with (first | (at_builtin; refine Stopped.out ?_) | (at_make; refine Stopped.out ?_))
  go_loopw [6] (fun i wr => ∃ (j : Nat) (s : FSt), j ≤ n ∧ i = .int .i64 j ∧ FlW W wr p s ∧ FOkN j s) (fun i _ => n - (intOf i).toNat)
  case atStart => exact ⟨0, _, Nat.zero_le _, rfl, HF.out, FOkN.new z⟩
  case round =>
    clear HF
    obtain ⟨j, s, hj, rfl, F, hok⟩ := hrel
    by_cases hlt : j < n
    · obtain ⟨b, off, rfl⟩ := hs.sl.form (by omega)
      have hjl : j < ss.length := by rw [HLs.out]; exact hlt
      obtain ⟨ba, bn, bc, b0, b1, b2, b3, b4, sbW, _, _⟩ := hs.get j hjl
      have c0 := cell_below b0 F.below
      have c1 := cell_below b1 F.below
      have c2 := cell_below b2 F.below
      have c3 := cell_below b3 F.below
      have c4 := cell_below b4 F.below
      have sb := sbW.below F.below
      clear b0 b1 b2 b3 b4
      have hbn : bn ≤ 2097152 := by have h1 := size12_get ss j hjl; have h2 := HZ.out; have h3 : ss[j].b.length = bn := by simpa using sb.len
                                    omega
      have k0 : (0 : Int) ≤ (j : Int) := Int.natCast_nonneg _
      have k1 : (j : Int) < (n : Int) := by omega
      obtain ⟨G1, hf0, hG0⟩ := F.out
      generalize ss[j] = t at c0 c1 c2 c3 c4 sb sbW
      have HSB := Lib.hid sbW
      clear sbW
      have HK := Lib.hid (And.intro (doesF_ok hok t) (And.intro (hok.ok (by omega)) (And.intro (And.intro (doesF_may s t 0 (by omega)) (doesF_may s t 1 (by omega))) (And.intro (doesF_struck s t) (doesF_restart s t)))))
      obtain ⟨r, hr⟩ : ∃ r, r = doesF s t := ⟨_, rfl⟩
      have hdt := fun w5 f5 hsb => does12 w5 (p := p) (G := G1) (s := s) f5 (hok.ok (by omega)) t (A := ba) (m := bn) (c := bc) hsb hbn
      rw [← hr] at hdt HK
      obtain ⟨dn, hdn⟩ : ∃ dn, dn = s.down := ⟨_, rfl⟩
      rw [← hdn] at HK
      have HT := Lib.hid hdt
      have HN := Lib.hid hdn
      have HO := Lib.hid hok
      clear hr hdt hdn
      have hbx : Below wr.heap.size wr (wr.alloc (.cells #[.int .i64 t.kd, .int .i64 t.bank, .slice ba bn bc, .int .i64 t.x, .int .i64 t.y] 53)) := (Below.refl _ _).alloc (Nat.le_refl _) _
      have hblk := heap_alloc_new wr (.cells #[.int .i64 t.kd, .int .i64 t.bank, .slice ba bn bc, .int .i64 t.x, .int .i64 t.y] 53)
      have HA := Lib.hid (And.intro (hf0.below hbx) (And.intro (sb.below hbx) (And.intro hblk (And.intro (bthen F.below hbx) (fun x hx => (And.intro (hG0 x hx) (hf0.lts x hx) : W.heap.size ≤ x ∧ x < wr.heap.size))))))
      obtain ⟨wx, hwx⟩ : ∃ wx, wx = wr.alloc (.cells #[.int .i64 t.kd, .int .i64 t.bank, .slice ba bn bc, .int .i64 t.x, .int .i64 t.y] 53) := ⟨_, rfl⟩
      obtain ⟨g, hg⟩ : ∃ g, g = wr.heap.size := ⟨_, rfl⟩
      have HX : Hid (Fl wx p G1 s ∧ Sl wx 1 ba bn bc (t.b.map by8) ∧ wx.heap[g]? = some (.cells #[.int .i64 t.kd, .int .i64 t.bank, .slice ba bn bc, .int .i64 t.x, .int .i64 t.y] 53 (0, 0)) ∧ Below W.heap.size W wx ∧ (∀ x ∈ G1, W.heap.size ≤ x ∧ x < g) ∧ g < wx.heap.size) := Lib.hid (by rw [hwx, hg]; exact ⟨HA.out.1, HA.out.2.1, HA.out.2.2.1, HA.out.2.2.2.1, HA.out.2.2.2.2, by simp⟩)
      clear hok sb hbx hblk HA hf0 hG0
      go_wp2_with (first | (at_builtin; refine Stopped.out ?_) | (at_make; refine Stopped.out ?_))
      rw [← hwx, ← hg]
      clear hwx hg c0 c1 c2 c3 c4 F
      refine (flash_Files _ HX.out.1 (by have h1 := HO.out.b0; have h2 := HO.out.size; omega) (by have h1 := HO.out.b1; have h2 := HO.out.size; omega)).mono ?_
      rintro e w5 ⟨A5, B5, rfl, o5, q5, _, hb5⟩
      have f5 := HX.out.1.below hb5
      have hgs : ∀ (w : World), Keep G1 w5 w → ∀ k v, wx.cell? ⟨g, k, none⟩ = some v → w.cell? ⟨g, k, none⟩ = some v := fun w hk k v h => hk.cell (cell_below h hb5) (fun hx => absurd (HX.out.2.2.2.2.1 _ hx).2 (Nat.lt_irrefl _))
      have HG := Lib.hid hgs
      have c0 := hgs w5 (Keep.refl _ _) 0 _ (box_cell HX.out.2.2.1 0 _ rfl)
      have c1 := hgs w5 (Keep.refl _ _) 1 _ (box_cell HX.out.2.2.1 1 _ rfl)
      have c2 := hgs w5 (Keep.refl _ _) 2 _ (box_cell HX.out.2.2.1 2 _ rfl)
      have c3 := hgs w5 (Keep.refl _ _) 3 _ (box_cell HX.out.2.2.1 3 _ rfl)
      have c4 := hgs w5 (Keep.refl _ _) 4 _ (box_cell HX.out.2.2.1 4 _ rfl)
      have HO5 := Lib.hid (And.intro o5 (And.intro q5 (And.intro hb5 f5)))
      have hdo := HT.out w5 f5 (HX.out.2.1.below hb5)
      have HD := Lib.hid hdo
      clear hgs o5 q5 hb5 hdo
      have f5' := HO5.out.2.2.2
      clear f5
      go_wp2_with (first | (at_builtin; refine Stopped.out ?_) | (at_make; refine Stopped.out ?_))
      refine (flash_Down _ f5').mono ?_
      rintro e w6 ⟨rfl, rfl⟩
      rw [← HN.out]
      go_wp2_with (first | (at_builtin; refine Stopped.out ?_) | (at_make; refine Stopped.out ?_))
      refine (flash_Writes _ f5').mono ?_
      rintro e w6 ⟨rfl, rfl⟩
      clear f5'
      go_wp2_with (first | (at_builtin; refine Stopped.out ?_) | (at_make; refine Stopped.out ?_))
      refine HD.out.mono ?_
      rintro e w6 ⟨rfl, hst⟩
      clear c0 c1 c2 c3 c4 HD HT
      have F6 : FlW W w6 p r.1 := by
        obtain ⟨G', k1, k2, k3, _⟩ := hst.below (bthen HX.out.2.2.2.1 HO5.out.2.2.1) (fun x hx => (HX.out.2.2.2.2.1 x hx).1)
        exact ⟨⟨G', k1, k3⟩, k2⟩
      obtain ⟨G6, f6, hk6, hG6⟩ := hst.out
      have o6 := hk6.own HO5.out.1 (fun k hk hx => by have h1 := (HO5.out.1.lt k hk).1; have h2 := (HX.out.2.2.2.2.1 _ hx).2; have h3 := HX.out.2.2.2.2.2; omega)
      have q6 := hk6.own HO5.out.2.1 (fun k hk hx => by have h1 := (HO5.out.2.1.lt k hk).1; have h2 := (HX.out.2.2.2.2.1 _ hx).2; have h3 := HX.out.2.2.2.2.2; omega)
      have c0 := HG.out w6 hk6 0 _ (box_cell HX.out.2.2.1 0 _ rfl)
      have c1 := HG.out w6 hk6 1 _ (box_cell HX.out.2.2.1 1 _ rfl)
      have c2 := HG.out w6 hk6 2 _ (box_cell HX.out.2.2.1 2 _ rfl)
      have c3 := HG.out w6 hk6 3 _ (box_cell HX.out.2.2.1 3 _ rfl)
      have c4 := HG.out w6 hk6 4 _ (box_cell HX.out.2.2.1 4 _ rfl)
      have HC := Lib.hid (And.intro c0 (And.intro c1 (And.intro c2 (And.intro c3 c4))))
      have HF6 := Lib.hid (And.intro F6 (And.intro o6 q6))
      clear c0 c1 c2 c3 c4 F6 o6 q6 hst hk6 hG6
      go_wp2_with (first | (at_builtin; refine Stopped.out ?_) | (at_make; refine Stopped.out ?_))
      refine (flash_Files _ f6 (by have h1 := HK.out.1.1.b0; have h2 := HK.out.1.1.size; omega) (by have h1 := HK.out.1.1.b1; have h2 := HK.out.1.1.size; omega)).mono ?_
      rintro e w7 ⟨A7, B7, rfl, o7, q7, _, hb7⟩
      have HS7 := Lib.hid (And.intro (HF6.out.1.then_ hb7) (And.intro (And.intro (own_sl' (own_below HF6.out.2.1 hb7)).2.1 (own_sl' (own_below HF6.out.2.2 hb7)).2.1) (And.intro (own_sl' o7).2.1 (own_sl' q7).2.1)))
      have c0 := cell_below HC.out.1 hb7
      have c1 := cell_below HC.out.2.1 hb7
      have c2 := cell_below HC.out.2.2.1 hb7
      have c3 := cell_below HC.out.2.2.2.1 hb7
      have c4 := cell_below HC.out.2.2.2.2 hb7
      have HT7 := Lib.hid (HSB.out.below HS7.out.1.below)
      clear f6 o7 q7 hb7 HO5 HG
-- CASES
      cases dn
      · rcases Bool.eq_false_or_eq_true r.1.down with hrd | hrd
        · by_cases k7 : t.kd = 7
          · have m0 : MayP 0 s.b0 r.1.b0 t r.2 true := by have h := HK.out.2.2.1.1; rw [hrd] at h; exact h
            have m1 : MayP 1 s.b1 r.1.b1 t r.2 true := by have h := HK.out.2.2.1.2; rw [hrd] at h; exact h
            have HM := Lib.hid (fun (w : World) (hb : Below w7.heap.size w7 w) => And.intro (may_yes w (HS7.out.2.1.1.below hb) (HS7.out.2.2.1.below hb) 0 t (HT7.out.below hb) r.2 true m0) (may_yes w (HS7.out.2.1.2.below hb) (HS7.out.2.2.2.below hb) 1 t (HT7.out.below hb) r.2 true m1))
            clear m0 m1
            have hst := HK.out.2.2.2.1 (by rw [hrd]; rfl)
            have q1 : (((r.2 : Nat) : Int) != 121) = false := by rw [hst.1]; rfl
            have HW := Lib.hid hst.2
            have w1b : s.writes ≤ 400 := by have := HO.out.writes; omega
            clear hst
            have h7 := HK.out.2.2.2.2 k7
            have q7 : (t.kd == 7) = true := by simp [k7]
            exact absurd h7.1 (by rw [hrd]; decide)
          · have m0 : MayP 0 s.b0 r.1.b0 t r.2 true := by have h := HK.out.2.2.1.1; rw [hrd] at h; exact h
            have m1 : MayP 1 s.b1 r.1.b1 t r.2 true := by have h := HK.out.2.2.1.2; rw [hrd] at h; exact h
            have HM := Lib.hid (fun (w : World) (hb : Below w7.heap.size w7 w) => And.intro (may_yes w (HS7.out.2.1.1.below hb) (HS7.out.2.2.1.below hb) 0 t (HT7.out.below hb) r.2 true m0) (may_yes w (HS7.out.2.1.2.below hb) (HS7.out.2.2.2.below hb) 1 t (HT7.out.below hb) r.2 true m1))
            clear m0 m1
            have hst := HK.out.2.2.2.1 (by rw [hrd]; rfl)
            have q1 : (((r.2 : Nat) : Int) != 121) = false := by rw [hst.1]; rfl
            have HW := Lib.hid hst.2
            have w1b : s.writes ≤ 400 := by have := HO.out.writes; omega
            clear hst
            have q7 : (t.kd == 7) = false := by simpa using k7
            clear k7
            have HRD := Lib.hid hrd
            clear hrd
            go_wp2_with (first | (at_builtin; refine Stopped.out ?_) | (at_make; refine Stopped.out ?_))
            obtain ⟨Gx, fx, _⟩ := HS7.out.1.out
            refine (flash_Down _ fx).mono ?_
            rintro e w8 ⟨rfl, rfl⟩
            rw [HRD.out]
            clear fx
            go_wp2_with (first | (at_builtin; refine Stopped.out ?_) | (at_make; refine Stopped.out ?_))
            refine (HM.out w7 (Below.refl _ _)).1.mono ?_
            rintro e w8 ⟨rfl, hb8⟩
            have d0 := cell_below c0 hb8
            have d1 := cell_below c1 hb8
            have d2 := cell_below c2 hb8
            have d3 := cell_below c3 hb8
            have d4 := cell_below c4 hb8
            clear c0 c1 c2 c3 c4
            go_wp2_with (first | (at_builtin; refine Stopped.out ?_) | (at_make; refine Stopped.out ?_))
            refine (HM.out w8 hb8).2.mono ?_
            rintro e w9 ⟨rfl, hb9⟩
            have F9 := HS7.out.1.then_ (bthen hb8 hb9)
            have c0 := cell_below d0 hb9
            clear d0 d1 d2 d3 d4 hb8 hb9 HM
            go_wp2_with (first | (at_builtin; refine Stopped.out ?_) | (at_make; refine Stopped.out ?_))
            obtain ⟨Gx, fx, _⟩ := F9.out
            refine (flash_Writes _ fx).mono ?_
            rintro e w10 ⟨rfl, rfl⟩
            rw [HW.out]
            have q2 : ((s.writes : Int) + 1 != (s.writes : Int) + 1) = false := by simp
            clear fx
            have HF := Lib.hid F9
            clear F9
            go_wp2
            first | go_roundw | refine ⟨?rel, ?measure⟩
            case rel => exact ⟨j + 1, r.1, by omega, by go_num, HF.out, HK.out.1.1⟩
            case measure => simp [intOf]; omega
        · by_cases k7 : t.kd = 7
          · have m0 : MayP 0 s.b0 r.1.b0 t r.2 false := by have h := HK.out.2.2.1.1; rw [hrd] at h; exact h
            have m1 : MayP 1 s.b1 r.1.b1 t r.2 false := by have h := HK.out.2.2.1.2; rw [hrd] at h; exact h
            have HM := Lib.hid (fun (w : World) (hb : Below w7.heap.size w7 w) => And.intro (may_yes w (HS7.out.2.1.1.below hb) (HS7.out.2.2.1.below hb) 0 t (HT7.out.below hb) r.2 false m0) (may_yes w (HS7.out.2.1.2.below hb) (HS7.out.2.2.2.below hb) 1 t (HT7.out.below hb) r.2 false m1))
            clear m0 m1
            have h7 := HK.out.2.2.2.2 k7
            have q7 : (t.kd == 7) = true := by simp [k7]
            have q8 : (((r.2 : Nat) : Int) == 123) = true := by rw [h7.2]; rfl
            have HR := Lib.hid h7.1
            clear h7 k7
            have HRD := Lib.hid hrd
            clear hrd
            go_wp2_with (first | (at_builtin; refine Stopped.out ?_) | (at_make; refine Stopped.out ?_))
            obtain ⟨Gx, fx, _⟩ := HS7.out.1.out
            refine (flash_Down _ fx).mono ?_
            rintro e w8 ⟨rfl, rfl⟩
            rw [HRD.out]
            clear fx
            go_wp2_with (first | (at_builtin; refine Stopped.out ?_) | (at_make; refine Stopped.out ?_))
            refine (HM.out w7 (Below.refl _ _)).1.mono ?_
            rintro e w8 ⟨rfl, hb8⟩
            have d0 := cell_below c0 hb8
            have d1 := cell_below c1 hb8
            have d2 := cell_below c2 hb8
            have d3 := cell_below c3 hb8
            have d4 := cell_below c4 hb8
            clear c0 c1 c2 c3 c4
            go_wp2_with (first | (at_builtin; refine Stopped.out ?_) | (at_make; refine Stopped.out ?_))
            refine (HM.out w8 hb8).2.mono ?_
            rintro e w9 ⟨rfl, hb9⟩
            have F9 := HS7.out.1.then_ (bthen hb8 hb9)
            have c0 := cell_below d0 hb9
            clear d0 d1 d2 d3 d4 hb8 hb9 HM
            go_wp2_with (first | (at_builtin; refine Stopped.out ?_) | (at_make; refine Stopped.out ?_))
            obtain ⟨Gx, fx, _⟩ := F9.out
            refine (flash_Down _ fx).mono ?_
            rintro e w10 ⟨rfl, rfl⟩
            rw [HR.out]
            clear fx
            have HF := Lib.hid F9
            clear F9
            go_wp2
            first | go_roundw | refine ⟨?rel, ?measure⟩
            case rel => exact ⟨j + 1, r.1, by omega, by go_num, HF.out, HK.out.1.1⟩
            case measure => simp [intOf]; omega
          · have m0 : MayP 0 s.b0 r.1.b0 t r.2 false := by have h := HK.out.2.2.1.1; rw [hrd] at h; exact h
            have m1 : MayP 1 s.b1 r.1.b1 t r.2 false := by have h := HK.out.2.2.1.2; rw [hrd] at h; exact h
            have HM := Lib.hid (fun (w : World) (hb : Below w7.heap.size w7 w) => And.intro (may_yes w (HS7.out.2.1.1.below hb) (HS7.out.2.2.1.below hb) 0 t (HT7.out.below hb) r.2 false m0) (may_yes w (HS7.out.2.1.2.below hb) (HS7.out.2.2.2.below hb) 1 t (HT7.out.below hb) r.2 false m1))
            clear m0 m1
            have q7 : (t.kd == 7) = false := by simpa using k7
            clear k7
            have HRD := Lib.hid hrd
            clear hrd
            go_wp2_with (first | (at_builtin; refine Stopped.out ?_) | (at_make; refine Stopped.out ?_))
            obtain ⟨Gx, fx, _⟩ := HS7.out.1.out
            refine (flash_Down _ fx).mono ?_
            rintro e w8 ⟨rfl, rfl⟩
            rw [HRD.out]
            clear fx
            go_wp2_with (first | (at_builtin; refine Stopped.out ?_) | (at_make; refine Stopped.out ?_))
            refine (HM.out w7 (Below.refl _ _)).1.mono ?_
            rintro e w8 ⟨rfl, hb8⟩
            have d0 := cell_below c0 hb8
            have d1 := cell_below c1 hb8
            have d2 := cell_below c2 hb8
            have d3 := cell_below c3 hb8
            have d4 := cell_below c4 hb8
            clear c0 c1 c2 c3 c4
            go_wp2_with (first | (at_builtin; refine Stopped.out ?_) | (at_make; refine Stopped.out ?_))
            refine (HM.out w8 hb8).2.mono ?_
            rintro e w9 ⟨rfl, hb9⟩
            have F9 := HS7.out.1.then_ (bthen hb8 hb9)
            have c0 := cell_below d0 hb9
            clear d0 d1 d2 d3 d4 hb8 hb9 HM
            have HF := Lib.hid F9
            clear F9
            go_wp2
            first | go_roundw | refine ⟨?rel, ?measure⟩
            case rel => exact ⟨j + 1, r.1, by omega, by go_num, HF.out, HK.out.1.1⟩
            case measure => simp [intOf]; omega
      · by_cases k7 : t.kd = 7
        · have m0 : MayP 0 s.b0 r.1.b0 t r.2 false := by have h := HK.out.2.2.1.1; exact h
          have m1 : MayP 1 s.b1 r.1.b1 t r.2 false := by have h := HK.out.2.2.1.2; exact h
          have HM := Lib.hid (fun (w : World) (hb : Below w7.heap.size w7 w) => And.intro (may_yes w (HS7.out.2.1.1.below hb) (HS7.out.2.2.1.below hb) 0 t (HT7.out.below hb) r.2 false m0) (may_yes w (HS7.out.2.1.2.below hb) (HS7.out.2.2.2.below hb) 1 t (HT7.out.below hb) r.2 false m1))
          clear m0 m1
          have h7 := HK.out.2.2.2.2 k7
          have q7 : (t.kd == 7) = true := by simp [k7]
          have q8 : (((r.2 : Nat) : Int) == 123) = false := by rw [h7.2]; rfl
          have HR := Lib.hid h7.1
          clear h7 k7
          go_wp2_with (first | (at_builtin; refine Stopped.out ?_) | (at_make; refine Stopped.out ?_))
          refine (HM.out w7 (Below.refl _ _)).1.mono ?_
          rintro e w8 ⟨rfl, hb8⟩
          have d0 := cell_below c0 hb8
          have d1 := cell_below c1 hb8
          have d2 := cell_below c2 hb8
          have d3 := cell_below c3 hb8
          have d4 := cell_below c4 hb8
          clear c0 c1 c2 c3 c4
          go_wp2_with (first | (at_builtin; refine Stopped.out ?_) | (at_make; refine Stopped.out ?_))
          refine (HM.out w8 hb8).2.mono ?_
          rintro e w9 ⟨rfl, hb9⟩
          have F9 := HS7.out.1.then_ (bthen hb8 hb9)
          have c0 := cell_below d0 hb9
          clear d0 d1 d2 d3 d4 hb8 hb9 HM
          go_wp2_with (first | (at_builtin; refine Stopped.out ?_) | (at_make; refine Stopped.out ?_))
          obtain ⟨Gx, fx, _⟩ := F9.out
          refine (flash_Down _ fx).mono ?_
          rintro e w10 ⟨rfl, rfl⟩
          rw [HR.out]
          clear fx
          have HF := Lib.hid F9
          clear F9
          go_wp2
          first | go_roundw | refine ⟨?rel, ?measure⟩
          case rel => exact ⟨j + 1, r.1, by omega, by go_num, HF.out, HK.out.1.1⟩
          case measure => simp [intOf]; omega
        · have m0 : MayP 0 s.b0 r.1.b0 t r.2 false := by have h := HK.out.2.2.1.1; exact h
          have m1 : MayP 1 s.b1 r.1.b1 t r.2 false := by have h := HK.out.2.2.1.2; exact h
          have HM := Lib.hid (fun (w : World) (hb : Below w7.heap.size w7 w) => And.intro (may_yes w (HS7.out.2.1.1.below hb) (HS7.out.2.2.1.below hb) 0 t (HT7.out.below hb) r.2 false m0) (may_yes w (HS7.out.2.1.2.below hb) (HS7.out.2.2.2.below hb) 1 t (HT7.out.below hb) r.2 false m1))
          clear m0 m1
          have q7 : (t.kd == 7) = false := by simpa using k7
          clear k7
          go_wp2_with (first | (at_builtin; refine Stopped.out ?_) | (at_make; refine Stopped.out ?_))
          refine (HM.out w7 (Below.refl _ _)).1.mono ?_
          rintro e w8 ⟨rfl, hb8⟩
          have d0 := cell_below c0 hb8
          have d1 := cell_below c1 hb8
          have d2 := cell_below c2 hb8
          have d3 := cell_below c3 hb8
          have d4 := cell_below c4 hb8
          clear c0 c1 c2 c3 c4
          go_wp2_with (first | (at_builtin; refine Stopped.out ?_) | (at_make; refine Stopped.out ?_))
          refine (HM.out w8 hb8).2.mono ?_
          rintro e w9 ⟨rfl, hb9⟩
          have F9 := HS7.out.1.then_ (bthen hb8 hb9)
          have c0 := cell_below d0 hb9
          clear d0 d1 d2 d3 d4 hb8 hb9 HM
          have HF := Lib.hid F9
          clear F9
          go_wp2
          first | go_roundw | refine ⟨?rel, ?measure⟩
          case rel => exact ⟨j + 1, r.1, by omega, by go_num, HF.out, HK.out.1.1⟩
          case measure => simp [intOf]; omega
-- ENDCASES
    · have HB := Lib.hid F.below
      go_wp2
      go_ret
      exact ⟨rfl, HB.out⟩
end Go.Proofs.Ytpjmbhhfpoamnaa
