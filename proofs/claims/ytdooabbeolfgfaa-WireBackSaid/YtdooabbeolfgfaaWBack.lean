import Derived.Test.YtdooabbeolfgfaaWCut
import Derived.Deep.RegionHeld3
set_option linter.unusedVariables false
set_option linter.unusedSimpArgs false
namespace Go.Proofs.Ytdooabbeolfgfaa
open Go.RowKit
theorem Drawn.step1 {w w' : World} (_ : Drawn w w) (h : Drawn w.drew w') : Drawn w w' := by
  obtain ⟨m, rfl⟩ := h.out
  exact ⟨⟨1 + m, World.drewN_drewN w 1 m⟩⟩
set_option maxRecDepth 100000 in
set_option maxHeartbeats 3200000 in
theorem WireBack_walk (W : World) {A : Option Addr} {n c : Nat} {vs : List Value} {ss : List St9} (h : Sts W A n c vs ss) :
    Calls Try.prog 11 #[.slice A n c] W fun e w' => e = .returned (.bool true) ∧ Below W.heap.size W w' := by
  have hsl := h.sl.le; have hsm := h.sl.max
  have HL := Lib.hid (And.intro h.len h.xlt)
  by_cases hn : 300 < n
  · have i3 : (300 : Int) < n := by omega
    go_enter Try.func11, Try.ntmps11
    go_wp2
    go_ret
    exact ⟨rfl, Below.refl _ _⟩
  have hn' : n ≤ 300 := by omega
  have i3 : decide ((300 : Int) < n) = false := decide_eq_false (by omega)
  go_enter Try.func11, Try.ntmps11
  go_wp2_with (first | (at_builtin; refine Stopped.out ?_) | (at_make; refine Stopped.out ?_))
  refine (size09 _ h hn').mono ?_
  rintro e w1 ⟨r, rfl, hr, hd⟩
  have hB1 := hd.below
  clear hd i3 hn
  by_cases hbig : 100000 < r
  · clear hr
    go_wp2
    go_ret
    exact ⟨rfl, hB1⟩
  have hsz : size9 ss ≤ 100000 := by omega
  have HB1 := Lib.hid (And.intro hB1 (And.intro hsz (h.below hB1)))
  clear hr hsz hB1
  go_wp2_with (first | (at_builtin; refine Stopped.out ?_) | (at_make; refine Stopped.out ?_))
  refine (telling_any w1 HB1.out.2.2 (by omega)).mono ?_
  rintro e w2 ⟨v2, rfl, hs2, hb2⟩
  obtain ⟨A2, c2, vs2, rfl, st2⟩ := hs2.sts hb2
  have hl2 : (tellF ss).length ≤ 300 := by
    have : (tellF ss).length ≤ ss.length := List.length_filter_le _ _
    have := HL.out.1
    omega
  have HB2 := Lib.hid (And.intro (bthen HB1.out.1 hb2) st2)
  clear hs2 hb2 st2
  go_wp2_with (first | (at_builtin; refine Stopped.out ?_) | (at_make; refine Stopped.out ?_))
  refine (fitting_any w2 HB2.out.2 (by omega)).mono ?_
  rintro e w3 ⟨v3, rfl, hs3, hb3⟩
  obtain ⟨xs3, o3, hr3⟩ := hs3.out
  have hl3 : (fitF (tellF ss)).length ≤ 300 := fit_len ss (by have := HL.out.1; omega)
  have hbb : Below w3.heap.size w3 (w3.alloc (.cells #[.int .i64 4, .int .u64 300, .slice none 0 0, .slice none 0 0, .int .i64 0, .int .i64 0] 70)) := (Below.refl _ _).alloc (Nat.le_refl _) _
  have hb23 : Below w2.heap.size w2 (w3.alloc (.cells #[.int .i64 4, .int .u64 300, .slice none 0 0, .slice none 0 0, .int .i64 0, .int .i64 0] 70)) := bthen hb3 hbb
  have HB3 := Lib.hid (And.intro (own_below o3 hbb) (And.intro hr3 (And.intro hb23 (bthen HB2.out.1 hb23))))
  clear hs3 hb3 o3 hr3 hbb hb23
  go_wp2_with (first | (at_builtin; refine Stopped.out ?_) | (at_make; refine Stopped.out ?_))
  refine Stopped.mk (ap_own EStep rfl (.tmp 19) (.tmp 21) rfl rfl HB3.out.1 rfl (Sl.fresh w3 [.int .i64 4, .int .u64 300, .slice none 0 0, .slice none 0 0, .int .i64 0, .int .i64 0] 70 1 6 rfl (by decide)) (by simp [Value.oneCell']) (by simp only [maxLen]; omega) (by omega) HB3.out.2.2.1.size ?_)
  intro v4 w4 o4 hg4 _
  have hb4 := HB3.out.2.2.1.grown hg4 HB3.out.2.2.1.size (fun j e => (HB3.out.1.lt j e).1)
  have hbW4 : Below W.heap.size W w4 := HB3.out.2.2.2.grown hg4 HB3.out.2.2.2.size (fun j e => by have := (HB3.out.1.lt j e).1; have := HB2.out.1.size; omega)
  have hs4 : StsO w2 w4 w2.heap.size v4 (madeF ss) := ⟨_, by have := o4; unfold madeF; rw [List.length_append]; exact this, rows_snoc HB3.out.2.1 (own_len HB3.out.1) ⟨⟨none, 0, 0, none, 0, 0, rfl, Sl.nilS _ _, Sl.nilS _ _, by decide, by decide⟩, by decide, by decide, by decide, by decide⟩⟩
  obtain ⟨A4, c4, vs4, rfl, st4⟩ := hs4.sts hb4
  have hsm4 := made_small (by rw [HL.out.1]; exact hn') HB1.out.2.1 HL.out.2
  have hft4 := made_fits HB1.out.2.1 HL.out.2
  have hrun : runW (madeF ss) = (catB (madeF ss), 0) := by
    have := runW_fits hft4 (madeF ss).length (Nat.le_refl _)
    rwa [List.take_length] at this
  have hcl : (catB (madeF ss)).length ≤ 11000000 := by
    have := hsm4.len (madeF ss).length (Nat.le_refl _)
    rwa [List.take_length, hrun] at this
  have hend := made_end ss
  have hwr := written_any w4 st4 hsm4
  rw [hrun] at hwr
  obtain ⟨L, hL⟩ : ∃ L, L = madeF ss := ⟨_, rfl⟩
  rw [← hL] at hsm4 hft4 hcl hend hwr st4 ⊢
  obtain ⟨cb, hcb⟩ : ∃ cb, cb = (catB L).length := ⟨_, rfl⟩
  have hLn : L.length ≤ 1000 := hsm4.n
  have HW := Lib.hid (And.intro st4 (And.intro hft4 (And.intro hbW4 (And.intro hcb hend))))
  rw [← hcb] at hcl
  have hcb2 : 2 ≤ cb := by
    obtain ⟨r, hr⟩ := hend
    rw [hcb, hr]; simp
  have HWr : Hid (Calls Try.prog 58 #[.slice A4 L.length c4] w4 fun e w' => ∃ Ab cc, e = .returned (.tuple #[.slice Ab cb cc, .bool true]) ∧ Sl w' 1 Ab cb cc ((catB L).map by8) ∧ Below w4.heap.size w4 w') := Lib.hid (hwr.mono (fun e w' ⟨v, e1, o, hb⟩ => by
    have e2 : doneL (catB L) 0 = catB L := rfl
    simp only at o e1
    rw [e2, ← hcb] at o
    obtain ⟨Ab, cc, rfl, s, _⟩ := own_sl o
    exact ⟨Ab, cc, e1, s, hb⟩))
  obtain ⟨m, hm⟩ : ∃ m, cb = m + 2 := ⟨cb - 2, by omega⟩
  have hbt : bt (catB L) m = 172 ∧ bt (catB L) (m + 1) = 2 := by
    obtain ⟨r, hr⟩ := hend
    have hrl : r.length = m := by
      have := congrArg List.length hr
      simp at this
      omega
    rw [hr]
    constructor
    · rw [bt_append_right _ _ _ (by omega), hrl, Nat.sub_self]; rfl
    · rw [bt_append_right _ _ _ (by omega), hrl, Nat.add_sub_cancel_left]; rfl
  have HBT := Lib.hid hbt
  subst hm
  clear hs4 hb4 hbW4 o4 hg4 st4 hsm4 hft4 hrun hend hwr hL HB3 hcb hbt
  go_wp2_with (first | (at_builtin; refine Stopped.out ?_) | (at_make; refine Stopped.out ?_))
  refine HWr.out.mono ?_
  rintro e w5 ⟨Ab, cc, rfl, sb5, hb5⟩
  obtain ⟨b5, o5, rfl⟩ := sb5.form (by omega)
  have hcc := sb5.le; have hcc2 := sb5.max
  have y0 := sb5.byte m (by omega)
  have y1 := sb5.byte (m + 1) (by omega)
  rw [HBT.out.1] at y0
  rw [HBT.out.2] at y1
  have HNR := Lib.hid (NewReader_any w5 sb5 (by omega))
  have H5 := Lib.hid (And.intro hb5 (And.intro y0 y1))
  clear sb5 hb5 HWr y0 y1
  go_wp2_with (first | (at_builtin; refine Stopped.out ?_) | (at_make; refine Stopped.out ?_))
  refine HNR.out.mono ?_
  rintro e w6 ⟨p, G, rfl, hr6, hb6, hG6⟩
  have hp5 := hG6 p hr6.mem
  have h45 := H5.out.1.size
  have H6 := Lib.hid (And.intro hr6 (And.intro (bthen H5.out.1 hb6) hG6))
  have y0 := cell_below H5.out.2.1 hb6
  have y1 := cell_below H5.out.2.2 hb6
  clear hr6 hb6 hG6
  have hm2 : decide ((m : Int) + 2 < 2) = false := decide_eq_false (by omega)
  go_wp2
  rw [show m + 2 - 1 = m + 1 from rfl]
  clear y0 y1 hm2
  go_loopw [7] (fun ii wr => ∃ (k : Nat), k ≤ L.length ∧ ii = .int .i64 k ∧ Rd wr p G (catB L) (catB (L.take k)).length 0 ∧ Keep [p] w6 wr) (fun ii _ => L.length - (intOf ii).toNat)
  case atStart => exact ⟨0, Nat.zero_le _, rfl, by simpa [catB] using H6.out.1, Keep.refl _ _⟩
  case round =>
    obtain ⟨k, hk, rfl, hr, hkw⟩ := hrel
    by_cases hlt : k < L.length
    · obtain ⟨b4, o4, rfl⟩ := HW.out.1.sl.form (by omega)
      obtain ⟨ba, bn, bc, la, ln, lc, g0, g1, g2, g3, g4, g5, s1, s2, hnn, hmm⟩ := HW.out.1.cells k hlt
      have hb4 := cell_lt g0
      simp only at hb4
      have hft := HW.out.2.1 _ (List.getElem_mem hlt)
      have hmono := catB_mono HW.out.2.1 k hlt
      obtain ⟨rest, hrest⟩ := catB_split L k hlt
      have hback := hft.back (catB (L.take k)) rest
      rw [← hrest] at hback
      have htake := catB_take L k hlt
      have hapl : (catB (L.take (k + 1))).length = (catB (L.take k)).length + L[k].bytes.length := by rw [htake]; simp
      rw [← hapl] at hback
      obtain ⟨q, hq⟩ : ∃ q, q = (catB L).length - (catB (L.take k)).length := ⟨_, rfl⟩
      have HLf := Lib.hid (Rd_Left wr.drew (hr.below ((Below.refl _ _).drew)))
      rw [← hq] at HLf
      have i5 : ((q : Int) == 0) = false := by simp; omega
      have hlow : ∀ {sz x d : Nat} {X : Option Addr} {us : List Value}, 0 < sz → Sl w4 sz X x d us → ∀ ad, X = some ad → 0 < x → ad.block ∉ [p] := fun hz s ad e h0 hx => by
        have h5 := s.len
        have h6 := cell_lt ((s.at_ ad e (by rw [h5]; exact Nat.mul_pos h0 hz)).2 0 (by rw [h5]; exact Nat.mul_pos h0 hz))
        simp at h6 hx
        omega
      have HRd : Hid (∀ w', Drawn wr w' → Calls Try.prog 50 #[.pointer (some ⟨p, 0, none⟩), .agg #[.int .i64 L[k].kd, .int .u64 L[k].x, .slice ba bn bc, .slice la ln lc, .int .i64 L[k].n, .int .i64 L[k].most]] w' fun e w'' => ∃ v, e = .returned v ∧ GotIs w'' v (meantG L[k]) ∧ Rd w'' p G (catB L) (catB (L.take (k + 1))).length 0 ∧ Keep [p] w' w'') := Lib.hid (fun w' hd => by
        have h9 := read9 w' (hr.below hd.below) L[k].kd L[k].x (ba := ba) (la := la) (n0 := bn) (bc := bc) (ln := ln) (lc := lc) L[k].n L[k].most hnn hmm (by have := HW.out.2.2.2.1; omega)
        refine h9.mono ?_
        intro e w'' hp
        have hg := hp.got
        have e3 : stepR (catB L) (catB (L.take k)).length 0 L[k].kd L[k].n L[k].most = (meantG L[k], (catB (L.take (k + 1))).length, 0) := hback
        rw [e3] at hg
        exact hg)
      have HMe : Hid (∀ w', Keep [p] w6 w' → Calls Try.prog 59 #[.agg #[.int .i64 L[k].kd, .int .u64 L[k].x, .slice ba bn bc, .slice la ln lc, .int .i64 L[k].n, .int .i64 L[k].most]] w' fun e w'' => ∃ v, e = .returned v ∧ GotIs w'' v (meantG L[k]) ∧ Below w'.heap.size w' w'') := Lib.hid (fun w' hw =>
        meant_any w' L[k].x L[k].kd L[k].n L[k].most hft.kd hft.x ((s1.below H6.out.2.1).keep0 hw (hlow (by decide) s1)) ((s2.below H6.out.2.1).keep0 hw (hlow (by decide) s2)))
      have HFC : Hid (∀ w' : World, Keep [p] w6 w' → w'.cell? ⟨b4, o4 + k * 6, none⟩ = some (.int .i64 L[k].kd) ∧ w'.cell? ⟨b4, o4 + k * 6 + 1, none⟩ = some (.int .u64 L[k].x) ∧ w'.cell? ⟨b4, o4 + k * 6 + 2, none⟩ = some (.slice ba bn bc) ∧ w'.cell? ⟨b4, o4 + k * 6 + 3, none⟩ = some (.slice la ln lc) ∧ w'.cell? ⟨b4, o4 + k * 6 + 4, none⟩ = some (.int .i64 L[k].n) ∧ w'.cell? ⟨b4, o4 + k * 6 + 5, none⟩ = some (.int .i64 L[k].most)) := Lib.hid (fun w' hw => by
        have lift : ∀ {j : Nat} {v : Value}, w4.cell? ⟨b4, j, none⟩ = some v → w'.cell? ⟨b4, j, none⟩ = some v := fun hc => hw.cell (cell_below hc H6.out.2.1) (by simp; omega)
        exact ⟨lift g0, lift g1, lift g2, lift g3, lift g4, lift g5⟩)
      have hk0 : Keep [p] w6 wr.drew := hkw.drew
      obtain ⟨s, hs⟩ : ∃ s, s = L[k] := ⟨_, rfl⟩
      rw [← hs] at HRd HMe HFC
      obtain ⟨kd, x, bb, ns, nn, mo⟩ := s
      simp only at HRd HMe HFC
      obtain ⟨gg, hgg⟩ : ∃ gg, gg = meantG ⟨kd, x, bb, ns, nn, mo⟩ := ⟨_, rfl⟩
      rw [← hgg] at HRd HMe
      have F0 := HFC.out _ hk0
      have k0 : (0 : Int) ≤ (k : Int) := Int.natCast_nonneg _
      have k1 : (k : Int) < (L.length : Int) := by omega
      clear hgg hs hq hback hrest htake hapl hmono hft hlow hr hkw g0 g1 g2 g3 g4 g5 s1 s2 hnn hmm
      go_wp2_with fail
      go_region_held3 (fun w' => w'.cell? ⟨b4, o4 + k * 6, none⟩ = some (.int .i64 kd) ∧ w'.cell? ⟨b4, o4 + k * 6 + 1, none⟩ = some (.int .u64 x) ∧ w'.cell? ⟨b4, o4 + k * 6 + 2, none⟩ = some (.slice ba bn bc) ∧ w'.cell? ⟨b4, o4 + k * 6 + 3, none⟩ = some (.slice la ln lc) ∧ w'.cell? ⟨b4, o4 + k * 6 + 4, none⟩ = some (.int .i64 nn) ∧ w'.cell? ⟨b4, o4 + k * 6 + 5, none⟩ = some (.int .i64 mo))
        (first | exact F4 | exact F3 | exact F2 | exact F1 | exact F0 | go_keep)
        (first
          | (go_at_call 51; refine (alike_same _ (gvr.below hbc) gvm).mono ?_; rintro e wd ⟨rfl, hbd⟩; have hk4 := hk3.trans (Keep.of_below hbd [p]); have F4 := HFC.out _ hk4)
          | (go_at_call 59; refine (HMe.out _ hk2).mono ?_; rintro e wc ⟨vm, rfl, gvm, hbc⟩; have hk3 := hk2.trans (Keep.of_below hbc [p]); have F3 := HFC.out _ hk3)
          | (go_at_call 50; refine (HRd.out _ hda2).mono ?_; rintro e wb ⟨vr, rfl, gvr, hrb, hkb⟩; have hk2 := hk1.trans hkb; have F2 := HFC.out _ hk2)
          | (go_at_call 54; refine HLf.out.mono ?_; rintro e wa ⟨rfl, hda⟩; have hda2 := (Drawn.refl wr).step1 hda; have hk1 := hk0.trans (hda.keep [p]); have F1 := HFC.out _ hk1))
      have HN := Lib.hid (And.intro ((hrb.below hbc).below hbd) hk4)
      clear F0 F1 F2 F3 F4 HFC HMe HRd HLf hk0 hk1 hk2 hk3 hk4 hda hda2 hrb hkb hbc hbd gvr gvm
      go_wp2
      first | go_roundw | refine ⟨?rel, ?measure⟩
      case rel => exact ⟨k + 1, by omega, by go_num, HN.out.1, HN.out.2⟩
      case measure => simp [intOf]; omega
    · have hal : (catB (L.take k)).length = (catB L).length := by rw [List.take_of_length_le (by omega)]
      rw [hal] at hr
      have hd := Rd_Done wr hr
      rw [show doneR (catB L) (catB L).length 0 = 0 by simp [doneR]] at hd
      have HD := Lib.hid hd
      have HR := Lib.hid hr
      have HB := Lib.hid (show Below W.heap.size W wr from hkw.below (bthen HW.out.2.2.1 H6.out.2.1) (by have := (bthen HW.out.2.2.1 H6.out.2.1).size; exact this) (fun x hx => by simp at hx; have := HW.out.2.2.1.size; omega))
      have k1 : decide ((k : Int) < (L.length : Int)) = false := decide_eq_false (by omega)
      clear hal hr hd hkw
      go_wp2_with (first | (at_builtin; refine Stopped.out ?_) | (at_make; refine Stopped.out ?_))
      refine HD.out.mono ?_
      rintro e w7 ⟨rfl, hd7⟩
      have hlf := Rd_Left w7 (HR.out.below hd7.below)
      rw [Nat.sub_self] at hlf
      have HLf := Lib.hid hlf
      have HB7 := Lib.hid (bthen HB.out hd7.below)
      clear hlf hd7
      go_wp2_with (first | (at_builtin; refine Stopped.out ?_) | (at_make; refine Stopped.out ?_))
      refine HLf.out.mono ?_
      rintro e w8 ⟨rfl, hd8⟩
      have HB8 := Lib.hid (bthen HB7.out hd8.below)
      clear hd8
      go_wp2
      go_ret
      exact ⟨rfl, HB8.out⟩
end Go.Proofs.Ytdooabbeolfgfaa
