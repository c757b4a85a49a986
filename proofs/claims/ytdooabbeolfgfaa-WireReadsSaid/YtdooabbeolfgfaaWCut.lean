import Derived.Test.YtdooabbeolfgfaaStepMade
set_option linter.unusedVariables false
set_option linter.unusedSimpArgs false
namespace Go.Proofs.Ytdooabbeolfgfaa
open Go.RowKit
theorem Sts.xlt {w : World} {A : Option Addr} {n c : Nat} {vs : List Value} {ss : List St9} (h : Sts w A n c vs ss) : ∀ s ∈ ss, s.x < 18446744073709551616 := by
  intro s hs
  obtain ⟨i, hi, e⟩ := List.getElem_of_mem hs
  obtain ⟨cs, h1, _⟩ := h.at_ i s (by rw [List.getElem?_eq_getElem hi, e])
  exact h1.x
theorem fit_len (ss : List St9) (hn : ss.length ≤ 300) : (fitF (tellF ss)).length ≤ 300 := by
  have : (tellF ss).length ≤ ss.length := List.length_filter_le _ _
  simp [fitF]; omega
/-- the cells of a step at its place -/
theorem Sts.cells {w : World} {b off n c : Nat} {vs : List Value} {ss : List St9} (h : Sts w (some ⟨b, off, none⟩) n c vs ss) (i : Nat) (hi : i < ss.length) : ∃ (ba : Option Addr) (bn bc : Nat) (la : Option Addr) (ln lc : Nat),
    w.cell? ⟨b, off + i * 6, none⟩ = some (.int .i64 ss[i].kd) ∧ w.cell? ⟨b, off + i * 6 + 1, none⟩ = some (.int .u64 ss[i].x) ∧ w.cell? ⟨b, off + i * 6 + 2, none⟩ = some (.slice ba bn bc) ∧
    w.cell? ⟨b, off + i * 6 + 3, none⟩ = some (.slice la ln lc) ∧ w.cell? ⟨b, off + i * 6 + 4, none⟩ = some (.int .i64 ss[i].n) ∧ w.cell? ⟨b, off + i * 6 + 5, none⟩ = some (.int .i64 ss[i].most) ∧
    Sl w 1 ba bn bc (ss[i].b.map by8) ∧ Sl w 1 la ln lc (ss[i].ns.map by64) ∧ ss[i].n ≤ 9223372036854775807 ∧ ss[i].most ≤ 9223372036854775807 := by
  obtain ⟨ba, bn, bc, la, ln, lc, g0, g1, g2, g3, g4, g5, s1, s2, _⟩ := h.get i hi
  obtain ⟨cs, h1, _⟩ := h.at_ i ss[i] (List.getElem?_eq_getElem hi)
  exact ⟨ba, bn, bc, la, ln, lc, g0, g1, g2, g3, g4, g5, s1, s2, h1.n.2, h1.most.2⟩
set_option maxRecDepth 100000 in
set_option maxHeartbeats 3200000 in
theorem WireCutShort_walk (W : World) {A : Option Addr} {n c : Nat} {vs : List Value} {ss : List St9} (h : Sts W A n c vs ss) (cut : Int) :
    Calls Try.prog 13 #[.slice A n c, .int .i64 cut] W fun e w' => e = .returned (.bool true) ∧ Below W.heap.size W w' := by
  have hsl := h.sl.le; have hsm := h.sl.max
  have HL := Lib.hid (And.intro h.len h.xlt)
  by_cases hn : 300 < n
  · have i3 : (300 : Int) < n := by omega
    go_enter Try.func13, Try.ntmps13
    go_wp2
    go_ret
    exact ⟨rfl, Below.refl _ _⟩
  have hn' : n ≤ 300 := by omega
  have i3 : decide ((300 : Int) < n) = false := decide_eq_false (by omega)
  go_enter Try.func13, Try.ntmps13
  go_wp2_with (first | (at_builtin; refine Stopped.out ?_) | (at_make; refine Stopped.out ?_))
  refine (size09 _ h hn').mono ?_
  rintro e w1 ⟨r, rfl, hr, hd⟩
  have hB1 := hd.below
  clear hd i3 hn
  by_cases hbig : 100000 < r
  · clear hr
    go_wp2
    go_ret
    exact ⟨rfl, hB1⟩
  have hsz : size9 ss ≤ 100000 := by omega
  have HB1 := Lib.hid (And.intro hB1 (And.intro hsz (h.below hB1)))
  clear hr hsz hB1
  go_wp2_with (first | (at_builtin; refine Stopped.out ?_) | (at_make; refine Stopped.out ?_))
  refine (telling_any w1 HB1.out.2.2 (by omega)).mono ?_
  rintro e w2 ⟨v2, rfl, hs2, hb2⟩
  obtain ⟨A2, c2, vs2, rfl, st2⟩ := hs2.sts hb2
  have hl2 : (tellF ss).length ≤ 300 := by
    have : (tellF ss).length ≤ ss.length := List.length_filter_le _ _
    have := HL.out.1
    omega
  have HB2 := Lib.hid (And.intro (bthen HB1.out.1 hb2) st2)
  clear hs2 hb2 st2
  go_wp2_with (first | (at_builtin; refine Stopped.out ?_) | (at_make; refine Stopped.out ?_))
  refine (fitting_any w2 HB2.out.2 (by omega)).mono ?_
  rintro e w3 ⟨v3, rfl, hs3, hb3⟩
  obtain ⟨xs3, o3, hr3⟩ := hs3.out
  have hl3 : (fitF (tellF ss)).length ≤ 300 := fit_len ss (by have := HL.out.1; omega)
  have hbb : Below w3.heap.size w3 (w3.alloc (.cells #[.int .i64 4, .int .u64 300, .slice none 0 0, .slice none 0 0, .int .i64 0, .int .i64 0] 70)) := (Below.refl _ _).alloc (Nat.le_refl _) _
  have hb23 : Below w2.heap.size w2 (w3.alloc (.cells #[.int .i64 4, .int .u64 300, .slice none 0 0, .slice none 0 0, .int .i64 0, .int .i64 0] 70)) := bthen hb3 hbb
  have HB3 := Lib.hid (And.intro (own_below o3 hbb) (And.intro hr3 (And.intro hb23 (bthen HB2.out.1 hb23))))
  clear hs3 hb3 o3 hr3 hbb hb23
  go_wp2_with (first | (at_builtin; refine Stopped.out ?_) | (at_make; refine Stopped.out ?_))
  refine Stopped.mk (ap_own EStep rfl (.tmp 21) (.tmp 23) rfl rfl HB3.out.1 rfl (Sl.fresh w3 [.int .i64 4, .int .u64 300, .slice none 0 0, .slice none 0 0, .int .i64 0, .int .i64 0] 70 1 6 rfl (by decide)) (by simp [Value.oneCell']) (by simp only [maxLen]; omega) (by omega) HB3.out.2.2.1.size ?_)
  intro v4 w4 o4 hg4 _
  have hb4 := HB3.out.2.2.1.grown hg4 HB3.out.2.2.1.size (fun j e => (HB3.out.1.lt j e).1)
  have hbW4 : Below W.heap.size W w4 := HB3.out.2.2.2.grown hg4 HB3.out.2.2.2.size (fun j e => by have := (HB3.out.1.lt j e).1; have := HB2.out.1.size; omega)
  have hs4 : StsO w2 w4 w2.heap.size v4 (madeF ss) := ⟨_, by have := o4; unfold madeF; rw [List.length_append]; exact this, rows_snoc HB3.out.2.1 (own_len HB3.out.1) ⟨⟨none, 0, 0, none, 0, 0, rfl, Sl.nilS _ _, Sl.nilS _ _, by decide, by decide⟩, by decide, by decide, by decide, by decide⟩⟩
  obtain ⟨A4, c4, vs4, rfl, st4⟩ := hs4.sts hb4
  have hsm4 := made_small (by rw [HL.out.1]; exact hn') HB1.out.2.1 HL.out.2
  have hft4 := made_fits HB1.out.2.1 HL.out.2
  have hrun : runW (madeF ss) = (catB (madeF ss), 0) := by
    have := runW_fits hft4 (madeF ss).length (Nat.le_refl _)
    rwa [List.take_length] at this
  have hcl : (catB (madeF ss)).length ≤ 11000000 := by
    have := hsm4.len (madeF ss).length (Nat.le_refl _)
    rwa [List.take_length, hrun] at this
  have hend := made_end ss
  have hwr := written_any w4 st4 hsm4
  rw [hrun] at hwr
  obtain ⟨L, hL⟩ : ∃ L, L = madeF ss := ⟨_, rfl⟩
  rw [← hL] at hsm4 hft4 hcl hend hwr st4 ⊢
  obtain ⟨cb, hcb⟩ : ∃ cb, cb = (catB L).length := ⟨_, rfl⟩
  have hLn : L.length ≤ 1000 := hsm4.n
  have HW := Lib.hid (And.intro st4 (And.intro hft4 (And.intro hbW4 (And.intro hcb hend))))
  rw [← hcb] at hcl
  have hcb2 : 2 ≤ cb := by
    obtain ⟨r, hr⟩ := hend
    rw [hcb, hr]; simp
  have HWr : Hid (Calls Try.prog 58 #[.slice A4 L.length c4] w4 fun e w' => ∃ Ab cc, e = .returned (.tuple #[.slice Ab cb cc, .bool true]) ∧ Sl w' 1 Ab cb cc ((catB L).map by8) ∧ Below w4.heap.size w4 w') := Lib.hid (hwr.mono (fun e w' ⟨v, e1, o, hb⟩ => by
    have e2 : doneL (catB L) 0 = catB L := rfl
    simp only at o e1
    rw [e2, ← hcb] at o
    obtain ⟨Ab, cc, rfl, s, _⟩ := own_sl o
    exact ⟨Ab, cc, e1, s, hb⟩))
  clear hs4 hb4 hbW4 o4 hg4 st4 hsm4 hft4 hrun hend hwr hL HB3 hcb
  go_wp2_with (first | (at_builtin; refine Stopped.out ?_) | (at_make; refine Stopped.out ?_))
  refine HWr.out.mono ?_
  rintro e w5 ⟨Ab, cc, rfl, sb5, hb5⟩
  obtain ⟨b5, o5, rfl⟩ := sb5.form (by omega)
  have hcc := sb5.le; have hcc2 := sb5.max
  have HNR : Hid (∀ m : Nat, m ≤ cb → Calls Try.prog 47 #[.slice (some ⟨b5, o5, none⟩) m cc] w5 fun e w' => ∃ p G, e = .returned (.pointer (some ⟨p, 0, none⟩)) ∧ Rd w' p G ((catB L).take m) 0 0 ∧ Below w5.heap.size w5 w' ∧ ∀ x ∈ G, w5.heap.size ≤ x) := Lib.hid (fun m hm => NewReader_any w5 (sb5.preB hm) (by omega))
  have H5 := Lib.hid hb5
  clear sb5 hb5 HWr
  obtain ⟨m, hm, hmc⟩ : ∃ m : Nat, m < cb ∧ ((cut < 0 ∧ cb = m + 1) ∨ (0 ≤ cut ∧ (cb : Int) ≤ cut ∧ cb = m + 1) ∨ (cut = (m : Int))) := by
    by_cases c0 : cut < 0
    · exact ⟨cb - 1, by omega, .inl ⟨c0, by omega⟩⟩
    · by_cases c1 : (cb : Int) ≤ cut
      · exact ⟨cb - 1, by omega, .inr (.inl ⟨by omega, c1, by omega⟩)⟩
      · exact ⟨cut.toNat, by omega, .inr (.inr (by omega))⟩
  have HNm := Lib.hid (HNR.out m (by omega))
  have HMB : Hid (m < (catB L).length) := Lib.hid (by have := HW.out.2.2.2.1; omega)
  have hj0 : (0 : Int) ≤ (m : Int) := Int.natCast_nonneg _
  have hj1 : (m : Int) ≤ (cc : Int) := by omega
  have hb2' : decide ((cb : Int) < 2) = false := decide_eq_false (by omega)
  have hcases : (cut < 0 ∧ ((cb : Int) - 1 = (m : Int))) ∨ (decide (cut < 0) = false ∧ (cb : Int) ≤ cut ∧ ((cb : Int) - 1 = (m : Int))) ∨ (cut = (m : Int) ∧ decide ((m : Int) < 0) = false ∧ (m : Int) < (cb : Int)) := by
    rcases hmc with ⟨c0, c1⟩ | ⟨c0, c1, c2⟩ | c0
    · exact .inl ⟨c0, by omega⟩
    · exact .inr (.inl ⟨decide_eq_false (by omega), c1, by omega⟩)
    · exact .inr (.inr ⟨c0, decide_eq_false (by omega), by omega⟩)
  clear hmc HNR
  rcases hcases with ⟨c0, c1⟩ | ⟨c0, c1, c2⟩ | ⟨rfl, c1, c2⟩
  all_goals
    go_wp2_with (first | (at_builtin; refine Stopped.out ?_) | (at_make; refine Stopped.out ?_))
    refine HNm.out.mono ?_
    rintro e w6 ⟨p, G, rfl, hr6, hb6, hG6⟩
    have hp5 := hG6 p hr6.mem
    have h45 := H5.out.size
    have H6 := Lib.hid (And.intro hr6 (And.intro (bthen H5.out hb6) hG6))
    clear hr6 hb6 hG6
    go_wp2
    go_loopw [9] (fun ii wr => ∃ (k a f : Nat), k ≤ L.length ∧ ii = .int .i64 k ∧ Rd wr p G ((catB L).take m) a f ∧ Keep [p] w6 wr ∧ Hid (cutAt L m k a f)) (fun ii _ => L.length - (intOf ii).toNat)
    case atStart => exact ⟨0, 0, 0, Nat.zero_le _, rfl, H6.out.1, Keep.refl _ _, Lib.hid (cutAt_start L m)⟩
    case round =>
      obtain ⟨k, a, f, hk, rfl, hr, hkw, hq⟩ := hrel
      by_cases hlt : k < L.length
      · obtain ⟨b4, o4, rfl⟩ := HW.out.1.sl.form (by omega)
        obtain ⟨ba, bn, bc, la, ln, lc, g0, g1, g2, g3, g4, g5, s1, s2, hnn, hmm⟩ := HW.out.1.cells k hlt
        have hb4 := cell_lt g0
        simp only at hb4
        have lift : ∀ {j : Nat} {v : Value}, w4.cell? ⟨b4, j, none⟩ = some v → wr.cell? ⟨b4, j, none⟩ = some v := fun hc => hkw.cell (cell_below hc H6.out.2.1) (by simp; omega)
        replace g0 := lift g0; replace g1 := lift g1; replace g2 := lift g2; replace g3 := lift g3; replace g4 := lift g4; replace g5 := lift g5
        have HR := Lib.hid (read9 wr hr L[k].kd L[k].x (ba := ba) (la := la) (n0 := bn) (bc := bc) (ln := ln) (lc := lc) L[k].n L[k].most hnn hmm (by simp; omega))
        have hst := cutAt_step HW.out.2.1 hlt (Nat.le_of_lt HMB.out) hq.out
        have HQ := Lib.hid (And.intro hst hkw)
        obtain ⟨s, hs⟩ : ∃ s, s = L[k] := ⟨_, rfl⟩
        rw [← hs] at g0 g1 g4 g5 HR HQ
        have k0 : (0 : Int) ≤ (k : Int) := Int.natCast_nonneg _
        have k1 : (k : Int) < (L.length : Int) := by omega
        obtain ⟨kd, x, bb, ns, nn, mo⟩ := s
        simp only at g0 g1 g4 g5 HR
        clear hs hst hr hkw hq lift s1 s2 hnn hmm
        go_wp2_with (first | (at_builtin; refine Stopped.out ?_) | (at_make; refine Stopped.out ?_))
        refine HR.out.mono ?_
        intro e w7 hp
        obtain ⟨v7, rfl, _, hr7, hk7⟩ := hp.got
        have HN : Hid (Rd w7 p G ((catB L).take m) _ _ ∧ Keep [p] w6 w7) := Lib.hid ⟨hr7, HQ.out.2.trans hk7⟩
        clear hp hr7 hk7
        go_wp2
        first | go_roundw | refine ⟨?rel, ?measure⟩
        case rel => exact ⟨k + 1, _, _, by omega, by go_num, HN.out.1, HN.out.2, Lib.hid HQ.out.1⟩
        case measure => simp [intOf]; omega
      · have hf : f = 90 := hq.out.2 (by rw [List.take_of_length_le (by omega)]; exact HMB.out)
        have HD := Lib.hid (Rd_Done wr hr)
        have HDF : Hid (doneR ((catB L).take m) a f = 90) := Lib.hid (by rw [hf]; rfl)
        have HN := Lib.hid (show Below W.heap.size W wr from hkw.below (bthen HW.out.2.2.1 H6.out.2.1) (by have := (bthen HW.out.2.2.1 H6.out.2.1).size; exact this) (fun x hx => by simp at hx; have := HW.out.2.2.1.size; omega))
        have k1 : decide ((k : Int) < (L.length : Int)) = false := decide_eq_false (by omega)
        rw [HDF.out] at HD
        clear hr hkw hq hf HDF
        go_wp2_with (first | (at_builtin; refine Stopped.out ?_) | (at_make; refine Stopped.out ?_))
        refine HD.out.mono ?_
        rintro e w7 ⟨rfl, hd7⟩
        have HN2 := Lib.hid (bthen HN.out hd7.below)
        clear hd7
        go_wp2
        go_ret
        exact ⟨rfl, HN2.out⟩
end Go.Proofs.Ytdooabbeolfgfaa
