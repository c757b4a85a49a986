import Derived.Test.YtdooabbeolfgfaaFound9
import Derived.Test.YtdooabbeolfgfaaWCut
import Derived.Deep.RegionHeld3
set_option linter.unusedVariables false
set_option linter.unusedSimpArgs false
namespace Go.Proofs.Ytdooabbeolfgfaa
open Go.RowKit
theorem FoundPost.got {w w' : World} {q B : Nat} {l : List UInt8} {R : Gt × Nat × Nat} {e : Ending} (h : FoundPost w q B l R e w') : ∃ v, e = .returned v ∧ GotIs w' v R.1 ∧ RIn w' q B l R.2.1 R.2.2 ∧ Keep [q] w w' := by
  obtain ⟨vb, vl, rfl, o1, o2, hr, hk⟩ := h
  obtain ⟨A, c, rfl, s1, _⟩ := own_sl o1
  obtain ⟨B, d, rfl, s2, _⟩ := own_sl o2
  exact ⟨_, rfl, ⟨A, B, _, _, _, _, rfl, s1, s2⟩, hr, hk⟩
set_option maxRecDepth 100000 in
set_option maxHeartbeats 3200000 in
theorem WireReads_walk (W : World) {A B : Option Addr} {n c nb cb : Nat} {vs : List Value} {ss : List St9} {l : List UInt8} (hb : Sl W 1 B nb cb (l.map by8)) (hnb : nb ≤ 140737488351232) (h : Sts W A n c vs ss) :
    Calls Try.prog 10 #[.slice B nb cb, .slice A n c] W fun e w' => e = .returned (.bool true) ∧ Below W.heap.size W w' := by
  have hsl := h.sl.le; have hsm := h.sl.max; have hbl := hb.le; have hbm := hb.max
  have HL := Lib.hid (And.intro h.len (And.intro h.xlt hb))
  have hll : l.length = nb := by simpa using hb.len
  clear hb
  by_cases hn : 300 < n
  · have i3 : (300 : Int) < n := by omega
    go_enter Try.func10, Try.ntmps10
    go_wp2
    go_ret
    exact ⟨rfl, Below.refl _ _⟩
  have hn2 : n ≤ 300 := by omega
  have i3 : decide ((300 : Int) < n) = false := decide_eq_false (by omega)
  by_cases hnl : 100000 < nb
  · have i6 : (100000 : Int) < (nb : Int) := by omega
    go_enter Try.func10, Try.ntmps10
    go_wp2
    go_ret
    exact ⟨rfl, Below.refl _ _⟩
  have i6 : decide ((100000 : Int) < (nb : Int)) = false := decide_eq_false (by omega)
  have HLL := Lib.hid hll
  clear hn hll
  go_enter Try.func10, Try.ntmps10
  go_wp2_with (first | (at_builtin; refine Stopped.out ?_) | (at_make; refine Stopped.out ?_))
  refine (roomy09 W HL.out.2.2 (by omega)).mono ?_
  rintro e w1 ⟨v1, rfl, o1, hb1⟩
  obtain ⟨g1, c1, rfl, hg1, hg1l, hc1⟩ := own_form o1 (by omega)
  obtain ⟨_, s1, _⟩ := own_sl' o1
  have p1 := s1.preB (m := nb) (by omega)
  rw [roomL_tk l HLL.out] at p1
  have HNR := Lib.hid (NewReader_any w1 p1 (by omega))
  have H1 := Lib.hid (And.intro o1 (And.intro s1 hb1))
  have j0 : (0 : Int) ≤ (nb : Int) := Int.natCast_nonneg _
  have j1 : (nb : Int) ≤ (c1 : Int) := by omega
  clear o1 s1 p1 hb1
  go_wp2_with (first | (at_builtin; refine Stopped.out ?_) | (at_make; refine Stopped.out ?_))
  refine HNR.out.mono ?_
  rintro e w2 ⟨p, G, rfl, hr2, hb2, hG2⟩
  have HRm := Lib.hid (roomy09 w2 (HL.out.2.2.below (bthen H1.out.2.2 hb2)) (by omega))
  have H2 := Lib.hid (And.intro hr2 (And.intro hb2 (And.intro hG2 (bthen H1.out.2.2 hb2))))
  clear hr2 hb2 hG2 HNR
  go_wp2_with (first | (at_builtin; refine Stopped.out ?_) | (at_make; refine Stopped.out ?_))
  refine HRm.out.mono ?_
  rintro e w3 ⟨v3, rfl, o3, hb3⟩
  obtain ⟨A3, c3, rfl, s3, _⟩ := own_sl o3
  have hs3 := same09 w3 (H1.out.2.1.below (bthen H2.out.2.1 hb3)) s3
  rw [decide_eq_true rfl] at hs3
  have H3 := Lib.hid (And.intro hs3 hb3)
  clear o3 s3 hs3 hb3
  go_wp2_with (first | (at_builtin; refine Stopped.out ?_) | (at_make; refine Stopped.out ?_))
  refine H3.out.1.mono ?_
  rintro e w4 ⟨rfl, hd4⟩
  have hb24 := bthen H3.out.2 hd4.below
  have h4o := own_below H1.out.1 (bthen H2.out.2.1 hb24)
  have hg1G : g1 ∉ G := fun hx => by have := H2.out.2.2.1 _ hx; omega
  have H4 := Lib.hid (And.intro (H2.out.1.below hb24) (And.intro h4o (And.intro (bthen H2.out.2.2.2 hb24) hg1G)))
  have hGW : ∀ x ∈ G, W.heap.size ≤ x := fun x hx => by have h1 := H2.out.2.2.1 x hx; have h2 := H1.out.2.2.size; omega
  have HGW := Lib.hid hGW
  clear hd4 hb24 h4o hg1G hGW H3
  go_wp2
  go_loopw [7] (fun ii wr => ∃ (k : Nat) (xs : List Value), k ≤ nb + 64 ∧ ii = .int .i64 k ∧ wr.ownsRow W.heap.size 5 1 (.slice (some ⟨g1, 0, none⟩) (nb + 64) c1) (nb + 64) xs ∧ Keep [g1] w4 wr) (fun ii _ => nb + 64 - (intOf ii).toNat)
  case atStart => exact ⟨0, _, Nat.zero_le _, rfl, H4.out.2.1, Keep.refl _ _⟩
  case round =>
    obtain ⟨k, xs, hk, rfl, ho, hkw⟩ := hrel
    by_cases hlt : k < nb + 64
    · have hf0 := ho.frozenAt k
      obtain ⟨v0, hc0⟩ := own_cell ho k (by omega)
      have HN := Lib.hid (And.intro (ho.stored k (.int .u8 0)).1 (hkw.setCell (p := ⟨g1, k, none⟩) (.inl (by simp)) (.int .u8 0)))
      have k0 : (0 : Int) ≤ (k : Int) := Int.natCast_nonneg _
      have k1 : (k : Int) < (nb : Int) + 64 := by omega
      clear ho hkw
      go_wp2
      first | go_roundw | refine ⟨?rel, ?measure⟩
      case rel => exact ⟨k + 1, _, by omega, by go_num, HN.out.1, HN.out.2⟩
      case measure => simp [intOf]; omega
    · have hr5 := H4.out.1.keep hkw (fun x hx hx2 => by simp at hx2; subst hx2; exact H4.out.2.2.2 hx)
      have hbW := hkw.below H4.out.2.2.1 H4.out.2.2.1.size (fun x hx => by simp at hx; omega)
      have hk1 : decide ((k : Int) < (nb : Int) + 64) = false := decide_eq_false (by omega)
      obtain ⟨q, hq⟩ : ∃ q, q = wr.heap.size := ⟨_, rfl⟩
      have hbq : Below wr.heap.size wr (wr.alloc (.cells #[.slice B nb cb, .int .i64 0, .int .i64 0] 83)) := (Below.refl _ _).alloc (Nat.le_refl _) _
      have hin : RIn (wr.alloc (.cells #[.slice B nb cb, .int .i64 0, .int .i64 0] 83)) q W.heap.size l 0 0 := by
        refine ⟨⟨B, cb, by rw [hq, HLL.out]; exact heap_alloc_new wr _, by rw [HLL.out]; exact (HL.out.2.2.below hbW).below hbq, fun ad e h0 => ?_⟩, by rw [hq]; exact hbW.size, Nat.zero_le _, by rw [HLL.out]; omega⟩
        rw [HLL.out] at h0
        have h5 := HL.out.2.2.len
        have := cell_lt ((HL.out.2.2.at_ ad e (by rw [h5]; omega)).2 0 (by rw [h5]; omega))
        exact this
      have H5 := Lib.hid (And.intro (hr5.below hbq) (And.intro hin (And.intro (bthen hbW hbq) (show ∀ x ∈ G, x < q from fun x hx => by rw [hq]; exact hr5.lts x hx))))
      have hpW := HGW.out p hr5.mem
      have hqW : W.heap.size ≤ q := hin.low
      have hpq := hr5.lts p hr5.mem
      rw [← hq] at hpq
      clear ho hkw hr5 hbW hbq hin
      go_wp2
      rw [← hq]
      obtain ⟨w6, hw6⟩ : ∃ w6, w6 = wr.alloc (.cells #[.slice B nb cb, .int .i64 0, .int .i64 0] 83) := ⟨_, rfl⟩
      rw [← hw6] at H5 ⊢
      clear hw6 hq
      go_loopw [9] (fun ii wq => ∃ (k a f : Nat), k ≤ n ∧ ii = .int .i64 k ∧ Rd wq p G l a f ∧ RIn wq q W.heap.size l a f ∧ Below W.heap.size W wq) (fun ii _ => n - (intOf ii).toNat)
      case atStart => exact ⟨0, 0, 0, Nat.zero_le _, rfl, H5.out.1, H5.out.2.1, H5.out.2.2.1⟩
      case round =>
        obtain ⟨k, a, f, hk, rfl, hr, hi, hbw⟩ := hrel
        by_cases hlt : k < n
        · obtain ⟨w0, rfl⟩ : ∃ x, x = wr := ⟨_, rfl⟩
          have hkl : k < ss.length := by rw [HL.out.1]; exact hlt
          obtain ⟨b9, o9, rfl⟩ := h.sl.form (by omega)
          obtain ⟨ba, bn, bc, la, ln, lc, g0, g1', g2, g3, g4, g5, s1, s2, hnn, hmm⟩ := h.cells k hkl
          have hb9 := cell_lt g0
          simp only at hb9
          have hll := HLL.out
          have HRd := Lib.hid (read9 w0 hr ss[k].kd ss[k].x (ba := ba) (la := la) (n0 := bn) (bc := bc) (ln := ln) (lc := lc) ss[k].n ss[k].most hnn hmm (by omega))
          have HFo := Lib.hid (fun (w' : World) (h' : RIn w' q W.heap.size l a f) => (found9 w' h' ss[k].kd ss[k].x (ba := ba) (la := la) (n0 := bn) (bc := bc) (ln := ln) (lc := lc) ss[k].n ss[k].most hnn hmm (by omega)).mono (fun e w'' hq => hq.got))
          have G0 := And.intro (cell_below g0 hbw) (And.intro (cell_below g1' hbw) (And.intro (cell_below g2 hbw) (And.intro (cell_below g3 hbw) (And.intro (cell_below g4 hbw) (cell_below g5 hbw)))))
          obtain ⟨R, hR⟩ : ∃ R, R = stepR l a f ss[k].kd ss[k].n ss[k].most := ⟨_, rfl⟩
          rw [← hR] at HRd HFo
          obtain ⟨s, hs⟩ : ∃ s, s = ss[k] := ⟨_, rfl⟩
          rw [← hs] at HRd HFo G0
          obtain ⟨kd, x, bb, ns, nn, mo⟩ := s
          simp only at HRd HFo G0
          obtain ⟨⟨gx, gb, gns, gn⟩, a2, f2⟩ := R
          have HI := Lib.hid (And.intro hr (And.intro hi hbw))
          have HG := Lib.hid G0
          have hqlt := hi.lt
          have hplt := hr.lts p hr.mem
          have k0 : (0 : Int) ≤ (k : Int) := Int.natCast_nonneg _
          have k1 : (k : Int) < (n : Int) := by omega
          obtain ⟨g0, g1', g2, g3, g4, g5⟩ := G0
          clear hs hR s1 s2 hnn hmm hr hi hbw
          go_wp2_with (first | (at_builtin; refine Stopped.out ?_) | (at_make; refine Stopped.out ?_))
          refine HRd.out.mono ?_
          rintro e w7 ⟨vb, vl, rfl, o1, o2, hr7, hk7⟩
          simp only at o1 o2 hr7
          obtain ⟨Ab, cb', rfl, sb7, _⟩ := own_sl o1
          obtain ⟨Al, cl', rfl, sl7, _⟩ := own_sl o2
          have hcbm := sb7.max
          go_wp2_with fail
          obtain ⟨W8, hW8⟩ : ∃ W8, W8 = w7.alloc (.cells #[.int .u64 (gx : Int), .slice Ab gb.length cb', .slice Al gns.length cl', .int .i64 (gn : Int)] 85) := ⟨_, rfl⟩
          have hB8 : Below w7.heap.size w7 W8 := by rw [hW8]; exact (Below.refl _ _).alloc (Nat.le_refl _) _
          have hx0 := heap_alloc_new w7 (.cells #[.int .u64 (gx : Int), .slice Ab gb.length cb', .slice Al gns.length cl', .int .i64 (gn : Int)] 85)
          obtain ⟨z, hz⟩ : ∃ z, z = w7.heap.size := ⟨_, rfl⟩
          rw [← hW8, ← hz] at hx0
          rw [← hW8, ← hz]
          have hw7 := hk7.size
          have lw : ∀ {j : Nat} {v : Value}, w0.cell? ⟨b9, j, none⟩ = some v → W8.cell? ⟨b9, j, none⟩ = some v := fun hc => cell_below (hk7.cell hc (by simp; omega)) hB8
          have e0 := lw HG.out.1; have e1 := lw HG.out.2.1; have e2 := lw HG.out.2.2.1; have e3 := lw HG.out.2.2.2.1; have e4 := lw HG.out.2.2.2.2.1; have e5 := lw HG.out.2.2.2.2.2
          have e6 := box_cell hx0 0 _ rfl; have e7 := box_cell hx0 1 _ rfl; have e8 := box_cell hx0 2 _ rfl; have e9 := box_cell hx0 3 _ rfl
          have nb9 : b9 ∉ [q] := by simp; omega
          have nz : z ∉ [q] := by simp; omega
          have HFC : Hid (∀ w' : World, Keep [q] W8 w' → _) := Lib.hid (fun w' k => And.intro (k.cell e0 nb9) (And.intro (k.cell e1 nb9) (And.intro (k.cell e2 nb9) (And.intro (k.cell e3 nb9) (And.intro (k.cell e4 nb9) (And.intro (k.cell e5 nb9) (And.intro (k.cell e6 nz) (And.intro (k.cell e7 nz) (And.intro (k.cell e8 nz) (k.cell e9 nz))))))))))
          have hK0 : Keep [q] W8 W8.drew := (Keep.refl _ _).drew
          have F0 := HFC.out _ hK0
          have hqG : q ∉ G := fun hx => by have := H5.out.2.2.2 q hx; omega
          have hr8 : Rd W8 p G l a2 f2 := hr7.below hB8
          have hi8 : RIn W8.drew q W.heap.size l a f := ((HI.out.2.1.keep hk7 (fun y hy => by simp at hy; subst hy; exact ⟨by omega, hpW⟩)).below hB8).below ((Below.refl _ _).drew)
          have hg8 : GotIs W8.drew (.agg #[.int .u64 (gx : Int), .slice Ab gb.length cb', .slice Al gns.length cl', .int .i64 (gn : Int)]) ⟨gx, gb, gns, gn⟩ := ⟨Ab, Al, _, _, _, _, rfl, (sb7.below hB8).below ((Below.refl _ _).drew), (sl7.below hB8).below ((Below.refl _ _).drew)⟩
          have hgq : ∀ w', Keep [q] W8.drew w' → GotIs w' (.agg #[.int .u64 (gx : Int), .slice Ab gb.length cb', .slice Al gns.length cl', .int .i64 (gn : Int)]) ⟨gx, gb, gns, gn⟩ := fun w' hk => by
            obtain ⟨A', B', n', c', m', d', he, t1, t2⟩ := hg8
            injection he with he
            have he1 := congrArg Array.toList he
            simp at he1
            have o1' := own_below o1 hB8
            have o2' := own_below o2 hB8
            have low : ∀ {T sz n : Nat} {u : Value} {xs : List Value}, W8.ownsRow w0.heap.size T sz u n xs → w'.ownsRow w0.heap.size T sz u n xs := fun o => hk.own (w := W8.drew) o (fun b hb hx => by have := (o.lt b hb).1; simp at hx; omega)
            exact ⟨Ab, Al, _, _, _, _, rfl, (own_sl' (low o1')).2.1, (own_sl' (low o2')).2.1⟩
          have hkG : ∀ w', Keep [q] W8 w' → Rd w' p G l a2 f2 := fun w' hk => hr8.keep hk (fun y hy hx => by simp at hx; subst hx; exact hqG hy)
          obtain ⟨D, hD⟩ : ∃ D, D = doneR l a2 f2 := ⟨_, rfl⟩
          obtain ⟨lf, hlf⟩ : ∃ lf, lf = l.length - a2 := ⟨_, rfl⟩
          have HDr : Hid (∀ w', Rd w' p G l a2 f2 → Calls Try.prog 49 #[.pointer (some ⟨p, 0, none⟩)] w' fun e w'' => e = .returned (.int .i64 (D : Int)) ∧ Drawn w' w'') := Lib.hid (fun w' hr => by rw [hD]; exact Rd_Done w' hr)
          have HDi : Hid (∀ w', RIn w' q W.heap.size l a2 f2 → Calls Try.prog 53 #[.pointer (some ⟨q, 0, none⟩)] w' fun e w'' => e = .returned (.int .i64 (D : Int)) ∧ Drawn w' w'') := Lib.hid (fun w' hr => by rw [hD]; exact in_Done w' hr)
          have HLr : Hid (∀ w', Rd w' p G l a2 f2 → Calls Try.prog 54 #[.pointer (some ⟨p, 0, none⟩)] w' fun e w'' => e = .returned (.int .i64 (lf : Int)) ∧ Drawn w' w'') := Lib.hid (fun w' hr => by rw [hlf]; exact Rd_Left w' hr)
          have HLi : Hid (∀ w', RIn w' q W.heap.size l a2 f2 → Calls Try.prog 55 #[.pointer (some ⟨q, 0, none⟩)] w' fun e w'' => e = .returned (.int .i64 (lf : Int)) ∧ Drawn w' w'') := Lib.hid (fun w' hr => by rw [hlf]; exact in_Left w' hr)
          have HGQ := Lib.hid hgq
          have HKG := Lib.hid hkG
          have HO := Lib.hid (And.intro (own_below o1 hB8) (And.intro (show ∀ b, (Value.slice Ab gb.length cb').ownBlock = some b → b < z from fun b hb => by rw [hz]; exact (o1.lt b hb).2) (And.intro (show Below W.heap.size W W8 from (hk7.below HI.out.2.2 HI.out.2.2.size (fun x hx => by simp at hx; omega)).trans (hB8.mono (Nat.le_trans HI.out.2.2.size hw7))) (show w0.heap.size ≤ W8.heap.size from Nat.le_trans hw7 hB8.size))))
          have HZW := Lib.hid hz
          clear hz g0 g1' g2 g3 g4 g5 e0 e1 e2 e3 e4 e5 e6 e7 e8 e9 hx0 hW8 hB8 o1 o2 hr7 hk7 lw HRd hg8 hgq hkG hr8 sb7 sl7 hD hlf
          go_region_held3 (fun w' => w'.cell? ⟨b9, o9 + k * 6, none⟩ = some (.int .i64 kd) ∧ w'.cell? ⟨b9, o9 + k * 6 + 1, none⟩ = some (.int .u64 x) ∧ w'.cell? ⟨b9, o9 + k * 6 + 2, none⟩ = some (.slice ba bn bc) ∧ w'.cell? ⟨b9, o9 + k * 6 + 3, none⟩ = some (.slice la ln lc) ∧ w'.cell? ⟨b9, o9 + k * 6 + 4, none⟩ = some (.int .i64 nn) ∧ w'.cell? ⟨b9, o9 + k * 6 + 5, none⟩ = some (.int .i64 mo) ∧
            w'.cell? ⟨z, 0, none⟩ = some (.int .u64 gx) ∧ w'.cell? ⟨z, 1, none⟩ = some (.slice Ab gb.length cb') ∧ w'.cell? ⟨z, 2, none⟩ = some (.slice Al gns.length cl') ∧ w'.cell? ⟨z, 3, none⟩ = some (.int .i64 gn))
            (first | exact F6 | exact F5 | exact F4 | exact F3 | exact F2 | exact F1 | exact F0 | go_keep)
            (first
              | (go_at_call 55; refine (HLi.out _ hi5).mono ?_; rintro e wf ⟨rfl, hdf⟩; have hk6 := hk5.trans (hdf.keep [q]); have hi6 := hi5.below hdf.below; have F6 := HFC.out _ hk6)
              | (go_at_call 54; refine (HLr.out _ (HKG.out _ hk4)).mono ?_; rintro e we ⟨rfl, hde⟩; have hk5 := hk4.trans (hde.keep [q]); have hi5 := hi4.below hde.below; have F5 := HFC.out _ hk5)
              | (go_at_call 53; refine (HDi.out _ hi3).mono ?_; rintro e wd ⟨rfl, hdd⟩; have hk4 := hk3.trans (hdd.keep [q]); have hi4 := hi3.below hdd.below; have F4 := HFC.out _ hk4)
              | (go_at_call 49; refine (HDr.out _ (HKG.out _ hk2)).mono ?_; rintro e wc ⟨rfl, hdc⟩; have hk3 := hk2.trans (hdc.keep [q]); have hi3 := hi2.below hdc.below; have F3 := HFC.out _ hk3)
              | (go_at_call 51; refine (alike_same _ (HGQ.out _ hkd1) gva).mono ?_; rintro e wb ⟨rfl, hbb⟩; have hk2 := hk1.trans (Keep.of_below hbb [q]); have hi2 := hi1.below hbb; have F2 := HFC.out _ hk2)
              | (go_at_call 52; refine (HFo.out _ hi8).mono ?_; rintro e wa ⟨va, rfl, gva, hi1, hkd1⟩; have hk1 := hK0.trans hkd1; have F1 := HFC.out _ hk1))
          obtain ⟨m, hm⟩ : ∃ m, m = gb.length := ⟨_, rfl⟩
          have e7 := F6.2.2.2.2.2.2.2.1
          have ho6 := hk6.own HO.out.1 (fun b hb hx => by have h1 := HO.out.1.lt b hb; simp at hx; omega)
          have hr6 := HKG.out _ hk6
          have hbW6 : Below W.heap.size W wf := hk6.below HO.out.2.2.1 HO.out.2.2.1.size (fun x hx => by simp at hx; omega)
          rw [← hm] at e7 ho6
          have HX := Lib.hid (And.intro ho6 (And.intro hr6 (And.intro hi6 (And.intro hbW6 (And.intro e7 (show ∀ b, (Value.slice Ab m cb').ownBlock = some b → b < z from by rw [hm]; exact HO.out.2.1))))))
          rw [← hm]
          clear F0 F1 F2 F3 F4 F5 F6 HFC HFo HDr HDi HLr HLi HGQ HKG hk1 hk2 hk3 hk4 hk5 hk6 hi1 hi2 hi3 hi4 hi5 hi6 hi8 hK0 hkd1 hbb hdc hdd hde hdf gva ho6 hr6 hbW6 e7 hm HG
          go_wp2
          go_loopw [11] (fun jj wq => ∃ (j : Nat) (xs : List Value), j ≤ m ∧ jj = .int .i64 j ∧ wq.ownsRow w0.heap.size 5 1 (.slice Ab m cb') m xs ∧ Keep (Value.slice Ab m cb').ownBlock.toList wf wq) (fun jj _ => m - (intOf jj).toNat)
          case atStart => exact ⟨0, _, Nat.zero_le _, rfl, HX.out.1, Keep.refl _ _⟩
          case round =>
            obtain ⟨j, xs, hj, rfl, ho, hkq⟩ := hrel
            have ez := hkq.cell HX.out.2.2.2.2.1 (fun hx => by have := HX.out.2.2.2.2.2 z (by simpa using hx); omega)
            by_cases hjl : j < m
            · obtain ⟨gv, cv, hve, hgv1, hgv2, hgv3⟩ := own_form ho (by omega)
              injection hve with hA1 hA2 hA3
              subst hA1; subst hA3
              have hf0 := ho.frozenAt j
              obtain ⟨v0, hc0⟩ := own_cell ho j (by omega)
              have HN := Lib.hid (And.intro (ho.stored j (.int .u8 5)).1 (hkq.setCell (p := ⟨gv, j, none⟩) (.inl (by simp [Value.ownBlock])) (.int .u8 5)))
              have q0 : (0 : Int) ≤ (j : Int) := Int.natCast_nonneg _
              have q1 : (j : Int) < (m : Int) := by omega
              clear ho hkq
              go_wp2
              first | go_roundw | refine ⟨?rel, ?measure⟩
              case rel => exact ⟨j + 1, _, by omega, by go_num, HN.out.1, HN.out.2⟩
              case measure => simp [intOf]; omega
            · have hrow : ∀ b ∈ (Value.slice Ab m cb').ownBlock.toList, w0.heap.size ≤ b := fun b hb => (ho.lt b (by simpa using hb)).1
              have hGr := HI.out.1.lts
              have HN : Hid (Rd wr p G l a2 f2 ∧ RIn wr q W.heap.size l a2 f2 ∧ Below W.heap.size W wr) := Lib.hid ⟨HX.out.2.1.keep hkq (fun x hx hx2 => by have h1 := hrow x hx2; have h2 := hGr x hx; omega), HX.out.2.2.1.keep hkq (fun x hx => by have h1 := hrow x hx; have := HI.out.2.2.size; omega), hkq.below HX.out.2.2.2.1 HX.out.2.2.2.1.size (fun x hx => by have h1 := hrow x hx; have := HI.out.2.2.size; omega)⟩
              have q1 : decide ((j : Int) < (m : Int)) = false := decide_eq_false (by omega)
              clear ho hkq hrow hGr
              go_wp2
              first | go_roundw | refine ⟨?rel, ?measure⟩
              case rel => exact ⟨k + 1, a2, f2, by omega, by go_num, HN.out⟩
              case measure => simp [intOf]; omega
        · have hdr := Rd_Done wr hr
          obtain ⟨D, hD⟩ : ∃ D, D = doneR l a f := ⟨_, rfl⟩
          obtain ⟨lf, hlf⟩ : ∃ lf, lf = l.length - a := ⟨_, rfl⟩
          rw [← hD] at hdr
          have HD := Lib.hid (And.intro hdr (And.intro hr (And.intro hi (And.intro hbw (And.intro hD hlf)))))
          have k1 : decide ((k : Int) < (n : Int)) = false := decide_eq_false (by omega)
          clear hdr hr hi hbw hD hlf
          go_wp2_with (first | (at_builtin; refine Stopped.out ?_) | (at_make; refine Stopped.out ?_))
          refine HD.out.1.mono ?_
          rintro e wa ⟨rfl, hda⟩
          have hdi := in_Done wa (HD.out.2.2.1.below hda.below)
          rw [← HD.out.2.2.2.2.1] at hdi
          have HE := Lib.hid (And.intro hdi hda.below)
          clear hdi hda
          go_wp2_with (first | (at_builtin; refine Stopped.out ?_) | (at_make; refine Stopped.out ?_))
          refine HE.out.1.mono ?_
          rintro e wb ⟨rfl, hdb⟩
          have hb2 := bthen HE.out.2 hdb.below
          have hlr := Rd_Left wb (HD.out.2.1.below hb2)
          rw [← HD.out.2.2.2.2.2] at hlr
          have HF := Lib.hid (And.intro hlr hb2)
          clear hdb hb2 hlr
          go_wp2_with (first | (at_builtin; refine Stopped.out ?_) | (at_make; refine Stopped.out ?_))
          refine HF.out.1.mono ?_
          rintro e wc ⟨rfl, hdc⟩
          have hb3 := bthen HF.out.2 hdc.below
          have hli := in_Left wc (HD.out.2.2.1.below hb3)
          rw [← HD.out.2.2.2.2.2] at hli
          have HG := Lib.hid (And.intro hli hb3)
          clear hdc hb3 hli
          go_wp2_with (first | (at_builtin; refine Stopped.out ?_) | (at_make; refine Stopped.out ?_))
          refine HG.out.1.mono ?_
          rintro e wd ⟨rfl, hdd⟩
          have HN := Lib.hid (bthen HD.out.2.2.2.1 (bthen HG.out.2 hdd.below))
          clear hdd
          go_wp2
          go_ret
          exact ⟨rfl, HN.out⟩
end Go.Proofs.Ytdooabbeolfgfaa
