import Derived.Test.YtpjmbhhfpoamnaaJn27
set_option linter.unusedVariables false
set_option linter.unusedSimpArgs false
namespace Go.Proofs.Ytpjmbhhfpoamnaa
open Go.RowKit
set_option maxRecDepth 100000 in
set_option maxHeartbeats 3200000 in
theorem kept_keep (w : World) {p q N : Nat} {G Ls : List Nat} (hLs : ∀ x ∈ Ls, x < w.heap.size) {j : JSt} {s : FSt} {h : Hd} (hf : Fl w p G s) (hj : Jo w q p j) (hqG : q ∉ G) (J : JI 0 j s h) (hok : FOkN N s) (hN : N ≤ 4611686018427387880) {a0 a1 : Value} (H : HIn w (Pn w q G Ls) a0 a1 h) (kd af kp : Int) {da sa : Option Addr} {dn dc sn sc : Nat} {od os : List UInt8}
    (dS : Sl w 1 da dn dc (od.map by8)) (dm : dn ≤ 140737488351232) (dP : ∀ ad, da = some ad → 0 < dn → Pn w q G Ls ad.block) (sS : Sl w 1 sa sn sc (os.map by8)) (sm : sn ≤ 140737488351232) (sP : ∀ ad, sa = some ad → 0 < sn → Pn w q G Ls ad.block) (hkd : kd = 5) :
    Calls Try.prog 67 #[.pointer (some ⟨q, 0, none⟩), .agg #[a0, a1], .agg #[.int .i64 kd, .slice da dn dc, .slice sa sn sc, .int .i64 af, .int .i64 kp]] w (KeptP w p q G Ls s N) := by
  subst hkd
  obtain ⟨A, n, c, Av, nr, cv, vs, rfl, rfl, _⟩ := H.out
  have hq : q < w.heap.size := (Array.getElem?_eq_some_iff.1 hj).1
  have hG := hf.lts
  have HLs := Lib.hid hLs
  clear hLs
  have hln := J.lens
  have hsz := J.size hok
  have hfew : h.recs.length ≤ 1048576 := by omega
  obtain ⟨E, hE⟩ : ∃ x : Nat, x = j.epoch := ⟨_, rfl⟩
  obtain ⟨W2, hW2⟩ : ∃ x, x = (w.alloc (.cells #[.slice A n c, .slice Av nr cv] 106)).alloc (.cells #[.int .i64 5, .slice da dn dc, .slice sa sn sc, .int .i64 af, .int .i64 kp] 97) := ⟨_, rfl⟩
  have z2 : W2.heap.size = w.heap.size + 1 + 1 := by rw [hW2]; simp
  have b2 : Below w.heap.size w W2 := by rw [hW2]; exact ((Below.refl _ _).alloc (Nat.le_refl _) _).alloc (by simp) _
  have x4 : W2.heap[w.heap.size]? = some (.cells #[.slice A n c, .slice Av nr cv] 106 (0, 0)) := by rw [hW2]; exact heap_new1 _ _ _
  have x5 : W2.heap[w.heap.size + 1]? = some (.cells #[.int .i64 5, .slice da dn dc, .slice sa sn sc, .int .i64 af, .int .i64 kp] 97 (0, 0)) := by rw [hW2]; exact heap_new2 _ _ _
  have HEp : Hid (Calls Try.prog 63 #[.pointer (some ⟨q, 0, none⟩)] W2 fun e w' => e = .returned (.int .i64 (E : Nat)) ∧ W2 = w') := Lib.hid (by
    refine (JEpoch_any W2 (hj.below b2)).mono ?_
    rintro e w' ⟨rfl, rfl⟩
    exact ⟨by rw [J.dead, hE]; rfl, rfl⟩)
  have m0 : W2.cell? ⟨w.heap.size, 0, none⟩ = some (.slice A n c) := box_cell x4 0 _ rfl
  have m1 : W2.cell? ⟨w.heap.size, 1, none⟩ = some (.slice Av nr cv) := box_cell x4 1 _ rfl
  have HX := Lib.hid (And.intro x4 (And.intro x5 (And.intro b2 z2)))
  have HJ := Lib.hid (And.intro hf (And.intro hj (And.intro hqG (And.intro J (And.intro hok (And.intro H (And.intro hq hG)))))))
  have HD := Lib.hid (And.intro dS (And.intro dm (And.intro dP (And.intro sS (And.intro sm sP)))))
  have HEE := Lib.hid hE
  have HJ2 := Lib.hid (And.intro J.bank (And.intro (show j.count ≤ 4611686018427387904 by have := J.count; omega) (And.intro (show j.used ≤ 4611686018427387904 by have := J.used; omega) (And.intro hln.2.2.2.2 hfew))))
  clear hf hj hqG J hok H hq hG hln hsz dS dm dP sS sm sP x4 x5 b2 z2 hE hfew
  go_enter Try.func67, Try.ntmps67
  go_wp2_with fail
  rw [← hW2]
  clear hW2
  refine HEp.out.mono ?_
  rintro e wz ⟨rfl, rfl⟩
  clear HEp
  go_upto_region 3 with fail
  obtain ⟨W3, hW3⟩ : ∃ x, x = W2.alloc (.cells #[.slice A n c, .slice Av nr cv] 106) := ⟨_, rfl⟩
  have b3 : Below W2.heap.size W2 W3 := by rw [hW3]; exact (Below.refl _ _).alloc (Nat.le_refl _) _
  have z3 : W3.heap.size = w.heap.size + 1 + 1 + 1 := by rw [hW3]; simp [HX.out.2.2.2]
  have o9 : W3.ownsRow W2.heap.size 106 2 (.slice (some ⟨W2.heap.size, 0, none⟩) 1 1) 1 [.slice A n c, .slice Av nr cv] := by
    have h1 := World.ownsRow_lit (base := W2.heap.size) (e := 106) (size := 2) W2 #[.slice A n c, .slice Av nr cv] 1 (Nat.le_refl _) (by decide) rfl
    rw [← hW3] at h1; exact h1
  have hel3 : Hels W3 (Pn W3 q G Ls) (some ⟨W2.heap.size, 0, none⟩) 1 1 [.slice A n c, .slice Av nr cv] [h] := by
    rw [hW3]
    exact Hels.one (HJ.out.2.2.2.2.2.1.pbelow HX.out.2.2.1) (fun x hx => hx.below ((Below.refl _ _).alloc (Nat.le_refl _) _)) (Pn.new (Nat.lt_of_lt_of_le HJ.out.2.2.2.2.2.2.1 HX.out.2.2.1.size) (fun x hx => Nat.lt_of_lt_of_le (HJ.out.2.2.2.2.2.2.2 x hx) HX.out.2.2.1.size) (fun x hx => Nat.lt_of_lt_of_le (HLs.out x hx) HX.out.2.2.1.size) (Nat.le_refl _) (by simp))
  have HL3 := Lib.hid hel3
  clear hel3
  have x4 := heap_below HX.out.1 b3
  have x5 := heap_below HX.out.2.1 b3
  have hb := bthen HX.out.2.2.1 b3
  rw [← hW3]
  clear hW3 m0 m1
  have HF := Lib.hid (And.intro (HJ.out.1.below hb) (And.intro (HJ.out.2.1.below hb) (And.intro (HD.out.1.below hb) (HD.out.2.2.2.1.below hb))))
  have p0 : W3.cell? ⟨(w.heap.size+1), 0, none⟩ = some (.int .i64 5) := box_cell x5 0 _ rfl
  have p1 : W3.cell? ⟨(w.heap.size+1), 1, none⟩ = some (.slice da dn dc) := box_cell x5 1 _ rfl
  have p2 : W3.cell? ⟨(w.heap.size+1), 2, none⟩ = some (.slice sa sn sc) := box_cell x5 2 _ rfl
  have p3 : W3.cell? ⟨(w.heap.size+1), 3, none⟩ = some (.int .i64 af) := box_cell x5 3 _ rfl
  have p4 : W3.cell? ⟨(w.heap.size+1), 4, none⟩ = some (.int .i64 kp) := box_cell x5 4 _ rfl
  have HW3 := Lib.hid (And.intro x4 (And.intro x5 (And.intro o9 (And.intro hb (And.intro z3 HX.out.2.2.2)))))
  clear x4 x5 o9 hb z3 b3 p3 p4
  have HA := JKeep_any W3 HF.out.2.1 HF.out.1 HJ.out.2.2.1 HJ.out.2.2.2.2.1 (by omega) HJ2.out.1 HJ2.out.2.2.2.1 HJ2.out.2.1 HJ2.out.2.2.1 HF.out.2.2.1 HF.out.2.2.2 HD.out.2.2.2.2.1
    (fun ad e hz => ⟨(HD.out.2.2.1 ad e hz).2.1, Nat.lt_of_lt_of_le (HD.out.2.2.1 ad e hz).1 HW3.out.2.2.2.1.size⟩) (fun ad e hz => ⟨(HD.out.2.2.2.2.2 ad e hz).2.1, Nat.lt_of_lt_of_le (HD.out.2.2.2.2.2 ad e hz).1 HW3.out.2.2.2.1.size⟩)

  obtain ⟨j', hj'⟩ : ∃ x, x = (jkeepF j s od os).1 := ⟨_, rfl⟩
  obtain ⟨s', hs'⟩ : ∃ x, x = (jkeepF j s od os).2.1 := ⟨_, rfl⟩
  obtain ⟨ev, hev⟩ : ∃ x, x = (jkeepF j s od os).2.2 := ⟨_, rfl⟩
  have hok' : FOkN (N + 4) s' := by rw [hs']; exact jkeepF_ok HJ.out.2.2.2.2.1 od os
  have hex : jkeepF j s od os = (j', s', ev) := by rw [hj', hs', hev]

  have hcs := jkeepF_cases HJ.out.2.2.2.1 HJ.out.2.2.2.2.1 (by omega) od os
  rw [hex] at HA hcs
  have hC : (ev = 0 ∧ s'.armed.length ≤ s.armed.length ∧ ((j'.epoch = E ∧ JI 0 j' s' (h.with_ od)) ∨ (j'.epoch = E + 1 ∧ JI 0 j' s' (Hd.with_ ⟨os, []⟩ od)))) ∨ (ev ≠ 0 ∧ ((ev ≠ 121 ∧ j' = j ∧ s' = s) ∨ (ev = 121 ∧ s'.down = true ∧ s'.armed.length + 1 ≤ s.armed.length ∧ (SI 0 s' h ∨ SI 0 s' (h.with_ od) ∨ SI 0 s' ⟨os, []⟩ ∨ SI 0 s' (Hd.with_ ⟨os, []⟩ od))))) := by
    have hEE := HEE.out
    rcases hcs with ⟨g, e, hg, _⟩ | ⟨j2, s2, e, q1, ⟨q2, _, _, q3⟩ | ⟨q2, _, _, _, q3⟩⟩ | ⟨j2, s2, e, q1, q2⟩
    · injection e with e1 e2; injection e2 with e2 e3
      exact .inr ⟨by omega, .inl ⟨by omega, e1, e2⟩⟩
    · injection e with e1 e2; injection e2 with e2 e3
      subst e1; subst e2
      exact .inl ⟨e3, q1.armed, .inl ⟨by omega, q3⟩⟩
    · injection e with e1 e2; injection e2 with e2 e3
      subst e1; subst e2
      exact .inl ⟨e3, q1.armed, .inr ⟨by omega, q3⟩⟩
    · injection e with e1 e2; injection e2 with e2 e3
      subst e1; subst e2
      exact .inr ⟨by omega, .inr ⟨e3, q1.down, q1.armed, q2⟩⟩

  have HA := Lib.hid HA
  have HOk := Lib.hid hok'
  clear hj' hs' hev hok' hcs hex

  rcases hC with ⟨rfl, hAr, ⟨h1, hJ⟩ | ⟨h1, hJ⟩⟩ | ⟨hne, hC⟩
  · have HC := Lib.hid (And.intro hAr (And.intro hJ h1))
    have t1 : ((E : Int) == (E : Int)) = true := by simp
    clear hJ hAr h1
    go_wp2_with fail
    refine HA.out.mono ?_
    rintro e w4 ⟨rfl, k4⟩
    clear HA p0 p1 p2

    have hq3 : q < W3.heap.size := Nat.lt_of_lt_of_le HJ.out.2.2.2.2.2.2.1 HW3.out.2.2.2.1.size
    obtain ⟨G2, g4⟩ := JG.of k4 hq3 HJ.out.2.2.1
    have ne4 : ∀ x, w.heap.size ≤ x → x ∉ q :: G := fun x hx hm => by
      rcases List.mem_cons.1 hm with e | e
      · have := HJ.out.2.2.2.2.2.2.1; omega
      · have := HJ.out.2.2.2.2.2.2.2 x e; omega
    have x4 := g4.keep.heap HW3.out.1 (ne4 _ (Nat.le_refl _))
    have x5 := g4.keep.heap HW3.out.2.1 (ne4 _ (by omega))
    have o9 := g4.keep.own HW3.out.2.2.1 (fun b hb => ne4 _ (by injection hb with hb; have e1 : W2.heap.size = b := hb; have := HW3.out.2.2.2.2.2; omega))
    have gg := g4.ahead HW3.out.2.2.2.1
    have hL : W2.heap.size ∉ q :: G2 ∧ W2.heap.size < w4.heap.size := by
      have e1 := HW3.out.2.2.2.2.2
      have e2 := HW3.out.2.2.2.2.1
      have e3 := g4.keep.size
      refine ⟨fun hm => ?_, by omega⟩
      rcases List.mem_cons.1 hm with e | e
      · have := HJ.out.2.2.2.2.2.2.1; omega
      · rcases g4.out _ e with e4 | e4
        · have := HJ.out.2.2.2.2.2.2.2 _ e4; omega
        · omega
    have i4 : HIn w4 (PnL w4 q G2 Ls W2.heap.size) (.slice A n c) (.slice Av nr cv) h := (HJ.out.2.2.2.2.2.1.keep gg.keep (fun x hx => hx.2.1)).mono (fun x hx => ⟨gg.pn hx, by have := hx.1; have e1 := HW3.out.2.2.2.2.2; omega⟩)
    have d4 := HF.out.2.2.1.keepz g4.keep (fun ad e hz => (HD.out.2.2.1 ad e hz).2.1)
    have s4 := HF.out.2.2.2.keepz g4.keep (fun ad e hz => (HD.out.2.2.2.2.2 ad e hz).2.1)
    have hz4 := g4.keep.size
    have H4 := Lib.hid (And.intro x4 (And.intro x5 (And.intro o9 (And.intro gg (And.intro i4 (And.intro d4 (And.intro s4 hz4)))))))
    have HP4 : Hid ((∀ ad, da = some ad → 0 < dn → PnL w4 q G2 Ls W2.heap.size ad.block) ∧ (∀ ad, sa = some ad → 0 < sn → PnL w4 q G2 Ls W2.heap.size ad.block)) := Lib.hid ⟨fun ad e hz => ⟨gg.pn (HD.out.2.2.1 ad e hz), by have := (HD.out.2.2.1 ad e hz).1; have e1 := HW3.out.2.2.2.2.2; omega⟩, fun ad e hz => ⟨gg.pn (HD.out.2.2.2.2.2 ad e hz), by have := (HD.out.2.2.2.2.2 ad e hz).1; have e1 := HW3.out.2.2.2.2.2; omega⟩⟩
    have hG4 := Lib.hid (And.intro gg.fl.lts (And.intro (Nat.lt_of_lt_of_le hq3 hz4) hL))
    have hLs4 : Hid (∀ x ∈ Ls, x < w4.heap.size) := Lib.hid (fun x hx => Nat.lt_of_lt_of_le (HLs.out x hx) (Nat.le_trans HW3.out.2.2.2.1.size hz4))
    have m0 : w4.cell? ⟨w.heap.size, 0, none⟩ = some (.slice A n c) := box_cell x4 0 _ rfl
    have m1 : w4.cell? ⟨w.heap.size, 1, none⟩ = some (.slice Av nr cv) := box_cell x4 1 _ rfl
    have p0 : w4.cell? ⟨(w.heap.size+1), 0, none⟩ = some (.int .i64 5) := box_cell x5 0 _ rfl
    have p1 : w4.cell? ⟨(w.heap.size+1), 1, none⟩ = some (.slice da dn dc) := box_cell x5 1 _ rfl
    have p2 : w4.cell? ⟨(w.heap.size+1), 2, none⟩ = some (.slice sa sn sc) := box_cell x5 2 _ rfl
    have p3 : w4.cell? ⟨(w.heap.size+1), 3, none⟩ = some (.int .i64 af) := box_cell x5 3 _ rfl
    have p4 : w4.cell? ⟨(w.heap.size+1), 4, none⟩ = some (.int .i64 kp) := box_cell x5 4 _ rfl
    clear k4 g4 hL ne4 x4 x5 o9 gg i4 d4 s4 hq3 hz4 p3 p4

    go_upto_region 19 with fail
    obtain ⟨wA, hwA⟩ : ∃ x, x = w4.alloc (.cells #[.slice sa sn sc, .slice none 0 0] 106) := ⟨_, rfl⟩
    have bA : Below w4.heap.size w4 wA := by rw [hwA]; exact (Below.refl _ _).alloc (Nat.le_refl _) _
    have xA : wA.heap[w4.heap.size]? = some (.cells #[.slice sa sn sc, .slice none 0 0] 106 (0, 0)) := by rw [hwA]; exact heap_alloc_new _ _
    have x4A := heap_below H4.out.1 bA
    have x5A := heap_below H4.out.2.1 bA
    rw [← hwA]
    clear hwA m0 m1 p0 p1 p2
    have m0 : wA.cell? ⟨w.heap.size, 0, none⟩ = some (.slice A n c) := box_cell x4A 0 _ rfl
    have m1 : wA.cell? ⟨w.heap.size, 1, none⟩ = some (.slice Av nr cv) := box_cell x4A 1 _ rfl
    have p0 : wA.cell? ⟨(w.heap.size+1), 0, none⟩ = some (.int .i64 5) := box_cell x5A 0 _ rfl
    have p1 : wA.cell? ⟨(w.heap.size+1), 1, none⟩ = some (.slice da dn dc) := box_cell x5A 1 _ rfl
    have p2 : wA.cell? ⟨(w.heap.size+1), 2, none⟩ = some (.slice sa sn sc) := box_cell x5A 2 _ rfl
    have p3 : wA.cell? ⟨(w.heap.size+1), 3, none⟩ = some (.int .i64 af) := box_cell x5A 3 _ rfl
    have p4 : wA.cell? ⟨(w.heap.size+1), 4, none⟩ = some (.int .i64 kp) := box_cell x5A 4 _ rfl
    have r0 : wA.cell? ⟨w4.heap.size, 0, none⟩ = some (.slice sa sn sc) := box_cell xA 0 _ rfl
    have r1 : wA.cell? ⟨w4.heap.size, 1, none⟩ = some (.slice none 0 0) := box_cell xA 1 _ rfl
    have HIA := Lib.hid (And.intro (H4.out.2.2.2.2.1.plb bA) (And.intro ((HIn.nil (P := PnL w4 q G2 Ls W2.heap.size) H4.out.2.2.2.2.2.2.1 HP4.out.2).plb bA) (H4.out.2.2.2.2.2.1.below bA)))
    have HPA : Hid ((∀ ad, da = some ad → 0 < dn → PnL wA q G2 Ls W2.heap.size ad.block) ∧ q < wA.heap.size ∧ (∀ x ∈ G2, x < wA.heap.size) ∧ (∀ x ∈ Ls, x < wA.heap.size) ∧ W2.heap.size < wA.heap.size) := Lib.hid ⟨fun ad e hz => ⟨(HP4.out.1 ad e hz).1.below bA, (HP4.out.1 ad e hz).2⟩, Nat.lt_of_lt_of_le hG4.out.2.1 bA.size, fun x hx => Nat.lt_of_lt_of_le (hG4.out.1 x hx) bA.size, fun x hx => Nat.lt_of_lt_of_le (hLs4.out x hx) bA.size, Nat.lt_of_lt_of_le hG4.out.2.2.2 bA.size⟩
    have HBA := Lib.hid bA
    clear bA xA x4A x5A p0 p2 p3 p4

    have HE5 : Hid (Calls Try.prog 63 #[.pointer (some ⟨q, 0, none⟩)] wA fun e w' => e = .returned (.int .i64 (E : Nat)) ∧ wA = w') := Lib.hid (by
      refine (JEpoch_any wA (H4.out.2.2.2.1.jo.below HBA.out)).mono ?_
      rintro e w' ⟨rfl, rfl⟩
      exact ⟨by rw [HC.out.2.1.dead, HC.out.2.2]; rfl, rfl⟩)
    go_wp2_with fail
    refine HE5.out.mono ?_
    rintro e wz ⟨rfl, rfl⟩
    clear HE5
    go_wp2_with fail
    refine (with_any wA (HIA.out.1) (fun x hx => hx.1.1) (HJ2.out.2.2.2.2) HIA.out.2.2 HD.out.2.1 HPA.out.1).mono ?_
    rintro e w5 ⟨v1, rfl, i5, b5⟩
    obtain ⟨B, mb, cb, Bv, mr, cw, us, eB, rfl, -⟩ := i5.out
    have i5' : HIn w5 (PnL w5 q G2 Ls W2.heap.size) (.slice A n c) (.slice Bv mr cw) (h.with_ od) := i5.plw b5 HPA.out.2.1 HPA.out.2.2.1 HPA.out.2.2.2.1 HPA.out.2.2.2.2
    have H5 := Lib.hid (And.intro i5' (bthen HBA.out b5))
    clear i5 i5' b5 eB B mb cb us

    go_wp2
    go_ret2
    have bz : Below w5.heap.size w5 (w5.alloc (.cells #[.slice A n c, .slice Bv mr cw] 106)) := (Below.refl _ _).alloc (Nat.le_refl _) _
    have hz0 : w4.heap.size ≤ w5.heap.size := (H5.out.2).size
    refine ⟨_, 1, 1, _, [h.with_ od], _, j', s', G2, rfl, H4.out.2.2.2.1.below (bthen (H5.out.2) bz), Hels.one (H5.out.1) (fun x hx => hx.1.below bz) (Pn.new hG4.out.2.1 hG4.out.1 hLs4.out hz0 (by simp)), by omega, ⟨.inl ⟨rfl, _, rfl, HC.out.2.1, HC.out.1⟩⟩, HOk.out⟩

  · obtain ⟨E2, hE2⟩ : ∃ x : Nat, x = j'.epoch := ⟨_, rfl⟩
    have t1 : ((E2 : Int) == (E : Int)) = false := by simp; omega
    have HC := Lib.hid (And.intro hAr (And.intro hJ hE2.symm))
    clear hJ hAr h1 hE2
    go_wp2_with fail
    refine HA.out.mono ?_
    rintro e w4 ⟨rfl, k4⟩
    clear HA p0 p1 p2

    have hq3 : q < W3.heap.size := Nat.lt_of_lt_of_le HJ.out.2.2.2.2.2.2.1 HW3.out.2.2.2.1.size
    obtain ⟨G2, g4⟩ := JG.of k4 hq3 HJ.out.2.2.1
    have ne4 : ∀ x, w.heap.size ≤ x → x ∉ q :: G := fun x hx hm => by
      rcases List.mem_cons.1 hm with e | e
      · have := HJ.out.2.2.2.2.2.2.1; omega
      · have := HJ.out.2.2.2.2.2.2.2 x e; omega
    have x4 := g4.keep.heap HW3.out.1 (ne4 _ (Nat.le_refl _))
    have x5 := g4.keep.heap HW3.out.2.1 (ne4 _ (by omega))
    have o9 := g4.keep.own HW3.out.2.2.1 (fun b hb => ne4 _ (by injection hb with hb; have e1 : W2.heap.size = b := hb; have := HW3.out.2.2.2.2.2; omega))
    have gg := g4.ahead HW3.out.2.2.2.1
    have hL : W2.heap.size ∉ q :: G2 ∧ W2.heap.size < w4.heap.size := by
      have e1 := HW3.out.2.2.2.2.2
      have e2 := HW3.out.2.2.2.2.1
      have e3 := g4.keep.size
      refine ⟨fun hm => ?_, by omega⟩
      rcases List.mem_cons.1 hm with e | e
      · have := HJ.out.2.2.2.2.2.2.1; omega
      · rcases g4.out _ e with e4 | e4
        · have := HJ.out.2.2.2.2.2.2.2 _ e4; omega
        · omega
    have i4 : HIn w4 (PnL w4 q G2 Ls W2.heap.size) (.slice A n c) (.slice Av nr cv) h := (HJ.out.2.2.2.2.2.1.keep gg.keep (fun x hx => hx.2.1)).mono (fun x hx => ⟨gg.pn hx, by have := hx.1; have e1 := HW3.out.2.2.2.2.2; omega⟩)
    have d4 := HF.out.2.2.1.keepz g4.keep (fun ad e hz => (HD.out.2.2.1 ad e hz).2.1)
    have s4 := HF.out.2.2.2.keepz g4.keep (fun ad e hz => (HD.out.2.2.2.2.2 ad e hz).2.1)
    have hz4 := g4.keep.size
    have H4 := Lib.hid (And.intro x4 (And.intro x5 (And.intro o9 (And.intro gg (And.intro i4 (And.intro d4 (And.intro s4 hz4)))))))
    have HP4 : Hid ((∀ ad, da = some ad → 0 < dn → PnL w4 q G2 Ls W2.heap.size ad.block) ∧ (∀ ad, sa = some ad → 0 < sn → PnL w4 q G2 Ls W2.heap.size ad.block)) := Lib.hid ⟨fun ad e hz => ⟨gg.pn (HD.out.2.2.1 ad e hz), by have := (HD.out.2.2.1 ad e hz).1; have e1 := HW3.out.2.2.2.2.2; omega⟩, fun ad e hz => ⟨gg.pn (HD.out.2.2.2.2.2 ad e hz), by have := (HD.out.2.2.2.2.2 ad e hz).1; have e1 := HW3.out.2.2.2.2.2; omega⟩⟩
    have hG4 := Lib.hid (And.intro gg.fl.lts (And.intro (Nat.lt_of_lt_of_le hq3 hz4) hL))
    have hLs4 : Hid (∀ x ∈ Ls, x < w4.heap.size) := Lib.hid (fun x hx => Nat.lt_of_lt_of_le (HLs.out x hx) (Nat.le_trans HW3.out.2.2.2.1.size hz4))
    have m0 : w4.cell? ⟨w.heap.size, 0, none⟩ = some (.slice A n c) := box_cell x4 0 _ rfl
    have m1 : w4.cell? ⟨w.heap.size, 1, none⟩ = some (.slice Av nr cv) := box_cell x4 1 _ rfl
    have p0 : w4.cell? ⟨(w.heap.size+1), 0, none⟩ = some (.int .i64 5) := box_cell x5 0 _ rfl
    have p1 : w4.cell? ⟨(w.heap.size+1), 1, none⟩ = some (.slice da dn dc) := box_cell x5 1 _ rfl
    have p2 : w4.cell? ⟨(w.heap.size+1), 2, none⟩ = some (.slice sa sn sc) := box_cell x5 2 _ rfl
    have p3 : w4.cell? ⟨(w.heap.size+1), 3, none⟩ = some (.int .i64 af) := box_cell x5 3 _ rfl
    have p4 : w4.cell? ⟨(w.heap.size+1), 4, none⟩ = some (.int .i64 kp) := box_cell x5 4 _ rfl
    clear k4 g4 hL ne4 x4 x5 o9 gg i4 d4 s4 hq3 hz4 p3 p4

    go_upto_region 19 with fail
    obtain ⟨wA, hwA⟩ : ∃ x, x = w4.alloc (.cells #[.slice sa sn sc, .slice none 0 0] 106) := ⟨_, rfl⟩
    have bA : Below w4.heap.size w4 wA := by rw [hwA]; exact (Below.refl _ _).alloc (Nat.le_refl _) _
    have xA : wA.heap[w4.heap.size]? = some (.cells #[.slice sa sn sc, .slice none 0 0] 106 (0, 0)) := by rw [hwA]; exact heap_alloc_new _ _
    have x4A := heap_below H4.out.1 bA
    have x5A := heap_below H4.out.2.1 bA
    rw [← hwA]
    clear hwA m0 m1 p0 p1 p2
    have m0 : wA.cell? ⟨w.heap.size, 0, none⟩ = some (.slice A n c) := box_cell x4A 0 _ rfl
    have m1 : wA.cell? ⟨w.heap.size, 1, none⟩ = some (.slice Av nr cv) := box_cell x4A 1 _ rfl
    have p0 : wA.cell? ⟨(w.heap.size+1), 0, none⟩ = some (.int .i64 5) := box_cell x5A 0 _ rfl
    have p1 : wA.cell? ⟨(w.heap.size+1), 1, none⟩ = some (.slice da dn dc) := box_cell x5A 1 _ rfl
    have p2 : wA.cell? ⟨(w.heap.size+1), 2, none⟩ = some (.slice sa sn sc) := box_cell x5A 2 _ rfl
    have p3 : wA.cell? ⟨(w.heap.size+1), 3, none⟩ = some (.int .i64 af) := box_cell x5A 3 _ rfl
    have p4 : wA.cell? ⟨(w.heap.size+1), 4, none⟩ = some (.int .i64 kp) := box_cell x5A 4 _ rfl
    have r0 : wA.cell? ⟨w4.heap.size, 0, none⟩ = some (.slice sa sn sc) := box_cell xA 0 _ rfl
    have r1 : wA.cell? ⟨w4.heap.size, 1, none⟩ = some (.slice none 0 0) := box_cell xA 1 _ rfl
    have HIA := Lib.hid (And.intro (H4.out.2.2.2.2.1.plb bA) (And.intro ((HIn.nil (P := PnL w4 q G2 Ls W2.heap.size) H4.out.2.2.2.2.2.2.1 HP4.out.2).plb bA) (H4.out.2.2.2.2.2.1.below bA)))
    have HPA : Hid ((∀ ad, da = some ad → 0 < dn → PnL wA q G2 Ls W2.heap.size ad.block) ∧ q < wA.heap.size ∧ (∀ x ∈ G2, x < wA.heap.size) ∧ (∀ x ∈ Ls, x < wA.heap.size) ∧ W2.heap.size < wA.heap.size) := Lib.hid ⟨fun ad e hz => ⟨(HP4.out.1 ad e hz).1.below bA, (HP4.out.1 ad e hz).2⟩, Nat.lt_of_lt_of_le hG4.out.2.1 bA.size, fun x hx => Nat.lt_of_lt_of_le (hG4.out.1 x hx) bA.size, fun x hx => Nat.lt_of_lt_of_le (hLs4.out x hx) bA.size, Nat.lt_of_lt_of_le hG4.out.2.2.2 bA.size⟩
    have HBA := Lib.hid bA
    clear bA xA x4A x5A p0 p2 p3 p4

    have HE5 : Hid (Calls Try.prog 63 #[.pointer (some ⟨q, 0, none⟩)] wA fun e w' => e = .returned (.int .i64 (E2 : Nat)) ∧ wA = w') := Lib.hid (by
      refine (JEpoch_any wA (H4.out.2.2.2.1.jo.below HBA.out)).mono ?_
      rintro e w' ⟨rfl, rfl⟩
      exact ⟨by rw [HC.out.2.1.dead, HC.out.2.2]; rfl, rfl⟩)
    go_wp2_with fail
    refine HE5.out.mono ?_
    rintro e wz ⟨rfl, rfl⟩
    clear HE5
    go_wp2_with fail
    refine (with_any wA (HIA.out.2.1) (fun x hx => hx.1.1) (Nat.zero_le _) HIA.out.2.2 HD.out.2.1 HPA.out.1).mono ?_
    rintro e w5 ⟨v1, rfl, i5, b5⟩
    obtain ⟨B, mb, cb, Bv, mr, cw, us, eB, rfl, -⟩ := i5.out
    have i5' : HIn w5 (PnL w5 q G2 Ls W2.heap.size) (.slice sa sn sc) (.slice Bv mr cw) (Hd.with_ ⟨os, []⟩ od) := i5.plw b5 HPA.out.2.1 HPA.out.2.2.1 HPA.out.2.2.2.1 HPA.out.2.2.2.2
    have H5 := Lib.hid (And.intro i5' (bthen HBA.out b5))
    clear i5 i5' b5 eB B mb cb us

    go_wp2
    go_ret2
    have bz : Below w5.heap.size w5 (w5.alloc (.cells #[.slice sa sn sc, .slice Bv mr cw] 106)) := (Below.refl _ _).alloc (Nat.le_refl _) _
    have hz0 : w4.heap.size ≤ w5.heap.size := (H5.out.2).size
    refine ⟨_, 1, 1, _, [Hd.with_ ⟨os, []⟩ od], _, j', s', G2, rfl, H4.out.2.2.2.1.below (bthen (H5.out.2) bz), Hels.one (H5.out.1) (fun x hx => hx.1.below bz) (Pn.new hG4.out.2.1 hG4.out.1 hLs4.out hz0 (by simp)), by omega, ⟨.inl ⟨rfl, _, rfl, HC.out.2.1, HC.out.1⟩⟩, HOk.out⟩

  · obtain ⟨db, hdb⟩ : ∃ b, b = decide (ev = 121) := ⟨_, rfl⟩
    have q0 : ((ev : Int) == 0) = false := by simp; omega
    have q1 : ((ev : Int) == 121) = db := by
      rw [hdb]
      by_cases h9 : ev = 121
      · rw [h9]; rfl
      · rw [decide_eq_false h9]; simp; omega
    have HC := Lib.hid (And.intro hne (And.intro hC hdb))
    clear hne hC hdb
    go_wp2_with fail
    refine HA.out.mono ?_
    rintro e w4 ⟨rfl, k4⟩
    clear HA p0 p1 p2

    have hq3 : q < W3.heap.size := Nat.lt_of_lt_of_le HJ.out.2.2.2.2.2.2.1 HW3.out.2.2.2.1.size
    obtain ⟨G2, g4⟩ := JG.of k4 hq3 HJ.out.2.2.1
    have ne4 : ∀ x, w.heap.size ≤ x → x ∉ q :: G := fun x hx hm => by
      rcases List.mem_cons.1 hm with e | e
      · have := HJ.out.2.2.2.2.2.2.1; omega
      · have := HJ.out.2.2.2.2.2.2.2 x e; omega
    have x4 := g4.keep.heap HW3.out.1 (ne4 _ (Nat.le_refl _))
    have x5 := g4.keep.heap HW3.out.2.1 (ne4 _ (by omega))
    have o9 := g4.keep.own HW3.out.2.2.1 (fun b hb => ne4 _ (by injection hb with hb; have e1 : W2.heap.size = b := hb; have := HW3.out.2.2.2.2.2; omega))
    have gg := g4.ahead HW3.out.2.2.2.1
    have hL : W2.heap.size ∉ q :: G2 ∧ W2.heap.size < w4.heap.size := by
      have e1 := HW3.out.2.2.2.2.2
      have e2 := HW3.out.2.2.2.2.1
      have e3 := g4.keep.size
      refine ⟨fun hm => ?_, by omega⟩
      rcases List.mem_cons.1 hm with e | e
      · have := HJ.out.2.2.2.2.2.2.1; omega
      · rcases g4.out _ e with e4 | e4
        · have := HJ.out.2.2.2.2.2.2.2 _ e4; omega
        · omega
    have i4 : HIn w4 (PnL w4 q G2 Ls W2.heap.size) (.slice A n c) (.slice Av nr cv) h := (HJ.out.2.2.2.2.2.1.keep gg.keep (fun x hx => hx.2.1)).mono (fun x hx => ⟨gg.pn hx, by have := hx.1; have e1 := HW3.out.2.2.2.2.2; omega⟩)
    have d4 := HF.out.2.2.1.keepz g4.keep (fun ad e hz => (HD.out.2.2.1 ad e hz).2.1)
    have s4 := HF.out.2.2.2.keepz g4.keep (fun ad e hz => (HD.out.2.2.2.2.2 ad e hz).2.1)
    have hz4 := g4.keep.size
    have H4 := Lib.hid (And.intro x4 (And.intro x5 (And.intro o9 (And.intro gg (And.intro i4 (And.intro d4 (And.intro s4 hz4)))))))
    have HP4 : Hid ((∀ ad, da = some ad → 0 < dn → PnL w4 q G2 Ls W2.heap.size ad.block) ∧ (∀ ad, sa = some ad → 0 < sn → PnL w4 q G2 Ls W2.heap.size ad.block)) := Lib.hid ⟨fun ad e hz => ⟨gg.pn (HD.out.2.2.1 ad e hz), by have := (HD.out.2.2.1 ad e hz).1; have e1 := HW3.out.2.2.2.2.2; omega⟩, fun ad e hz => ⟨gg.pn (HD.out.2.2.2.2.2 ad e hz), by have := (HD.out.2.2.2.2.2 ad e hz).1; have e1 := HW3.out.2.2.2.2.2; omega⟩⟩
    have hG4 := Lib.hid (And.intro gg.fl.lts (And.intro (Nat.lt_of_lt_of_le hq3 hz4) hL))
    have hLs4 : Hid (∀ x ∈ Ls, x < w4.heap.size) := Lib.hid (fun x hx => Nat.lt_of_lt_of_le (HLs.out x hx) (Nat.le_trans HW3.out.2.2.2.1.size hz4))
    have m0 : w4.cell? ⟨w.heap.size, 0, none⟩ = some (.slice A n c) := box_cell x4 0 _ rfl
    have m1 : w4.cell? ⟨w.heap.size, 1, none⟩ = some (.slice Av nr cv) := box_cell x4 1 _ rfl
    have p0 : w4.cell? ⟨(w.heap.size+1), 0, none⟩ = some (.int .i64 5) := box_cell x5 0 _ rfl
    have p1 : w4.cell? ⟨(w.heap.size+1), 1, none⟩ = some (.slice da dn dc) := box_cell x5 1 _ rfl
    have p2 : w4.cell? ⟨(w.heap.size+1), 2, none⟩ = some (.slice sa sn sc) := box_cell x5 2 _ rfl
    have p3 : w4.cell? ⟨(w.heap.size+1), 3, none⟩ = some (.int .i64 af) := box_cell x5 3 _ rfl
    have p4 : w4.cell? ⟨(w.heap.size+1), 4, none⟩ = some (.int .i64 kp) := box_cell x5 4 _ rfl
    clear k4 g4 hL ne4 x4 x5 o9 gg i4 d4 s4 hq3 hz4 p3 p4

    go_upto_region 19 with fail
    obtain ⟨wA, hwA⟩ : ∃ x, x = w4.alloc (.cells #[.slice sa sn sc, .slice none 0 0] 106) := ⟨_, rfl⟩
    have bA : Below w4.heap.size w4 wA := by rw [hwA]; exact (Below.refl _ _).alloc (Nat.le_refl _) _
    have xA : wA.heap[w4.heap.size]? = some (.cells #[.slice sa sn sc, .slice none 0 0] 106 (0, 0)) := by rw [hwA]; exact heap_alloc_new _ _
    have x4A := heap_below H4.out.1 bA
    have x5A := heap_below H4.out.2.1 bA
    rw [← hwA]
    clear hwA m0 m1 p0 p1 p2
    have m0 : wA.cell? ⟨w.heap.size, 0, none⟩ = some (.slice A n c) := box_cell x4A 0 _ rfl
    have m1 : wA.cell? ⟨w.heap.size, 1, none⟩ = some (.slice Av nr cv) := box_cell x4A 1 _ rfl
    have p0 : wA.cell? ⟨(w.heap.size+1), 0, none⟩ = some (.int .i64 5) := box_cell x5A 0 _ rfl
    have p1 : wA.cell? ⟨(w.heap.size+1), 1, none⟩ = some (.slice da dn dc) := box_cell x5A 1 _ rfl
    have p2 : wA.cell? ⟨(w.heap.size+1), 2, none⟩ = some (.slice sa sn sc) := box_cell x5A 2 _ rfl
    have p3 : wA.cell? ⟨(w.heap.size+1), 3, none⟩ = some (.int .i64 af) := box_cell x5A 3 _ rfl
    have p4 : wA.cell? ⟨(w.heap.size+1), 4, none⟩ = some (.int .i64 kp) := box_cell x5A 4 _ rfl
    have r0 : wA.cell? ⟨w4.heap.size, 0, none⟩ = some (.slice sa sn sc) := box_cell xA 0 _ rfl
    have r1 : wA.cell? ⟨w4.heap.size, 1, none⟩ = some (.slice none 0 0) := box_cell xA 1 _ rfl
    have HIA := Lib.hid (And.intro (H4.out.2.2.2.2.1.plb bA) (And.intro ((HIn.nil (P := PnL w4 q G2 Ls W2.heap.size) H4.out.2.2.2.2.2.2.1 HP4.out.2).plb bA) (H4.out.2.2.2.2.2.1.below bA)))
    have HPA : Hid ((∀ ad, da = some ad → 0 < dn → PnL wA q G2 Ls W2.heap.size ad.block) ∧ q < wA.heap.size ∧ (∀ x ∈ G2, x < wA.heap.size) ∧ (∀ x ∈ Ls, x < wA.heap.size) ∧ W2.heap.size < wA.heap.size) := Lib.hid ⟨fun ad e hz => ⟨(HP4.out.1 ad e hz).1.below bA, (HP4.out.1 ad e hz).2⟩, Nat.lt_of_lt_of_le hG4.out.2.1 bA.size, fun x hx => Nat.lt_of_lt_of_le (hG4.out.1 x hx) bA.size, fun x hx => Nat.lt_of_lt_of_le (hLs4.out x hx) bA.size, Nat.lt_of_lt_of_le hG4.out.2.2.2 bA.size⟩
    have HBA := Lib.hid bA
    clear bA xA x4A x5A p0 p2 p3 p4

    go_upto_region 23 with fail
    have SB : Hid (∀ wx, Below wA.heap.size wA wx → (wx.cell? ⟨w.heap.size, 0, none⟩ = some (.slice A n c) ∧ wx.cell? ⟨w.heap.size, 1, none⟩ = some (.slice Av nr cv) ∧ wx.cell? ⟨w.heap.size + 1, 1, none⟩ = some (.slice da dn dc) ∧ wx.cell? ⟨w4.heap.size, 0, none⟩ = some (.slice sa sn sc) ∧ wx.cell? ⟨w4.heap.size, 1, none⟩ = some (.slice none 0 0))) := Lib.hid (fun wx hx => ⟨cell_below m0 hx, cell_below m1 hx, cell_below p1 hx, cell_below r0 hx, cell_below r1 hx⟩)
    have HW1 := Lib.hid (fun (wx : World) (hx : Below wA.heap.size wA wx) => with_any wx (HIA.out.1.plb hx) (fun x hx => hx.1.1) HJ2.out.2.2.2.2 (HIA.out.2.2.below hx) HD.out.2.1 (fun ad e hz => ⟨(HPA.out.1 ad e hz).1.below hx, (HPA.out.1 ad e hz).2⟩))
    have HW2 := Lib.hid (fun (wx : World) (hx : Below wA.heap.size wA wx) => with_any wx (HIA.out.2.1.plb hx) (fun x hx => hx.1.1) (Nat.zero_le _) (HIA.out.2.2.below hx) HD.out.2.1 (fun ad e hz => ⟨(HPA.out.1 ad e hz).1.below hx, (HPA.out.1 ad e hz).2⟩))
    have HNE : Hid (w.heap.size ∉ [W2.heap.size] ∧ w.heap.size + 1 ∉ [W2.heap.size] ∧ w4.heap.size ∉ [W2.heap.size]) := Lib.hid (by have h1 := HW3.out.2.2.2.2.2; have h2 := hG4.out.2.2.2; refine ⟨?_, ?_, ?_⟩ <;> simp <;> omega)
    clear m0 m1 p1 r0 r1
    refine wp_region_held_drew (S := (fun wx => wx.cell? ⟨w.heap.size, 0, none⟩ = some (.slice A n c) ∧ wx.cell? ⟨w.heap.size, 1, none⟩ = some (.slice Av nr cv) ∧ wx.cell? ⟨w.heap.size + 1, 1, none⟩ = some (.slice da dn dc) ∧ wx.cell? ⟨w4.heap.size, 0, none⟩ = some (.slice sa sn sc) ∧ wx.cell? ⟨w4.heap.size, 1, none⟩ = some (.slice none 0 0))) (by kernel_rfl) (by (first | exact SB7 | exact SB.out _ bC | exact SB.out _ b6 | exact SB.out _ b5 | exact SB.out _ (Below.refl _ _) | exact SB.out _ (Below.refl _ _).drew)) (fun hHeld => ?_)
    refine wpAnyH_take (i := 0) (v := ?_) (by simp only [List.getElem?_toArray, List.getElem?_cons_succ, List.getElem?_cons_zero]; rfl) (by kernel_rfl) (by kernel_rfl) (by kernel_rfl) (by exact fun _ _ _ h => h) (Or.inl ⟨by rfl, ?_⟩) (by assumption) ?_
    rotate_left
    · (intro w hSw; (try dsimp only at hSw); go_simp; try with_reducible rfl)
    try simp only [Act.put, List.setIfInBounds_toArray, List.set_cons_zero, List.set_cons_succ]
    refine wpAnyH_take (i := 1) (v := ?_) (by simp only [List.getElem?_toArray, List.getElem?_cons_succ, List.getElem?_cons_zero]; rfl) (by kernel_rfl) (by kernel_rfl) (by kernel_rfl) (by exact fun _ _ _ h => h) (Or.inl ⟨by rfl, ?_⟩) (by assumption) ?_
    rotate_left
    · (intro w hSw; (try dsimp only at hSw); go_simp; try with_reducible rfl)
    try simp only [Act.put, List.setIfInBounds_toArray, List.set_cons_zero, List.set_cons_succ]
    refine wpAnyH_take (i := 2) (v := ?_) (by simp only [List.getElem?_toArray, List.getElem?_cons_succ, List.getElem?_cons_zero]; rfl) (by kernel_rfl) (by kernel_rfl) (by kernel_rfl) (by exact fun _ _ _ h => h) (Or.inl ⟨by rfl, ?_⟩) (by assumption) ?_
    rotate_left
    · (intro w hSw; (try dsimp only at hSw); go_simp; try with_reducible rfl)
    try simp only [Act.put, List.setIfInBounds_toArray, List.set_cons_zero, List.set_cons_succ]
    refine wpAnyH_take (i := 3) (v := ?_) (by simp only [List.getElem?_toArray, List.getElem?_cons_succ, List.getElem?_cons_zero]; rfl) (by kernel_rfl) (by kernel_rfl) (by kernel_rfl) (by exact fun _ _ _ h => h) (Or.inl ⟨by rfl, ?_⟩) (by assumption) ?_
    rotate_left
    · (intro w hSw; (try dsimp only at hSw); go_simp; try with_reducible rfl)
    try simp only [Act.put, List.setIfInBounds_toArray, List.set_cons_zero, List.set_cons_succ]
    refine wpAnyH_take (i := 5) (v := ?_) (by simp only [List.getElem?_toArray, List.getElem?_cons_succ, List.getElem?_cons_zero]; rfl) (by kernel_rfl) (by kernel_rfl) (by kernel_rfl) (by exact fun _ _ _ h => h) (Or.inl ⟨by rfl, ?_⟩) (by assumption) ?_
    rotate_left
    · (intro w hSw; (try dsimp only at hSw); go_simp; try with_reducible rfl)
    try simp only [Act.put, List.setIfInBounds_toArray, List.set_cons_zero, List.set_cons_succ]
    refine wpAnyH_take (i := 6) (v := ?_) (by simp only [List.getElem?_toArray, List.getElem?_cons_succ, List.getElem?_cons_zero]; rfl) (by kernel_rfl) (by kernel_rfl) (by kernel_rfl) (by exact fun _ _ _ h => h) (Or.inl ⟨by rfl, ?_⟩) (by assumption) ?_
    rotate_left
    · (intro w hSw; (try dsimp only at hSw); go_simp; try with_reducible rfl)
    try simp only [Act.put, List.setIfInBounds_toArray, List.set_cons_zero, List.set_cons_succ]
    refine wpAnyH_take (i := 7) (v := ?_) (by simp only [List.getElem?_toArray, List.getElem?_cons_succ, List.getElem?_cons_zero]; rfl) (by kernel_rfl) (by kernel_rfl) (by kernel_rfl) (by exact fun _ _ _ h => h) (Or.inl ⟨by rfl, ?_⟩) (by assumption) ?_
    rotate_left
    · (intro w hSw; (try dsimp only at hSw); go_simp; try with_reducible rfl)
    try simp only [Act.put, List.setIfInBounds_toArray, List.set_cons_zero, List.set_cons_succ]
    refine wpAnyH_take (i := 8) (v := ?_) (by simp only [List.getElem?_toArray, List.getElem?_cons_succ, List.getElem?_cons_zero]; rfl) (by kernel_rfl) (by kernel_rfl) (by kernel_rfl) (by exact fun _ _ _ h => h) (Or.inl ⟨by rfl, ?_⟩) (by assumption) ?_
    rotate_left
    · (intro w hSw; (try dsimp only at hSw); go_simp; try with_reducible rfl)
    try simp only [Act.put, List.setIfInBounds_toArray, List.set_cons_zero, List.set_cons_succ]
    refine wpAnyH_ready (rs := [4]) (by kernel_rfl) (by simp) ?_
    refine AllReadyH.cons rfl (fun K hK => ?_) AllReadyH.nil
    rw [if_pos (by rfl)]
    (go_wp2_with fail; refine (HW1.out _ (by first | exact (Below.refl _ _).drew | exact below_drewN (Below.refl _ _) _ | exact Below.refl _ _)).mono ?_; rintro e w5 ⟨v1, rfl, i5, k5⟩; have b5 := (show Below wA.heap.size wA w5 from bthen (by first | exact (Below.refl _ _).drew | exact below_drewN (Below.refl _ _) _ | exact Below.refl _ _) k5); have i5 := i5.plw k5 (Nat.lt_of_lt_of_le HPA.out.2.1 (show Below wA.heap.size wA _ from (by first | exact (Below.refl _ _).drew | exact below_drewN (Below.refl _ _) _ | exact Below.refl _ _)).size) (fun x hx => Nat.lt_of_lt_of_le (HPA.out.2.2.1 x hx) (show Below wA.heap.size wA _ from (by first | exact (Below.refl _ _).drew | exact below_drewN (Below.refl _ _) _ | exact Below.refl _ _)).size) (fun x hx => Nat.lt_of_lt_of_le (HPA.out.2.2.2.1 x hx) (show Below wA.heap.size wA _ from (by first | exact (Below.refl _ _).drew | exact below_drewN (Below.refl _ _) _ | exact Below.refl _ _)).size) (Nat.lt_of_lt_of_le HPA.out.2.2.2.2 (show Below wA.heap.size wA _ from (by first | exact (Below.refl _ _).drew | exact below_drewN (Below.refl _ _) _ | exact Below.refl _ _)).size); obtain ⟨B, mb, cb, Bv, mr, cw, us, eB, rfl, -⟩ := i5.out; try dsimp only)
    refine hK.out _ _ (by (first | exact SB7 | exact SB.out _ bC | exact SB.out _ b6 | exact SB.out _ b5 | exact SB.out _ (Below.refl _ _) | exact SB.out _ (Below.refl _ _).drew)) (fun hHeld => ?_)
    clear hK K
    try simp only [Act.put, List.setIfInBounds_toArray, List.set_cons_zero, List.set_cons_succ]
    refine wpAnyH_ready (rs := [9]) (by kernel_rfl) (by simp) ?_
    refine AllReadyH.cons rfl (fun K hK => ?_) AllReadyH.nil
    rw [if_pos (by rfl)]
    (go_wp2_with fail; refine (HW2.out _ b5).mono ?_; rintro e w6 ⟨v2, rfl, i6, k6⟩; have b6 := bthen b5 k6; have i6 := i6.plw k6 (Nat.lt_of_lt_of_le HPA.out.2.1 b5.size) (fun x hx => Nat.lt_of_lt_of_le (HPA.out.2.2.1 x hx) b5.size) (fun x hx => Nat.lt_of_lt_of_le (HPA.out.2.2.2.1 x hx) b5.size) (Nat.lt_of_lt_of_le HPA.out.2.2.2.2 b5.size); obtain ⟨B', mb', cb', Cv, ms, cx, us', eB', rfl, -⟩ := i6.out; try dsimp only)
    refine hK.out _ _ (by (first | exact SB7 | exact SB.out _ bC | exact SB.out _ b6 | exact SB.out _ b5 | exact SB.out _ (Below.refl _ _) | exact SB.out _ (Below.refl _ _).drew)) (fun hHeld => ?_)
    clear hK K
    try simp only [Act.put, List.setIfInBounds_toArray, List.set_cons_zero, List.set_cons_succ]
    refine wpAnyH_ready (rs := [10]) (by kernel_rfl) (by simp) ?_
    refine AllReadyH.cons rfl (fun K hK => ?_) AllReadyH.nil
    rw [if_pos (by rfl)]
    (go_wp2_with fail; have bC := bthen b6 (show Below w6.heap.size w6 (w6.alloc (.cells #[.slice A n c, .slice Bv mr cw, .slice sa sn sc, .slice none 0 0, .slice sa sn sc, .slice Cv ms cx] 106)) from (Below.refl _ _).alloc (Nat.le_refl _) _); try dsimp only)
    refine hK.out _ _ (by (first | exact SB7 | exact SB.out _ bC | exact SB.out _ b6 | exact SB.out _ b5 | exact SB.out _ (Below.refl _ _) | exact SB.out _ (Below.refl _ _).drew)) (fun hHeld => ?_)
    clear hK K
    try simp only [Act.put, List.setIfInBounds_toArray, List.set_cons_zero, List.set_cons_succ]
    refine wpAnyH_ready (rs := [11]) (by kernel_rfl) (by simp) ?_
    refine AllReadyH.cons rfl (fun K hK => ?_) AllReadyH.nil
    rw [if_pos (by rfl)]
    (have bl : Below w6.heap.size w6 (w6.alloc (.cells #[.slice A n c, .slice Bv mr cw, .slice sa sn sc, .slice none 0 0, .slice sa sn sc, .slice Cv ms cx] 106)) := (Below.refl _ _).alloc (Nat.le_refl _) _; refine apk_wp EHd (.tmp 95) (.tmp 105) rfl rfl (own_below H4.out.2.2.1 (bthen (bthen HBA.out b6) bl)) rfl (Sl.fresh w6 [.slice A n c, .slice Bv mr cw, .slice sa sn sc, .slice none 0 0, .slice sa sn sc, .slice Cv ms cx] 106 3 2 rfl (by decide)) (by simp [Value.oneCell']) (by simp only [maxLen]; omega) (by omega) (by have h1 := (bthen (bthen HBA.out b6) bl).size; have h2 := hG4.out.2.2.2; omega) ?_; intro v7 w7 o7 g7 hb7; obtain ⟨b7, c7, rfl, l7, l7', l7''⟩ := own_form o7 (by omega); have k7 : Keep [W2.heap.size] (w6.alloc (.cells #[.slice A n c, .slice Bv mr cw, .slice sa sn sc, .slice none 0 0, .slice sa sn sc, .slice Cv ms cx] 106)) w7 := (Keep.refl _ _).grown g7 (fun k hk => .inl (by injection hk with hk; have e : W2.heap.size = k := hk; simp [e])); have sb := SB.out _ bC; have SB7 := And.intro (k7.cell sb.1 HNE.out.1) (And.intro (k7.cell sb.2.1 HNE.out.1) (And.intro (k7.cell sb.2.2.1 HNE.out.2.1) (And.intro (k7.cell sb.2.2.2.1 HNE.out.2.2) (k7.cell sb.2.2.2.2 HNE.out.2.2)))); try dsimp only)
    refine hK.out _ _ (by (first | exact SB7 | exact SB.out _ bC | exact SB.out _ b6 | exact SB.out _ b5 | exact SB.out _ (Below.refl _ _) | exact SB.out _ (Below.refl _ _).drew)) (fun hHeld => ?_)
    clear hK K
    try simp only [Act.put, List.setIfInBounds_toArray, List.set_cons_zero, List.set_cons_succ]
    refine wpAnyH_take (i := 12) (v := ?_) (by simp only [List.getElem?_toArray, List.getElem?_cons_succ, List.getElem?_cons_zero]; rfl) (by kernel_rfl) (by kernel_rfl) (by kernel_rfl) (by exact fun _ _ _ h => h) (Or.inl ⟨by rfl, ?_⟩) (by assumption) ?_
    rotate_left
    · (intro w hSw; (try dsimp only at hSw); go_simp; try with_reducible rfl)
    try simp only [Act.put, List.setIfInBounds_toArray, List.set_cons_zero, List.set_cons_succ]
    refine wpAnyH_done (by kernel_rfl) ?_ _
    have s7 := (own_sl' o7).2.1
    have bX := bthen HBA.out b6
    have hz0 : w4.heap.size ≤ w6.heap.size := bX.size
    have hz7 := k7.size
    have p7 : Pn w7 q G2 Ls b7 := by
      refine ⟨l7', fun hm => ?_, fun hm => by have h1 := hLs4.out _ hm; have h2 := HLs.out _ hm; exact (hb7 b7 rfl).elim (fun e => by injection e with e; have e : W2.heap.size = b7 := e; have e3 := HW3.out.2.2.2.2.2; omega) (fun e => by simp at e; omega)⟩
      rcases hb7 b7 rfl with e | e
      · injection e with e
        have e : W2.heap.size = b7 := e
        rw [← e] at hm; exact hG4.out.2.2.1 hm
      · simp at e
        rcases List.mem_cons.1 hm with e2 | e2
        · have := hG4.out.2.1; omega
        · have := hG4.out.1 _ e2; omega
    have gz := (H4.out.2.2.2.1.below (bthen bX bl)).beside k7 (fun m hm => by
      rw [List.mem_singleton.1 hm]
      exact ⟨by have := HW3.out.2.2.2.2.2; omega, hG4.out.2.2.1⟩)
    have up7 : ∀ v0 v1 hd, HIn w6 (PnL w6 q G2 Ls W2.heap.size) v0 v1 hd → HIn w7 (Pn w7 q G2 Ls) v0 v1 hd := fun v0 v1 hd hi => ((hi.below bl).keep k7 (fun x hx hm => hx.2 (List.mem_singleton.1 hm))).mono (fun x hx => ⟨by have h1 := hx.1.1; have h2 := bl.size; omega, hx.1.2⟩)
    have f1 := up7 _ _ _ (H4.out.2.2.2.2.1.plb bX)
    have f2 := up7 _ _ _ (i5.plb k6)
    have f3 := up7 _ _ _ (HIA.out.2.1.plb b6)
    have f4 := up7 _ _ _ i6
    have H7 := Lib.hid (And.intro s7 (And.intro p7 (And.intro gz (And.intro f1 (And.intro f2 (And.intro f3 f4))))))
    have hc7 := s7.max
    clear o7 g7 hb7 s7 p7 gz up7 k7 hz0 l7 l7' bl hz7 f1 f2 f3 f4 bX b5 b6 bC i5 i6 k5 k6 sb SB7 SB HW1 HW2
    go_wp2
    go_ret2
    refine ⟨_, 4, c7, _, [h, h.with_ od, ⟨os, []⟩, Hd.with_ ⟨os, []⟩ od], db, j', s', G2, rfl, H7.out.2.2.1, Hels.four H7.out.1 H7.out.2.1 H7.out.2.2.2.1 H7.out.2.2.2.2.1 H7.out.2.2.2.2.2.1 H7.out.2.2.2.2.2.2, by omega, ⟨?_⟩, HOk.out⟩
    rcases HC.out.2.1 with ⟨e1, e2, e3⟩ | ⟨e1, e2, e3, e4⟩
    · left
      refine ⟨by rw [HC.out.2.2]; exact decide_eq_false e1, h, rfl, ?_, ?_⟩
      · rw [e2, e3]; exact HJ.out.2.2.2.1
      · rw [e3]; exact Nat.le_refl _
    · right
      refine ⟨by rw [HC.out.2.2]; exact decide_eq_true e1, e2, e3, ?_⟩
      rcases e4 with e4 | e4 | e4 | e4
      · exact ⟨_, by simp, e4⟩
      · exact ⟨_, by simp, e4⟩
      · exact ⟨⟨os, []⟩, by simp, e4⟩
      · exact ⟨_, by simp, e4⟩
theorem kept_any (w : World) {p q N : Nat} {G Ls : List Nat} (hLs : ∀ x ∈ Ls, x < w.heap.size) {j : JSt} {s : FSt} {h : Hd} (hf : Fl w p G s) (hj : Jo w q p j) (hqG : q ∉ G) (J : JI 0 j s h) (hok : FOkN N s) (hN : N ≤ 4611686018427387880) {a0 a1 : Value} (H : HIn w (Pn w q G Ls) a0 a1 h) (kd af kp : Int) {da sa : Option Addr} {dn dc sn sc : Nat} {od os : List UInt8}
    (dS : Sl w 1 da dn dc (od.map by8)) (dm : dn ≤ 140737488351232) (dP : ∀ ad, da = some ad → 0 < dn → Pn w q G Ls ad.block) (sS : Sl w 1 sa sn sc (os.map by8)) (sm : sn ≤ 140737488351232) (sP : ∀ ad, sa = some ad → 0 < sn → Pn w q G Ls ad.block) :
    Calls Try.prog 67 #[.pointer (some ⟨q, 0, none⟩), .agg #[a0, a1], .agg #[.int .i64 kd, .slice da dn dc, .slice sa sn sc, .int .i64 af, .int .i64 kp]] w (KeptP w p q G Ls s N) := by
  by_cases k3 : kd = 3
  · exact kept_append w hLs hf hj hqG J hok hN H kd af kp dS dm dP sS sm sP k3
  by_cases k4 : kd = 4
  · exact kept_compact w hLs hf hj hqG J hok hN H kd af kp dS dm dP sS sm sP k4
  by_cases k5 : kd = 5
  · exact kept_keep w hLs hf hj hqG J hok hN H kd af kp dS dm dP sS sm sP k5
  · exact kept_other w hLs hf hj hqG J hok hN H kd af kp dS dm dP sS sm sP k3 k4 k5
end Go.Proofs.Ytpjmbhhfpoamnaa
