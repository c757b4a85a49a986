import Derived.Test.YtpjmbhhfpoamnaaJn27a
import Derived.Deep.Cut
import Derived.BigRegion
set_option linter.unusedVariables false
set_option linter.unusedSimpArgs false
namespace Go.Proofs.Ytpjmbhhfpoamnaa
open Go.RowKit
/-- append to a row of one's own, where it lies behind it: at an operation -/
theorem apk_wp {P : Program} {w : World} {o : Oper} {a : Act} {K : Act → World → Prop} {Q : Exit → Act → World → Prop} {t e size bytes : Nat} {z : Value} (E : ElemT P t e z size bytes) (s x : Operand)
    (ho : o.op = .call { callee := .builtin .append, args := #[s, x], argTypes := #[t, t] }) {base : Nat}
    {v : Value} {n : Nat} {xs : List Value} (hs : a.eval s = v) (hown : w.ownsRow base e size v n xs)
    {ad : Addr} {m c : Nat} {news : List Value} (hx : a.eval x = .slice (some ad) m c) (hsl : Sl w size (some ad) m c news) (h1 : ∀ u ∈ news, u.oneCell' = true)
    (h63 : n + m ≤ maxLen) (hbytes : (n + m) * bytes ≤ 140737488355328) (hbase : base ≤ w.heap.size)
    (h : ∀ v' w', w'.ownsRow base e size v' (n + m) (xs ++ news) → w.grownBy w' v.ownBlock → (∀ k, v'.ownBlock = some k → v.ownBlock = some k ∨ k = w.heap.size) → K (a.put o.dst v') w') : o.wp P a w K Q := by
  obtain ⟨i, hi, hz0, hz1, hz2⟩ := info_parts E.info
  obtain ⟨v', w', hr, h2, h3, h4⟩ := run_append_own (P := P) w base t o.type e i z size bytes E.und hi hz0 hz1 hz2 E.zs E.pos v n xs hown ad m c news hsl.len hsl.news h1 h63 hbytes hbase
  have h5 := ap_block (ty := o.type) E.und hi hz0 (hz1.symm ▸ hown) (hz1.symm ▸ hsl.len) hsl.news h1 h63 (hz2.symm ▸ hbytes) hr
  unfold Oper.wp execOp
  simp only [ho, resolve, invoke, builtin, Sem.run_bind, Sem.run_pure, Result.andThen_ok, List.map_toArray, List.map_cons, List.map_nil, hs, hx, hr]
  exact h v' w' h2 h3 h5
/-- .. nor a block L -/
def PnL (w : World) (q : Nat) (G Ls : List Nat) (L x : Nat) : Prop := Pn w q G Ls x ∧ x ≠ L
theorem HIn.plb {w w' : World} {q L : Nat} {G Ls : List Nat} {v0 v1 : Value} {hd : Hd} (H : HIn w (PnL w q G Ls L) v0 v1 hd) (k : Below w.heap.size w w') : HIn w' (PnL w' q G Ls L) v0 v1 hd := (H.below k).mono (fun _ hx => ⟨hx.1.below k, hx.2⟩)
theorem HIn.plw {w w' : World} {q L : Nat} {G Ls : List Nat} {v0 v1 : Value} {hd : Hd} (H : HIn w' (fun x => PnL w q G Ls L x ∨ (w.heap.size ≤ x ∧ x < w'.heap.size)) v0 v1 hd) (k : Below w.heap.size w w') (hq : q < w.heap.size) (hG : ∀ x ∈ G, x < w.heap.size) (hLs : ∀ x ∈ Ls, x < w.heap.size) (hL : L < w.heap.size) : HIn w' (PnL w' q G Ls L) v0 v1 hd :=
  H.mono (fun x hx => hx.elim (fun hx => ⟨hx.1.below k, hx.2⟩) (fun hx => ⟨Pn.new hq hG hLs hx.1 hx.2, by omega⟩))
theorem JG.beside {w w' w2 : World} {p q : Nat} {G G' M : List Nat} {j : JSt} {s : FSt} (h : JG w w' p q G G' j s) (k : Keep M w' w2) (hM : ∀ m ∈ M, w.heap.size ≤ m ∧ m ∉ q :: G') : JG w w2 p q G G' j s :=
  ⟨h.fl.keep k (fun x hx hm => (hM x hm).2 (List.mem_cons_of_mem _ hx)), h.jo.keep k (fun hm => (hM q hm).2 (by simp)), h.qG, h.keep.trans' k (fun x hx => .inr (hM x hx).1), h.out⟩
theorem Hels.two {w : World} {P : Nat → Prop} {b c : Nat} {v0 v1 u0 u1 : Value} {h g : Hd} (o : Sl w 2 (some ⟨b, 0, none⟩) 2 c [v0, v1, u0, u1]) (hb : P b) (H : HIn w P v0 v1 h) (K : HIn w P u0 u1 g) : Hels w P (some ⟨b, 0, none⟩) 2 c [v0, v1, u0, u1] [h, g] :=
  ⟨o, fun ad e => by cases e; exact hb, rfl, fun i x hi => by
    match i, hi with
    | 0, hi => obtain rfl := Option.some.inj hi; exact ⟨v0, v1, rfl, rfl, H⟩
    | 1, hi => obtain rfl := Option.some.inj hi; exact ⟨u0, u1, rfl, rfl, K⟩⟩
theorem Hels.four {w : World} {P : Nat → Prop} {b c : Nat} {v0 v1 u0 u1 x0 x1 y0 y1 : Value} {h g f e : Hd} (o : Sl w 2 (some ⟨b, 0, none⟩) 4 c [v0, v1, u0, u1, x0, x1, y0, y1]) (hb : P b) (H : HIn w P v0 v1 h) (K : HIn w P u0 u1 g) (X : HIn w P x0 x1 f) (Y : HIn w P y0 y1 e) : Hels w P (some ⟨b, 0, none⟩) 4 c [v0, v1, u0, u1, x0, x1, y0, y1] [h, g, f, e] :=
  ⟨o, fun ad e => by cases e; exact hb, rfl, fun i x hi => by
    match i, hi with
    | 0, hi => obtain rfl := Option.some.inj hi; exact ⟨v0, v1, rfl, rfl, H⟩
    | 1, hi => obtain rfl := Option.some.inj hi; exact ⟨u0, u1, rfl, rfl, K⟩
    | 2, hi => obtain rfl := Option.some.inj hi; exact ⟨x0, x1, rfl, rfl, X⟩
    | 3, hi => obtain rfl := Option.some.inj hi; exact ⟨y0, y1, rfl, rfl, Y⟩⟩
set_option maxRecDepth 100000 in
set_option maxHeartbeats 3200000 in
theorem kept_append (w : World) {p q N : Nat} {G Ls : List Nat} (hLs : ∀ x ∈ Ls, x < w.heap.size) {j : JSt} {s : FSt} {h : Hd} (hf : Fl w p G s) (hj : Jo w q p j) (hqG : q ∉ G) (J : JI 0 j s h) (hok : FOkN N s) (hN : N ≤ 4611686018427387880) {a0 a1 : Value} (H : HIn w (Pn w q G Ls) a0 a1 h) (kd af kp : Int) {da sa : Option Addr} {dn dc sn sc : Nat} {od os : List UInt8}
    (dS : Sl w 1 da dn dc (od.map by8)) (dm : dn ≤ 140737488351232) (dP : ∀ ad, da = some ad → 0 < dn → Pn w q G Ls ad.block) (sS : Sl w 1 sa sn sc (os.map by8)) (sm : sn ≤ 140737488351232) (sP : ∀ ad, sa = some ad → 0 < sn → Pn w q G Ls ad.block) (hkd : kd = 3) :
    Calls Try.prog 67 #[.pointer (some ⟨q, 0, none⟩), .agg #[a0, a1], .agg #[.int .i64 kd, .slice da dn dc, .slice sa sn sc, .int .i64 af, .int .i64 kp]] w (KeptP w p q G Ls s N) := by
  subst hkd
  obtain ⟨A, n, c, Av, nr, cv, vs, rfl, rfl, _⟩ := H.out
  have hq : q < w.heap.size := (Array.getElem?_eq_some_iff.1 hj).1
  have hG := hf.lts
  have HLs := Lib.hid hLs
  clear hLs
  have hln := J.lens
  have hsz := J.size hok
  have hfew : h.recs.length ≤ 1048576 := by omega
  obtain ⟨E, hE⟩ : ∃ x : Nat, x = j.epoch := ⟨_, rfl⟩
  obtain ⟨W2, hW2⟩ : ∃ x, x = (w.alloc (.cells #[.slice A n c, .slice Av nr cv] 106)).alloc (.cells #[.int .i64 3, .slice da dn dc, .slice sa sn sc, .int .i64 af, .int .i64 kp] 97) := ⟨_, rfl⟩
  have z2 : W2.heap.size = w.heap.size + 1 + 1 := by rw [hW2]; simp
  have b2 : Below w.heap.size w W2 := by rw [hW2]; exact ((Below.refl _ _).alloc (Nat.le_refl _) _).alloc (by simp) _
  have x4 : W2.heap[w.heap.size]? = some (.cells #[.slice A n c, .slice Av nr cv] 106 (0, 0)) := by rw [hW2]; exact heap_new1 _ _ _
  have x5 : W2.heap[w.heap.size + 1]? = some (.cells #[.int .i64 3, .slice da dn dc, .slice sa sn sc, .int .i64 af, .int .i64 kp] 97 (0, 0)) := by rw [hW2]; exact heap_new2 _ _ _
  have HEp : Hid (Calls Try.prog 63 #[.pointer (some ⟨q, 0, none⟩)] W2 fun e w' => e = .returned (.int .i64 (E : Nat)) ∧ W2 = w') := Lib.hid (by
    refine (JEpoch_any W2 (hj.below b2)).mono ?_
    rintro e w' ⟨rfl, rfl⟩
    exact ⟨by rw [J.dead, hE]; rfl, rfl⟩)
  have m0 : W2.cell? ⟨w.heap.size, 0, none⟩ = some (.slice A n c) := box_cell x4 0 _ rfl
  have m1 : W2.cell? ⟨w.heap.size, 1, none⟩ = some (.slice Av nr cv) := box_cell x4 1 _ rfl
  have HX := Lib.hid (And.intro x4 (And.intro x5 (And.intro b2 z2)))
  have HJ := Lib.hid (And.intro hf (And.intro hj (And.intro hqG (And.intro J (And.intro hok (And.intro H (And.intro hq hG)))))))
  have HD := Lib.hid (And.intro dS (And.intro dm (And.intro dP (And.intro sS (And.intro sm sP)))))
  have HEE := Lib.hid hE
  have HJ2 := Lib.hid (And.intro J.bank (And.intro (show j.count ≤ 4611686018427387904 by have := J.count; omega) (And.intro (show j.used ≤ 4611686018427387904 by have := J.used; omega) (And.intro hln.2.2.2.2 hfew))))
  clear hf hj hqG J hok H hq hG hln hsz dS dm dP sS sm sP x4 x5 b2 z2 hE hfew
  go_enter Try.func67, Try.ntmps67
  go_wp2_with fail
  rw [← hW2]
  clear hW2
  refine HEp.out.mono ?_
  rintro e wz ⟨rfl, rfl⟩
  clear HEp
  go_upto_region 3 with fail
  obtain ⟨W3, hW3⟩ : ∃ x, x = W2.alloc (.cells #[.slice A n c, .slice Av nr cv] 106) := ⟨_, rfl⟩
  have b3 : Below W2.heap.size W2 W3 := by rw [hW3]; exact (Below.refl _ _).alloc (Nat.le_refl _) _
  have z3 : W3.heap.size = w.heap.size + 1 + 1 + 1 := by rw [hW3]; simp [HX.out.2.2.2]
  have o9 : W3.ownsRow W2.heap.size 106 2 (.slice (some ⟨W2.heap.size, 0, none⟩) 1 1) 1 [.slice A n c, .slice Av nr cv] := by
    have h1 := World.ownsRow_lit (base := W2.heap.size) (e := 106) (size := 2) W2 #[.slice A n c, .slice Av nr cv] 1 (Nat.le_refl _) (by decide) rfl
    rw [← hW3] at h1; exact h1
  have hel3 : Hels W3 (Pn W3 q G Ls) (some ⟨W2.heap.size, 0, none⟩) 1 1 [.slice A n c, .slice Av nr cv] [h] := by
    rw [hW3]
    exact Hels.one (HJ.out.2.2.2.2.2.1.pbelow HX.out.2.2.1) (fun x hx => hx.below ((Below.refl _ _).alloc (Nat.le_refl _) _)) (Pn.new (Nat.lt_of_lt_of_le HJ.out.2.2.2.2.2.2.1 HX.out.2.2.1.size) (fun x hx => Nat.lt_of_lt_of_le (HJ.out.2.2.2.2.2.2.2 x hx) HX.out.2.2.1.size) (fun x hx => Nat.lt_of_lt_of_le (HLs.out x hx) HX.out.2.2.1.size) (Nat.le_refl _) (by simp))
  have HL3 := Lib.hid hel3
  clear hel3
  have x4 := heap_below HX.out.1 b3
  have x5 := heap_below HX.out.2.1 b3
  have hb := bthen HX.out.2.2.1 b3
  rw [← hW3]
  clear hW3 m0 m1
  have HF := Lib.hid (And.intro (HJ.out.1.below hb) (And.intro (HJ.out.2.1.below hb) (And.intro (HD.out.1.below hb) (HD.out.2.2.2.1.below hb))))
  have p0 : W3.cell? ⟨(w.heap.size+1), 0, none⟩ = some (.int .i64 3) := box_cell x5 0 _ rfl
  have p1 : W3.cell? ⟨(w.heap.size+1), 1, none⟩ = some (.slice da dn dc) := box_cell x5 1 _ rfl
  have p2 : W3.cell? ⟨(w.heap.size+1), 2, none⟩ = some (.slice sa sn sc) := box_cell x5 2 _ rfl
  have p3 : W3.cell? ⟨(w.heap.size+1), 3, none⟩ = some (.int .i64 af) := box_cell x5 3 _ rfl
  have p4 : W3.cell? ⟨(w.heap.size+1), 4, none⟩ = some (.int .i64 kp) := box_cell x5 4 _ rfl
  have HW3 := Lib.hid (And.intro x4 (And.intro x5 (And.intro o9 (And.intro hb (And.intro z3 HX.out.2.2.2)))))
  clear x4 x5 o9 hb z3 b3 p3 p4
  have HA := JAppend_any W3 HF.out.2.1 HF.out.1 HJ.out.2.2.1 (HJ.out.2.2.2.2.1.ok (by omega)) HJ2.out.1 HJ2.out.2.1 HJ2.out.2.2.1 HF.out.2.2.1
  obtain ⟨j', hj'⟩ : ∃ x, x = (jappF j s od).1 := ⟨_, rfl⟩
  obtain ⟨s', hs'⟩ : ∃ x, x = (jappF j s od).2.1 := ⟨_, rfl⟩
  obtain ⟨ev, hev⟩ : ∃ x, x = (jappF j s od).2.2 := ⟨_, rfl⟩
  have hok' : FOkN (N + 4) s' := by rw [hs']; exact (jappF_ok HJ.out.2.2.2.2.1 od).1.more (by omega)
  have hcs := jappF_cases HJ.out.2.2.2.1 HJ.out.2.2.2.2.1 (by omega) od
  have hex : jappF j s od = (j', s', ev) := by rw [hj', hs', hev]
  rw [hex] at HA hcs
  have hC : (ev = 0 ∧ JI 0 j' s' (h.with_ od) ∧ s'.armed.length ≤ s.armed.length) ∨ (ev ≠ 0 ∧ ((ev ≠ 121 ∧ j' = j ∧ s' = s) ∨ (ev = 121 ∧ s'.down = true ∧ s'.armed.length + 1 ≤ s.armed.length ∧ (SI 0 s' h ∨ SI 0 s' (h.with_ od))))) := by
    rcases hcs with ⟨_, e⟩ | ⟨_, _, e⟩ | ⟨_, _, ⟨j2, s2, e, q1, q2, _⟩ | ⟨j2, s2, e, q1, q2⟩⟩
    · injection e with e1 e2; injection e2 with e2 e3
      exact .inr ⟨by omega, .inl ⟨by omega, e1, e2⟩⟩
    · injection e with e1 e2; injection e2 with e2 e3
      exact .inr ⟨by omega, .inl ⟨by omega, e1, e2⟩⟩
    · injection e with e1 e2; injection e2 with e2 e3
      subst e1; subst e2
      exact .inl ⟨e3, q2, q1.armed⟩
    · injection e with e1 e2; injection e2 with e2 e3
      subst e1; subst e2
      exact .inr ⟨by omega, .inr ⟨e3, q1.down, q1.armed, q2⟩⟩
  have HA := Lib.hid HA
  have HOk := Lib.hid hok'
  clear hj' hs' hev hok' hcs hex
  rcases hC with ⟨rfl, hJ, hAr⟩ | ⟨hne, hC⟩
  · have HC := Lib.hid (And.intro hJ hAr)
    clear hJ hAr p2
    go_wp2_with fail
    refine HA.out.mono ?_
    rintro e w4 ⟨rfl, k4⟩
    clear HA p0 p1
    have hq3 : q < W3.heap.size := Nat.lt_of_lt_of_le HJ.out.2.2.2.2.2.2.1 HW3.out.2.2.2.1.size
    obtain ⟨G2, g4⟩ := JG.of k4 hq3 HJ.out.2.2.1
    have ne4 : ∀ x, w.heap.size ≤ x → x ∉ q :: G := fun x hx hm => by
      rcases List.mem_cons.1 hm with e | e
      · have := HJ.out.2.2.2.2.2.2.1; omega
      · have := HJ.out.2.2.2.2.2.2.2 x e; omega
    have x4 := g4.keep.heap HW3.out.1 (ne4 _ (Nat.le_refl _))
    have x5 := g4.keep.heap HW3.out.2.1 (ne4 _ (by omega))
    have o9 := g4.keep.own HW3.out.2.2.1 (fun b hb => ne4 _ (by injection hb with hb; have e1 : W2.heap.size = b := hb; have := HW3.out.2.2.2.2.2; omega))
    have gg := g4.ahead HW3.out.2.2.2.1
    have hL : W2.heap.size ∉ q :: G2 ∧ W2.heap.size < w4.heap.size := by
      have e1 := HW3.out.2.2.2.2.2
      have e2 := HW3.out.2.2.2.2.1
      have e3 := g4.keep.size
      refine ⟨fun hm => ?_, by omega⟩
      rcases List.mem_cons.1 hm with e | e
      · have := HJ.out.2.2.2.2.2.2.1; omega
      · rcases g4.out _ e with e4 | e4
        · have := HJ.out.2.2.2.2.2.2.2 _ e4; omega
        · omega
    have i4 : HIn w4 (PnL w4 q G2 Ls W2.heap.size) (.slice A n c) (.slice Av nr cv) h := (HJ.out.2.2.2.2.2.1.keep gg.keep (fun x hx => hx.2.1)).mono (fun x hx => ⟨gg.pn hx, by have := hx.1; have e1 := HW3.out.2.2.2.2.2; omega⟩)
    have d4 := HF.out.2.2.1.keepz g4.keep (fun ad e hz => (HD.out.2.2.1 ad e hz).2.1)
    have s4 := HF.out.2.2.2.keepz g4.keep (fun ad e hz => (HD.out.2.2.2.2.2 ad e hz).2.1)
    have hz4 := g4.keep.size
    have H4 := Lib.hid (And.intro x4 (And.intro x5 (And.intro o9 (And.intro gg (And.intro i4 (And.intro d4 (And.intro s4 hz4)))))))
    have HP4 : Hid ((∀ ad, da = some ad → 0 < dn → PnL w4 q G2 Ls W2.heap.size ad.block) ∧ (∀ ad, sa = some ad → 0 < sn → PnL w4 q G2 Ls W2.heap.size ad.block)) := Lib.hid ⟨fun ad e hz => ⟨gg.pn (HD.out.2.2.1 ad e hz), by have := (HD.out.2.2.1 ad e hz).1; have e1 := HW3.out.2.2.2.2.2; omega⟩, fun ad e hz => ⟨gg.pn (HD.out.2.2.2.2.2 ad e hz), by have := (HD.out.2.2.2.2.2 ad e hz).1; have e1 := HW3.out.2.2.2.2.2; omega⟩⟩
    have hG4 := Lib.hid (And.intro gg.fl.lts (And.intro (Nat.lt_of_lt_of_le hq3 hz4) hL))
    have hLs4 : Hid (∀ x ∈ Ls, x < w4.heap.size) := Lib.hid (fun x hx => Nat.lt_of_lt_of_le (HLs.out x hx) (Nat.le_trans HW3.out.2.2.2.1.size hz4))
    have m0 : w4.cell? ⟨w.heap.size, 0, none⟩ = some (.slice A n c) := box_cell x4 0 _ rfl
    have m1 : w4.cell? ⟨w.heap.size, 1, none⟩ = some (.slice Av nr cv) := box_cell x4 1 _ rfl
    have p0 : w4.cell? ⟨(w.heap.size+1), 0, none⟩ = some (.int .i64 3) := box_cell x5 0 _ rfl
    have p1 : w4.cell? ⟨(w.heap.size+1), 1, none⟩ = some (.slice da dn dc) := box_cell x5 1 _ rfl
    have p2 : w4.cell? ⟨(w.heap.size+1), 2, none⟩ = some (.slice sa sn sc) := box_cell x5 2 _ rfl
    have p3 : w4.cell? ⟨(w.heap.size+1), 3, none⟩ = some (.int .i64 af) := box_cell x5 3 _ rfl
    have p4 : w4.cell? ⟨(w.heap.size+1), 4, none⟩ = some (.int .i64 kp) := box_cell x5 4 _ rfl
    clear k4 g4 hL ne4 x4 x5 o9 gg i4 d4 s4 hq3 hz4 p3 p4

    go_wp2_with fail
    refine (with_any w4 H4.out.2.2.2.2.1 (fun x hx => hx.1.1) HJ2.out.2.2.2.2 H4.out.2.2.2.2.2.1 HD.out.2.1 HP4.out.1).mono ?_
    rintro e w5 ⟨v1, rfl, i5, b5⟩
    obtain ⟨B, mb, cb, Bv, mr, cw, us, eB, rfl, -⟩ := i5.out
    have i5' : HIn w5 (PnL w5 q G2 Ls W2.heap.size) (.slice A n c) (.slice Bv mr cw) (h.with_ od) := i5.plw b5 hG4.out.2.1 hG4.out.1 hLs4.out hG4.out.2.2.2
    have H5 := Lib.hid (And.intro i5' b5)
    clear i5 i5' b5 eB B mb cb us

    go_wp2
    go_ret2
    have bz : Below w5.heap.size w5 (w5.alloc (.cells #[.slice A n c, .slice Bv mr cw] 106)) := (Below.refl _ _).alloc (Nat.le_refl _) _
    have hz0 : w4.heap.size ≤ w5.heap.size := (H5.out.2).size
    refine ⟨_, 1, 1, _, [h.with_ od], _, j', s', G2, rfl, H4.out.2.2.2.1.below (bthen (H5.out.2) bz), Hels.one (H5.out.1) (fun x hx => hx.1.below bz) (Pn.new hG4.out.2.1 hG4.out.1 hLs4.out hz0 (by simp)), by omega, ⟨.inl ⟨rfl, _, rfl, HC.out.1, HC.out.2⟩⟩, HOk.out⟩

  · obtain ⟨db, hdb⟩ : ∃ b, b = decide (ev = 121) := ⟨_, rfl⟩
    have q0 : ((ev : Int) == 0) = false := by simp; omega
    have q1 : ((ev : Int) == 121) = db := by
      rw [hdb]
      by_cases h9 : ev = 121
      · rw [h9]; rfl
      · rw [decide_eq_false h9]; simp; omega
    have HC := Lib.hid (And.intro hne (And.intro hC hdb))
    clear hne hC hdb p2
    go_wp2_with fail
    refine HA.out.mono ?_
    rintro e w4 ⟨rfl, k4⟩
    clear HA p0 p1
    have hq3 : q < W3.heap.size := Nat.lt_of_lt_of_le HJ.out.2.2.2.2.2.2.1 HW3.out.2.2.2.1.size
    obtain ⟨G2, g4⟩ := JG.of k4 hq3 HJ.out.2.2.1
    have ne4 : ∀ x, w.heap.size ≤ x → x ∉ q :: G := fun x hx hm => by
      rcases List.mem_cons.1 hm with e | e
      · have := HJ.out.2.2.2.2.2.2.1; omega
      · have := HJ.out.2.2.2.2.2.2.2 x e; omega
    have x4 := g4.keep.heap HW3.out.1 (ne4 _ (Nat.le_refl _))
    have x5 := g4.keep.heap HW3.out.2.1 (ne4 _ (by omega))
    have o9 := g4.keep.own HW3.out.2.2.1 (fun b hb => ne4 _ (by injection hb with hb; have e1 : W2.heap.size = b := hb; have := HW3.out.2.2.2.2.2; omega))
    have gg := g4.ahead HW3.out.2.2.2.1
    have hL : W2.heap.size ∉ q :: G2 ∧ W2.heap.size < w4.heap.size := by
      have e1 := HW3.out.2.2.2.2.2
      have e2 := HW3.out.2.2.2.2.1
      have e3 := g4.keep.size
      refine ⟨fun hm => ?_, by omega⟩
      rcases List.mem_cons.1 hm with e | e
      · have := HJ.out.2.2.2.2.2.2.1; omega
      · rcases g4.out _ e with e4 | e4
        · have := HJ.out.2.2.2.2.2.2.2 _ e4; omega
        · omega
    have i4 : HIn w4 (PnL w4 q G2 Ls W2.heap.size) (.slice A n c) (.slice Av nr cv) h := (HJ.out.2.2.2.2.2.1.keep gg.keep (fun x hx => hx.2.1)).mono (fun x hx => ⟨gg.pn hx, by have := hx.1; have e1 := HW3.out.2.2.2.2.2; omega⟩)
    have d4 := HF.out.2.2.1.keepz g4.keep (fun ad e hz => (HD.out.2.2.1 ad e hz).2.1)
    have s4 := HF.out.2.2.2.keepz g4.keep (fun ad e hz => (HD.out.2.2.2.2.2 ad e hz).2.1)
    have hz4 := g4.keep.size
    have H4 := Lib.hid (And.intro x4 (And.intro x5 (And.intro o9 (And.intro gg (And.intro i4 (And.intro d4 (And.intro s4 hz4)))))))
    have HP4 : Hid ((∀ ad, da = some ad → 0 < dn → PnL w4 q G2 Ls W2.heap.size ad.block) ∧ (∀ ad, sa = some ad → 0 < sn → PnL w4 q G2 Ls W2.heap.size ad.block)) := Lib.hid ⟨fun ad e hz => ⟨gg.pn (HD.out.2.2.1 ad e hz), by have := (HD.out.2.2.1 ad e hz).1; have e1 := HW3.out.2.2.2.2.2; omega⟩, fun ad e hz => ⟨gg.pn (HD.out.2.2.2.2.2 ad e hz), by have := (HD.out.2.2.2.2.2 ad e hz).1; have e1 := HW3.out.2.2.2.2.2; omega⟩⟩
    have hG4 := Lib.hid (And.intro gg.fl.lts (And.intro (Nat.lt_of_lt_of_le hq3 hz4) hL))
    have hLs4 : Hid (∀ x ∈ Ls, x < w4.heap.size) := Lib.hid (fun x hx => Nat.lt_of_lt_of_le (HLs.out x hx) (Nat.le_trans HW3.out.2.2.2.1.size hz4))
    have m0 : w4.cell? ⟨w.heap.size, 0, none⟩ = some (.slice A n c) := box_cell x4 0 _ rfl
    have m1 : w4.cell? ⟨w.heap.size, 1, none⟩ = some (.slice Av nr cv) := box_cell x4 1 _ rfl
    have p0 : w4.cell? ⟨(w.heap.size+1), 0, none⟩ = some (.int .i64 3) := box_cell x5 0 _ rfl
    have p1 : w4.cell? ⟨(w.heap.size+1), 1, none⟩ = some (.slice da dn dc) := box_cell x5 1 _ rfl
    have p2 : w4.cell? ⟨(w.heap.size+1), 2, none⟩ = some (.slice sa sn sc) := box_cell x5 2 _ rfl
    have p3 : w4.cell? ⟨(w.heap.size+1), 3, none⟩ = some (.int .i64 af) := box_cell x5 3 _ rfl
    have p4 : w4.cell? ⟨(w.heap.size+1), 4, none⟩ = some (.int .i64 kp) := box_cell x5 4 _ rfl
    clear k4 g4 hL ne4 x4 x5 o9 gg i4 d4 s4 hq3 hz4 p3 p4

    go_wp2_with fail
    refine (with_any w4 H4.out.2.2.2.2.1 (fun x hx => hx.1.1) HJ2.out.2.2.2.2 H4.out.2.2.2.2.2.1 HD.out.2.1 HP4.out.1).mono ?_
    rintro e w5 ⟨v1, rfl, i5, b5⟩
    obtain ⟨B, mb, cb, Bv, mr, cw, us, eB, rfl, -⟩ := i5.out
    have i5' : HIn w5 (PnL w5 q G2 Ls W2.heap.size) (.slice A n c) (.slice Bv mr cw) (h.with_ od) := i5.plw b5 hG4.out.2.1 hG4.out.1 hLs4.out hG4.out.2.2.2
    have H5 := Lib.hid (And.intro i5' b5)
    clear i5 i5' b5 eB B mb cb us

    go_wp2_with (first | (at_builtin; refine Stopped.out ?_) | (at_make; refine Stopped.out ?_))
    have bl : Below w5.heap.size w5 (w5.alloc (.cells #[.slice A n c, .slice Bv mr cw] 106)) := (Below.refl _ _).alloc (Nat.le_refl _) _
    refine Stopped.mk (apk_own EHd rfl (.tmp 33) (.tmp 38) rfl rfl (own_below H4.out.2.2.1 (bthen (H5.out.2) bl)) rfl (Sl.fresh w5 [.slice A n c, .slice Bv mr cw] 106 1 2 rfl (by decide)) (by simp [Value.oneCell']) (by simp only [maxLen]; omega) (by omega) (by have h1 := (bthen (H5.out.2) bl).size; have h2 := hG4.out.2.2.2; omega) ?_)
    intro v7 w7 o7 g7 hb7
    obtain ⟨b7, c7, rfl, l7, l7', l7''⟩ := own_form o7 (by omega)
    have s7 := (own_sl' o7).2.1
    have hz0 : w4.heap.size ≤ w5.heap.size := (H5.out.2).size
    have k7 : Keep [W2.heap.size] (w5.alloc (.cells #[.slice A n c, .slice Bv mr cw] 106)) w7 := (Keep.refl _ _).grown g7 (fun k hk => .inl (by injection hk with hk; have e : W2.heap.size = k := hk; simp [e]))
    have hz7 := k7.size
    have p7 : Pn w7 q G2 Ls b7 := by
      refine ⟨l7', fun hm => ?_, fun hm => by have h1 := hLs4.out _ hm; have h2 := HLs.out _ hm; exact (hb7 b7 rfl).elim (fun e => by injection e with e; have e : W2.heap.size = b7 := e; have e3 := HW3.out.2.2.2.2.2; omega) (fun e => by simp at e; omega)⟩
      rcases hb7 b7 rfl with e | e
      · injection e with e
        have e : W2.heap.size = b7 := e
        rw [← e] at hm; exact hG4.out.2.2.1 hm
      · simp at e
        rcases List.mem_cons.1 hm with e2 | e2
        · have := hG4.out.2.1; omega
        · have := hG4.out.1 _ e2; omega
    have gz := (H4.out.2.2.2.1.below (bthen (H5.out.2) bl)).beside k7 (fun m hm => by
      rw [List.mem_singleton.1 hm]
      exact ⟨by have := HW3.out.2.2.2.2.2; omega, hG4.out.2.2.1⟩)
    have up7 : ∀ v0 v1 hd, HIn w5 (PnL w5 q G2 Ls W2.heap.size) v0 v1 hd → HIn w7 (Pn w7 q G2 Ls) v0 v1 hd := fun v0 v1 hd hi => ((hi.below bl).keep k7 (fun x hx hm => hx.2 (List.mem_singleton.1 hm))).mono (fun x hx => ⟨by have h1 := hx.1.1; have h2 := bl.size; omega, hx.1.2⟩)
    have H7 := Lib.hid (And.intro s7 (And.intro p7 (And.intro gz up7)))
    have hc7 := s7.max
    clear o7 g7 hb7 s7 p7 gz up7 k7 hz0 l7 l7' bl hz7

    go_wp2
    go_ret2
    refine ⟨_, 2, c7, _, [h, h.with_ od], db, j', s', G2, rfl, H7.out.2.2.1, Hels.two H7.out.1 H7.out.2.1 (H7.out.2.2.2 _ _ _ (H4.out.2.2.2.2.1.plb H5.out.2)) (H7.out.2.2.2 _ _ _ H5.out.1), by omega, ⟨?_⟩, HOk.out⟩
    rcases HC.out.2.1 with ⟨e1, e2, e3⟩ | ⟨e1, e2, e3, e4⟩
    · left
      refine ⟨by rw [HC.out.2.2]; exact decide_eq_false e1, h, rfl, ?_, ?_⟩
      · rw [e2, e3]; exact HJ.out.2.2.2.1
      · rw [e3]; exact Nat.le_refl _
    · right
      refine ⟨by rw [HC.out.2.2]; exact decide_eq_true e1, e2, e3, ?_⟩
      rcases e4 with e4 | e4
      · exact ⟨h, by simp, e4⟩
      · exact ⟨_, by simp, e4⟩
set_option maxRecDepth 100000 in
set_option maxHeartbeats 3200000 in
theorem kept_compact (w : World) {p q N : Nat} {G Ls : List Nat} (hLs : ∀ x ∈ Ls, x < w.heap.size) {j : JSt} {s : FSt} {h : Hd} (hf : Fl w p G s) (hj : Jo w q p j) (hqG : q ∉ G) (J : JI 0 j s h) (hok : FOkN N s) (hN : N ≤ 4611686018427387880) {a0 a1 : Value} (H : HIn w (Pn w q G Ls) a0 a1 h) (kd af kp : Int) {da sa : Option Addr} {dn dc sn sc : Nat} {od os : List UInt8}
    (dS : Sl w 1 da dn dc (od.map by8)) (dm : dn ≤ 140737488351232) (dP : ∀ ad, da = some ad → 0 < dn → Pn w q G Ls ad.block) (sS : Sl w 1 sa sn sc (os.map by8)) (sm : sn ≤ 140737488351232) (sP : ∀ ad, sa = some ad → 0 < sn → Pn w q G Ls ad.block) (hkd : kd = 4) :
    Calls Try.prog 67 #[.pointer (some ⟨q, 0, none⟩), .agg #[a0, a1], .agg #[.int .i64 kd, .slice da dn dc, .slice sa sn sc, .int .i64 af, .int .i64 kp]] w (KeptP w p q G Ls s N) := by
  subst hkd
  obtain ⟨A, n, c, Av, nr, cv, vs, rfl, rfl, _⟩ := H.out
  have hq : q < w.heap.size := (Array.getElem?_eq_some_iff.1 hj).1
  have hG := hf.lts
  have HLs := Lib.hid hLs
  clear hLs
  have hln := J.lens
  have hsz := J.size hok
  have hfew : h.recs.length ≤ 1048576 := by omega
  obtain ⟨E, hE⟩ : ∃ x : Nat, x = j.epoch := ⟨_, rfl⟩
  obtain ⟨W2, hW2⟩ : ∃ x, x = (w.alloc (.cells #[.slice A n c, .slice Av nr cv] 106)).alloc (.cells #[.int .i64 4, .slice da dn dc, .slice sa sn sc, .int .i64 af, .int .i64 kp] 97) := ⟨_, rfl⟩
  have z2 : W2.heap.size = w.heap.size + 1 + 1 := by rw [hW2]; simp
  have b2 : Below w.heap.size w W2 := by rw [hW2]; exact ((Below.refl _ _).alloc (Nat.le_refl _) _).alloc (by simp) _
  have x4 : W2.heap[w.heap.size]? = some (.cells #[.slice A n c, .slice Av nr cv] 106 (0, 0)) := by rw [hW2]; exact heap_new1 _ _ _
  have x5 : W2.heap[w.heap.size + 1]? = some (.cells #[.int .i64 4, .slice da dn dc, .slice sa sn sc, .int .i64 af, .int .i64 kp] 97 (0, 0)) := by rw [hW2]; exact heap_new2 _ _ _
  have HEp : Hid (Calls Try.prog 63 #[.pointer (some ⟨q, 0, none⟩)] W2 fun e w' => e = .returned (.int .i64 (E : Nat)) ∧ W2 = w') := Lib.hid (by
    refine (JEpoch_any W2 (hj.below b2)).mono ?_
    rintro e w' ⟨rfl, rfl⟩
    exact ⟨by rw [J.dead, hE]; rfl, rfl⟩)
  have m0 : W2.cell? ⟨w.heap.size, 0, none⟩ = some (.slice A n c) := box_cell x4 0 _ rfl
  have m1 : W2.cell? ⟨w.heap.size, 1, none⟩ = some (.slice Av nr cv) := box_cell x4 1 _ rfl
  have HX := Lib.hid (And.intro x4 (And.intro x5 (And.intro b2 z2)))
  have HJ := Lib.hid (And.intro hf (And.intro hj (And.intro hqG (And.intro J (And.intro hok (And.intro H (And.intro hq hG)))))))
  have HD := Lib.hid (And.intro dS (And.intro dm (And.intro dP (And.intro sS (And.intro sm sP)))))
  have HEE := Lib.hid hE
  have HJ2 := Lib.hid (And.intro J.bank (And.intro (show j.count ≤ 4611686018427387904 by have := J.count; omega) (And.intro (show j.used ≤ 4611686018427387904 by have := J.used; omega) (And.intro hln.2.2.2.2 hfew))))
  clear hf hj hqG J hok H hq hG hln hsz dS dm dP sS sm sP x4 x5 b2 z2 hE hfew
  go_enter Try.func67, Try.ntmps67
  go_wp2_with fail
  rw [← hW2]
  clear hW2
  refine HEp.out.mono ?_
  rintro e wz ⟨rfl, rfl⟩
  clear HEp
  go_upto_region 3 with fail
  obtain ⟨W3, hW3⟩ : ∃ x, x = W2.alloc (.cells #[.slice A n c, .slice Av nr cv] 106) := ⟨_, rfl⟩
  have b3 : Below W2.heap.size W2 W3 := by rw [hW3]; exact (Below.refl _ _).alloc (Nat.le_refl _) _
  have z3 : W3.heap.size = w.heap.size + 1 + 1 + 1 := by rw [hW3]; simp [HX.out.2.2.2]
  have o9 : W3.ownsRow W2.heap.size 106 2 (.slice (some ⟨W2.heap.size, 0, none⟩) 1 1) 1 [.slice A n c, .slice Av nr cv] := by
    have h1 := World.ownsRow_lit (base := W2.heap.size) (e := 106) (size := 2) W2 #[.slice A n c, .slice Av nr cv] 1 (Nat.le_refl _) (by decide) rfl
    rw [← hW3] at h1; exact h1
  have hel3 : Hels W3 (Pn W3 q G Ls) (some ⟨W2.heap.size, 0, none⟩) 1 1 [.slice A n c, .slice Av nr cv] [h] := by
    rw [hW3]
    exact Hels.one (HJ.out.2.2.2.2.2.1.pbelow HX.out.2.2.1) (fun x hx => hx.below ((Below.refl _ _).alloc (Nat.le_refl _) _)) (Pn.new (Nat.lt_of_lt_of_le HJ.out.2.2.2.2.2.2.1 HX.out.2.2.1.size) (fun x hx => Nat.lt_of_lt_of_le (HJ.out.2.2.2.2.2.2.2 x hx) HX.out.2.2.1.size) (fun x hx => Nat.lt_of_lt_of_le (HLs.out x hx) HX.out.2.2.1.size) (Nat.le_refl _) (by simp))
  have HL3 := Lib.hid hel3
  clear hel3
  have x4 := heap_below HX.out.1 b3
  have x5 := heap_below HX.out.2.1 b3
  have hb := bthen HX.out.2.2.1 b3
  rw [← hW3]
  clear hW3 m0 m1
  have HF := Lib.hid (And.intro (HJ.out.1.below hb) (And.intro (HJ.out.2.1.below hb) (And.intro (HD.out.1.below hb) (HD.out.2.2.2.1.below hb))))
  have p0 : W3.cell? ⟨(w.heap.size+1), 0, none⟩ = some (.int .i64 4) := box_cell x5 0 _ rfl
  have p1 : W3.cell? ⟨(w.heap.size+1), 1, none⟩ = some (.slice da dn dc) := box_cell x5 1 _ rfl
  have p2 : W3.cell? ⟨(w.heap.size+1), 2, none⟩ = some (.slice sa sn sc) := box_cell x5 2 _ rfl
  have p3 : W3.cell? ⟨(w.heap.size+1), 3, none⟩ = some (.int .i64 af) := box_cell x5 3 _ rfl
  have p4 : W3.cell? ⟨(w.heap.size+1), 4, none⟩ = some (.int .i64 kp) := box_cell x5 4 _ rfl
  have HW3 := Lib.hid (And.intro x4 (And.intro x5 (And.intro o9 (And.intro hb (And.intro z3 HX.out.2.2.2)))))
  clear x4 x5 o9 hb z3 b3 p3 p4
  have HA := JCompact_any W3 HF.out.2.1 HF.out.1 HJ.out.2.2.1 HJ.out.2.2.2.2.1 (by omega) HJ2.out.1 HJ2.out.2.2.2.1 HJ2.out.2.2.1 HF.out.2.2.2 HD.out.2.2.2.2.1

  obtain ⟨j', hj'⟩ : ∃ x, x = (jcmpF j s os 0).1 := ⟨_, rfl⟩
  obtain ⟨s', hs'⟩ : ∃ x, x = (jcmpF j s os 0).2.1 := ⟨_, rfl⟩
  obtain ⟨ev, hev⟩ : ∃ x, x = (jcmpF j s os 0).2.2 := ⟨_, rfl⟩
  have hok' : FOkN (N + 4) s' := by rw [hs']; exact (jcmpF_ok HJ.out.2.2.2.2.1 os 0).1.more (by omega)
  have hex : jcmpF j s os 0 = (j', s', ev) := by rw [hj', hs', hev]

  have hcs := jcmpF_cases HJ.out.2.2.2.1 HJ.out.2.2.2.2.1 (by omega) os 0
  rw [hex] at HA hcs
  have hC : (ev = 0 ∧ JI 0 j' s' ⟨os, []⟩ ∧ s'.armed.length ≤ s.armed.length) ∨ (ev ≠ 0 ∧ ((ev ≠ 121 ∧ j' = j ∧ s' = s) ∨ (ev = 121 ∧ s'.down = true ∧ s'.armed.length + 1 ≤ s.armed.length ∧ (SI 0 s' h ∨ SI 0 s' ⟨os, []⟩)))) := by
    rcases hcs with ⟨g, e, hg⟩ | ⟨j2, s2, e, q1, q2, _⟩ | ⟨j2, s2, e, q1, q2⟩
    · injection e with e1 e2; injection e2 with e2 e3
      exact .inr ⟨by omega, .inl ⟨by omega, e1, e2⟩⟩
    · injection e with e1 e2; injection e2 with e2 e3
      subst e1; subst e2
      exact .inl ⟨e3, q2, q1.armed⟩
    · injection e with e1 e2; injection e2 with e2 e3
      subst e1; subst e2
      exact .inr ⟨by omega, .inr ⟨e3, q1.down, q1.armed, q2⟩⟩

  have HA := Lib.hid HA
  have HOk := Lib.hid hok'
  clear hj' hs' hev hok' hcs hex

  rcases hC with ⟨rfl, hJ, hAr⟩ | ⟨hne, hC⟩
  · have HC := Lib.hid (And.intro hJ hAr)
    clear hJ hAr p1
    go_wp2_with fail
    refine HA.out.mono ?_
    rintro e w4 ⟨rfl, k4⟩
    clear HA p0 p2
    have hq3 : q < W3.heap.size := Nat.lt_of_lt_of_le HJ.out.2.2.2.2.2.2.1 HW3.out.2.2.2.1.size
    obtain ⟨G2, g4⟩ := JG.of k4 hq3 HJ.out.2.2.1
    have ne4 : ∀ x, w.heap.size ≤ x → x ∉ q :: G := fun x hx hm => by
      rcases List.mem_cons.1 hm with e | e
      · have := HJ.out.2.2.2.2.2.2.1; omega
      · have := HJ.out.2.2.2.2.2.2.2 x e; omega
    have x4 := g4.keep.heap HW3.out.1 (ne4 _ (Nat.le_refl _))
    have x5 := g4.keep.heap HW3.out.2.1 (ne4 _ (by omega))
    have o9 := g4.keep.own HW3.out.2.2.1 (fun b hb => ne4 _ (by injection hb with hb; have e1 : W2.heap.size = b := hb; have := HW3.out.2.2.2.2.2; omega))
    have gg := g4.ahead HW3.out.2.2.2.1
    have hL : W2.heap.size ∉ q :: G2 ∧ W2.heap.size < w4.heap.size := by
      have e1 := HW3.out.2.2.2.2.2
      have e2 := HW3.out.2.2.2.2.1
      have e3 := g4.keep.size
      refine ⟨fun hm => ?_, by omega⟩
      rcases List.mem_cons.1 hm with e | e
      · have := HJ.out.2.2.2.2.2.2.1; omega
      · rcases g4.out _ e with e4 | e4
        · have := HJ.out.2.2.2.2.2.2.2 _ e4; omega
        · omega
    have i4 : HIn w4 (PnL w4 q G2 Ls W2.heap.size) (.slice A n c) (.slice Av nr cv) h := (HJ.out.2.2.2.2.2.1.keep gg.keep (fun x hx => hx.2.1)).mono (fun x hx => ⟨gg.pn hx, by have := hx.1; have e1 := HW3.out.2.2.2.2.2; omega⟩)
    have d4 := HF.out.2.2.1.keepz g4.keep (fun ad e hz => (HD.out.2.2.1 ad e hz).2.1)
    have s4 := HF.out.2.2.2.keepz g4.keep (fun ad e hz => (HD.out.2.2.2.2.2 ad e hz).2.1)
    have hz4 := g4.keep.size
    have H4 := Lib.hid (And.intro x4 (And.intro x5 (And.intro o9 (And.intro gg (And.intro i4 (And.intro d4 (And.intro s4 hz4)))))))
    have HP4 : Hid ((∀ ad, da = some ad → 0 < dn → PnL w4 q G2 Ls W2.heap.size ad.block) ∧ (∀ ad, sa = some ad → 0 < sn → PnL w4 q G2 Ls W2.heap.size ad.block)) := Lib.hid ⟨fun ad e hz => ⟨gg.pn (HD.out.2.2.1 ad e hz), by have := (HD.out.2.2.1 ad e hz).1; have e1 := HW3.out.2.2.2.2.2; omega⟩, fun ad e hz => ⟨gg.pn (HD.out.2.2.2.2.2 ad e hz), by have := (HD.out.2.2.2.2.2 ad e hz).1; have e1 := HW3.out.2.2.2.2.2; omega⟩⟩
    have hG4 := Lib.hid (And.intro gg.fl.lts (And.intro (Nat.lt_of_lt_of_le hq3 hz4) hL))
    have hLs4 : Hid (∀ x ∈ Ls, x < w4.heap.size) := Lib.hid (fun x hx => Nat.lt_of_lt_of_le (HLs.out x hx) (Nat.le_trans HW3.out.2.2.2.1.size hz4))
    have m0 : w4.cell? ⟨w.heap.size, 0, none⟩ = some (.slice A n c) := box_cell x4 0 _ rfl
    have m1 : w4.cell? ⟨w.heap.size, 1, none⟩ = some (.slice Av nr cv) := box_cell x4 1 _ rfl
    have p0 : w4.cell? ⟨(w.heap.size+1), 0, none⟩ = some (.int .i64 4) := box_cell x5 0 _ rfl
    have p1 : w4.cell? ⟨(w.heap.size+1), 1, none⟩ = some (.slice da dn dc) := box_cell x5 1 _ rfl
    have p2 : w4.cell? ⟨(w.heap.size+1), 2, none⟩ = some (.slice sa sn sc) := box_cell x5 2 _ rfl
    have p3 : w4.cell? ⟨(w.heap.size+1), 3, none⟩ = some (.int .i64 af) := box_cell x5 3 _ rfl
    have p4 : w4.cell? ⟨(w.heap.size+1), 4, none⟩ = some (.int .i64 kp) := box_cell x5 4 _ rfl
    clear k4 g4 hL ne4 x4 x5 o9 gg i4 d4 s4 hq3 hz4 p3 p4

    have hi4 := Lib.hid (HIn.nil (P := PnL w4 q G2 Ls W2.heap.size) H4.out.2.2.2.2.2.2.1 HP4.out.2)
    go_wp2
    go_ret2
    have bz : Below w4.heap.size w4 (w4.alloc (.cells #[.slice sa sn sc, .slice none 0 0] 106)) := (Below.refl _ _).alloc (Nat.le_refl _) _
    have hz0 : w4.heap.size ≤ w4.heap.size := (Below.refl w4.heap.size w4).size
    refine ⟨_, 1, 1, _, [⟨os, []⟩], _, j', s', G2, rfl, H4.out.2.2.2.1.below (bthen (Below.refl w4.heap.size w4) bz), Hels.one (hi4.out) (fun x hx => hx.1.below bz) (Pn.new hG4.out.2.1 hG4.out.1 hLs4.out hz0 (by simp)), by omega, ⟨.inl ⟨rfl, _, rfl, HC.out.1, HC.out.2⟩⟩, HOk.out⟩

  · obtain ⟨db, hdb⟩ : ∃ b, b = decide (ev = 121) := ⟨_, rfl⟩
    have q0 : ((ev : Int) == 0) = false := by simp; omega
    have q1 : ((ev : Int) == 121) = db := by
      rw [hdb]
      by_cases h9 : ev = 121
      · rw [h9]; rfl
      · rw [decide_eq_false h9]; simp; omega
    have HC := Lib.hid (And.intro hne (And.intro hC hdb))
    clear hne hC hdb

    clear p1
    go_wp2_with fail
    refine HA.out.mono ?_
    rintro e w4 ⟨rfl, k4⟩
    clear HA p0 p2
    have hq3 : q < W3.heap.size := Nat.lt_of_lt_of_le HJ.out.2.2.2.2.2.2.1 HW3.out.2.2.2.1.size
    obtain ⟨G2, g4⟩ := JG.of k4 hq3 HJ.out.2.2.1
    have ne4 : ∀ x, w.heap.size ≤ x → x ∉ q :: G := fun x hx hm => by
      rcases List.mem_cons.1 hm with e | e
      · have := HJ.out.2.2.2.2.2.2.1; omega
      · have := HJ.out.2.2.2.2.2.2.2 x e; omega
    have x4 := g4.keep.heap HW3.out.1 (ne4 _ (Nat.le_refl _))
    have x5 := g4.keep.heap HW3.out.2.1 (ne4 _ (by omega))
    have o9 := g4.keep.own HW3.out.2.2.1 (fun b hb => ne4 _ (by injection hb with hb; have e1 : W2.heap.size = b := hb; have := HW3.out.2.2.2.2.2; omega))
    have gg := g4.ahead HW3.out.2.2.2.1
    have hL : W2.heap.size ∉ q :: G2 ∧ W2.heap.size < w4.heap.size := by
      have e1 := HW3.out.2.2.2.2.2
      have e2 := HW3.out.2.2.2.2.1
      have e3 := g4.keep.size
      refine ⟨fun hm => ?_, by omega⟩
      rcases List.mem_cons.1 hm with e | e
      · have := HJ.out.2.2.2.2.2.2.1; omega
      · rcases g4.out _ e with e4 | e4
        · have := HJ.out.2.2.2.2.2.2.2 _ e4; omega
        · omega
    have i4 : HIn w4 (PnL w4 q G2 Ls W2.heap.size) (.slice A n c) (.slice Av nr cv) h := (HJ.out.2.2.2.2.2.1.keep gg.keep (fun x hx => hx.2.1)).mono (fun x hx => ⟨gg.pn hx, by have := hx.1; have e1 := HW3.out.2.2.2.2.2; omega⟩)
    have d4 := HF.out.2.2.1.keepz g4.keep (fun ad e hz => (HD.out.2.2.1 ad e hz).2.1)
    have s4 := HF.out.2.2.2.keepz g4.keep (fun ad e hz => (HD.out.2.2.2.2.2 ad e hz).2.1)
    have hz4 := g4.keep.size
    have H4 := Lib.hid (And.intro x4 (And.intro x5 (And.intro o9 (And.intro gg (And.intro i4 (And.intro d4 (And.intro s4 hz4)))))))
    have HP4 : Hid ((∀ ad, da = some ad → 0 < dn → PnL w4 q G2 Ls W2.heap.size ad.block) ∧ (∀ ad, sa = some ad → 0 < sn → PnL w4 q G2 Ls W2.heap.size ad.block)) := Lib.hid ⟨fun ad e hz => ⟨gg.pn (HD.out.2.2.1 ad e hz), by have := (HD.out.2.2.1 ad e hz).1; have e1 := HW3.out.2.2.2.2.2; omega⟩, fun ad e hz => ⟨gg.pn (HD.out.2.2.2.2.2 ad e hz), by have := (HD.out.2.2.2.2.2 ad e hz).1; have e1 := HW3.out.2.2.2.2.2; omega⟩⟩
    have hG4 := Lib.hid (And.intro gg.fl.lts (And.intro (Nat.lt_of_lt_of_le hq3 hz4) hL))
    have hLs4 : Hid (∀ x ∈ Ls, x < w4.heap.size) := Lib.hid (fun x hx => Nat.lt_of_lt_of_le (HLs.out x hx) (Nat.le_trans HW3.out.2.2.2.1.size hz4))
    have m0 : w4.cell? ⟨w.heap.size, 0, none⟩ = some (.slice A n c) := box_cell x4 0 _ rfl
    have m1 : w4.cell? ⟨w.heap.size, 1, none⟩ = some (.slice Av nr cv) := box_cell x4 1 _ rfl
    have p0 : w4.cell? ⟨(w.heap.size+1), 0, none⟩ = some (.int .i64 4) := box_cell x5 0 _ rfl
    have p1 : w4.cell? ⟨(w.heap.size+1), 1, none⟩ = some (.slice da dn dc) := box_cell x5 1 _ rfl
    have p2 : w4.cell? ⟨(w.heap.size+1), 2, none⟩ = some (.slice sa sn sc) := box_cell x5 2 _ rfl
    have p3 : w4.cell? ⟨(w.heap.size+1), 3, none⟩ = some (.int .i64 af) := box_cell x5 3 _ rfl
    have p4 : w4.cell? ⟨(w.heap.size+1), 4, none⟩ = some (.int .i64 kp) := box_cell x5 4 _ rfl
    clear k4 g4 hL ne4 x4 x5 o9 gg i4 d4 s4 hq3 hz4 p3 p4

    have hi4 := Lib.hid (HIn.nil (P := PnL w4 q G2 Ls W2.heap.size) H4.out.2.2.2.2.2.2.1 HP4.out.2)
    go_wp2_with (first | (at_builtin; refine Stopped.out ?_) | (at_make; refine Stopped.out ?_))
    have bl : Below w4.heap.size w4 (w4.alloc (.cells #[.slice sa sn sc, .slice none 0 0] 106)) := (Below.refl _ _).alloc (Nat.le_refl _) _
    refine Stopped.mk (apk_own EHd rfl (.tmp 55) (.tmp 59) rfl rfl (own_below H4.out.2.2.1 (bthen (Below.refl w4.heap.size w4) bl)) rfl (Sl.fresh w4 [.slice sa sn sc, .slice none 0 0] 106 1 2 rfl (by decide)) (by simp [Value.oneCell']) (by simp only [maxLen]; omega) (by omega) (by have h1 := (bthen (Below.refl w4.heap.size w4) bl).size; have h2 := hG4.out.2.2.2; omega) ?_)
    intro v7 w7 o7 g7 hb7
    obtain ⟨b7, c7, rfl, l7, l7', l7''⟩ := own_form o7 (by omega)
    have s7 := (own_sl' o7).2.1
    have hz0 : w4.heap.size ≤ w4.heap.size := (Below.refl w4.heap.size w4).size
    have k7 : Keep [W2.heap.size] (w4.alloc (.cells #[.slice sa sn sc, .slice none 0 0] 106)) w7 := (Keep.refl _ _).grown g7 (fun k hk => .inl (by injection hk with hk; have e : W2.heap.size = k := hk; simp [e]))
    have hz7 := k7.size
    have p7 : Pn w7 q G2 Ls b7 := by
      refine ⟨l7', fun hm => ?_, fun hm => by have h1 := hLs4.out _ hm; have h2 := HLs.out _ hm; exact (hb7 b7 rfl).elim (fun e => by injection e with e; have e : W2.heap.size = b7 := e; have e3 := HW3.out.2.2.2.2.2; omega) (fun e => by simp at e; omega)⟩
      rcases hb7 b7 rfl with e | e
      · injection e with e
        have e : W2.heap.size = b7 := e
        rw [← e] at hm; exact hG4.out.2.2.1 hm
      · simp at e
        rcases List.mem_cons.1 hm with e2 | e2
        · have := hG4.out.2.1; omega
        · have := hG4.out.1 _ e2; omega
    have gz := (H4.out.2.2.2.1.below (bthen (Below.refl w4.heap.size w4) bl)).beside k7 (fun m hm => by
      rw [List.mem_singleton.1 hm]
      exact ⟨by have := HW3.out.2.2.2.2.2; omega, hG4.out.2.2.1⟩)
    have up7 : ∀ v0 v1 hd, HIn w4 (PnL w4 q G2 Ls W2.heap.size) v0 v1 hd → HIn w7 (Pn w7 q G2 Ls) v0 v1 hd := fun v0 v1 hd hi => ((hi.below bl).keep k7 (fun x hx hm => hx.2 (List.mem_singleton.1 hm))).mono (fun x hx => ⟨by have h1 := hx.1.1; have h2 := bl.size; omega, hx.1.2⟩)
    have H7 := Lib.hid (And.intro s7 (And.intro p7 (And.intro gz up7)))
    have hc7 := s7.max
    clear o7 g7 hb7 s7 p7 gz up7 k7 hz0 l7 l7' bl hz7

    go_wp2
    go_ret2
    refine ⟨_, 2, c7, _, [h, ⟨os, []⟩], db, j', s', G2, rfl, H7.out.2.2.1, Hels.two H7.out.1 H7.out.2.1 (H7.out.2.2.2 _ _ _ H4.out.2.2.2.2.1) (H7.out.2.2.2 _ _ _ hi4.out), by omega, ⟨?_⟩, HOk.out⟩
    rcases HC.out.2.1 with ⟨e1, e2, e3⟩ | ⟨e1, e2, e3, e4⟩
    · left
      refine ⟨by rw [HC.out.2.2]; exact decide_eq_false e1, h, rfl, ?_, ?_⟩
      · rw [e2, e3]; exact HJ.out.2.2.2.1
      · rw [e3]; exact Nat.le_refl _
    · right
      refine ⟨by rw [HC.out.2.2]; exact decide_eq_true e1, e2, e3, ?_⟩
      rcases e4 with e4 | e4
      · exact ⟨h, by simp, e4⟩
      · exact ⟨_, by simp, e4⟩
set_option maxRecDepth 100000 in
set_option maxHeartbeats 3200000 in
theorem kept_other (w : World) {p q N : Nat} {G Ls : List Nat} (hLs : ∀ x ∈ Ls, x < w.heap.size) {j : JSt} {s : FSt} {h : Hd} (hf : Fl w p G s) (hj : Jo w q p j) (hqG : q ∉ G) (J : JI 0 j s h) (hok : FOkN N s) (hN : N ≤ 4611686018427387880) {a0 a1 : Value} (H : HIn w (Pn w q G Ls) a0 a1 h) (kd af kp : Int) {da sa : Option Addr} {dn dc sn sc : Nat} {od os : List UInt8}
    (dS : Sl w 1 da dn dc (od.map by8)) (dm : dn ≤ 140737488351232) (dP : ∀ ad, da = some ad → 0 < dn → Pn w q G Ls ad.block) (sS : Sl w 1 sa sn sc (os.map by8)) (sm : sn ≤ 140737488351232) (sP : ∀ ad, sa = some ad → 0 < sn → Pn w q G Ls ad.block) (kd3 : kd ≠ 3) (kd4 : kd ≠ 4) (kd5 : kd ≠ 5) :
    Calls Try.prog 67 #[.pointer (some ⟨q, 0, none⟩), .agg #[a0, a1], .agg #[.int .i64 kd, .slice da dn dc, .slice sa sn sc, .int .i64 af, .int .i64 kp]] w (KeptP w p q G Ls s N) := by
  obtain ⟨A, n, c, Av, nr, cv, vs, rfl, rfl, _⟩ := H.out
  have hq : q < w.heap.size := (Array.getElem?_eq_some_iff.1 hj).1
  have hG := hf.lts
  have HLs := Lib.hid hLs
  clear hLs
  have hln := J.lens
  have hsz := J.size hok
  have hfew : h.recs.length ≤ 1048576 := by omega
  obtain ⟨E, hE⟩ : ∃ x : Nat, x = j.epoch := ⟨_, rfl⟩
  obtain ⟨W2, hW2⟩ : ∃ x, x = (w.alloc (.cells #[.slice A n c, .slice Av nr cv] 106)).alloc (.cells #[.int .i64 kd, .slice da dn dc, .slice sa sn sc, .int .i64 af, .int .i64 kp] 97) := ⟨_, rfl⟩
  have z2 : W2.heap.size = w.heap.size + 1 + 1 := by rw [hW2]; simp
  have b2 : Below w.heap.size w W2 := by rw [hW2]; exact ((Below.refl _ _).alloc (Nat.le_refl _) _).alloc (by simp) _
  have x4 : W2.heap[w.heap.size]? = some (.cells #[.slice A n c, .slice Av nr cv] 106 (0, 0)) := by rw [hW2]; exact heap_new1 _ _ _
  have x5 : W2.heap[w.heap.size + 1]? = some (.cells #[.int .i64 kd, .slice da dn dc, .slice sa sn sc, .int .i64 af, .int .i64 kp] 97 (0, 0)) := by rw [hW2]; exact heap_new2 _ _ _
  have HEp : Hid (Calls Try.prog 63 #[.pointer (some ⟨q, 0, none⟩)] W2 fun e w' => e = .returned (.int .i64 (E : Nat)) ∧ W2 = w') := Lib.hid (by
    refine (JEpoch_any W2 (hj.below b2)).mono ?_
    rintro e w' ⟨rfl, rfl⟩
    exact ⟨by rw [J.dead, hE]; rfl, rfl⟩)
  have m0 : W2.cell? ⟨w.heap.size, 0, none⟩ = some (.slice A n c) := box_cell x4 0 _ rfl
  have m1 : W2.cell? ⟨w.heap.size, 1, none⟩ = some (.slice Av nr cv) := box_cell x4 1 _ rfl
  have HX := Lib.hid (And.intro x4 (And.intro x5 (And.intro b2 z2)))
  have HJ := Lib.hid (And.intro hf (And.intro hj (And.intro hqG (And.intro J (And.intro hok (And.intro H (And.intro hq hG)))))))
  have HD := Lib.hid (And.intro dS (And.intro dm (And.intro dP (And.intro sS (And.intro sm sP)))))
  have HEE := Lib.hid hE
  have HJ2 := Lib.hid (And.intro J.bank (And.intro (show j.count ≤ 4611686018427387904 by have := J.count; omega) (And.intro (show j.used ≤ 4611686018427387904 by have := J.used; omega) (And.intro hln.2.2.2.2 hfew))))
  clear hf hj hqG J hok H hq hG hln hsz dS dm dP sS sm sP x4 x5 b2 z2 hE hfew
  go_enter Try.func67, Try.ntmps67
  go_wp2_with fail
  rw [← hW2]
  clear hW2
  refine HEp.out.mono ?_
  rintro e wz ⟨rfl, rfl⟩
  clear HEp
  go_upto_region 3 with fail
  obtain ⟨W3, hW3⟩ : ∃ x, x = W2.alloc (.cells #[.slice A n c, .slice Av nr cv] 106) := ⟨_, rfl⟩
  have b3 : Below W2.heap.size W2 W3 := by rw [hW3]; exact (Below.refl _ _).alloc (Nat.le_refl _) _
  have z3 : W3.heap.size = w.heap.size + 1 + 1 + 1 := by rw [hW3]; simp [HX.out.2.2.2]
  have o9 : W3.ownsRow W2.heap.size 106 2 (.slice (some ⟨W2.heap.size, 0, none⟩) 1 1) 1 [.slice A n c, .slice Av nr cv] := by
    have h1 := World.ownsRow_lit (base := W2.heap.size) (e := 106) (size := 2) W2 #[.slice A n c, .slice Av nr cv] 1 (Nat.le_refl _) (by decide) rfl
    rw [← hW3] at h1; exact h1
  have hel3 : Hels W3 (Pn W3 q G Ls) (some ⟨W2.heap.size, 0, none⟩) 1 1 [.slice A n c, .slice Av nr cv] [h] := by
    rw [hW3]
    exact Hels.one (HJ.out.2.2.2.2.2.1.pbelow HX.out.2.2.1) (fun x hx => hx.below ((Below.refl _ _).alloc (Nat.le_refl _) _)) (Pn.new (Nat.lt_of_lt_of_le HJ.out.2.2.2.2.2.2.1 HX.out.2.2.1.size) (fun x hx => Nat.lt_of_lt_of_le (HJ.out.2.2.2.2.2.2.2 x hx) HX.out.2.2.1.size) (fun x hx => Nat.lt_of_lt_of_le (HLs.out x hx) HX.out.2.2.1.size) (Nat.le_refl _) (by simp))
  have HL3 := Lib.hid hel3
  clear hel3
  have x4 := heap_below HX.out.1 b3
  have x5 := heap_below HX.out.2.1 b3
  have hb := bthen HX.out.2.2.1 b3
  rw [← hW3]
  clear hW3 m0 m1
  have HF := Lib.hid (And.intro (HJ.out.1.below hb) (And.intro (HJ.out.2.1.below hb) (And.intro (HD.out.1.below hb) (HD.out.2.2.2.1.below hb))))
  have p0 : W3.cell? ⟨(w.heap.size+1), 0, none⟩ = some (.int .i64 kd) := box_cell x5 0 _ rfl
  have p1 : W3.cell? ⟨(w.heap.size+1), 1, none⟩ = some (.slice da dn dc) := box_cell x5 1 _ rfl
  have p2 : W3.cell? ⟨(w.heap.size+1), 2, none⟩ = some (.slice sa sn sc) := box_cell x5 2 _ rfl
  have p3 : W3.cell? ⟨(w.heap.size+1), 3, none⟩ = some (.int .i64 af) := box_cell x5 3 _ rfl
  have p4 : W3.cell? ⟨(w.heap.size+1), 4, none⟩ = some (.int .i64 kp) := box_cell x5 4 _ rfl
  have HW3 := Lib.hid (And.intro x4 (And.intro x5 (And.intro o9 (And.intro hb (And.intro z3 HX.out.2.2.2)))))
  clear x4 x5 o9 hb z3 b3 p3 p4
  have k3 : (kd == 3) = false := by simpa using kd3
  have k4 : (kd == 4) = false := by simpa using kd4
  have k5 : (kd == 5) = false := by simpa using kd5
  clear kd3 kd4 kd5 p1 p2
  go_wp2
  go_ret2
  refine ⟨_, 1, 1, _, [h], false, j, s, G, rfl, ⟨HF.out.1, HF.out.2.1, HJ.out.2.2.1, Keep.of_below HW3.out.2.2.2.1 _, fun x hx => .inl hx⟩, HL3.out, by omega, ⟨.inl ⟨rfl, h, rfl, HJ.out.2.2.2.1, Nat.le_refl _⟩⟩, HJ.out.2.2.2.2.1.more (by omega)⟩
end Go.Proofs.Ytpjmbhhfpoamnaa
