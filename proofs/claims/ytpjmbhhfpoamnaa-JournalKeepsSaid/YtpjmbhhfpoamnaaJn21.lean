import Derived.Test.YtpjmbhhfpoamnaaJn19
set_option linter.unusedVariables false
set_option linter.unusedSimpArgs false
namespace Go.Proofs.Ytpjmbhhfpoamnaa
open Go.RowKit
theorem results_c1r {P : Program} {fn : Func} {p : Tmp} {ty : TypeId} (h : fn.results = #[.cell p ty]) (tmps : Array Value) (w : World) (g : Nat) (t : TypeId) (cs : Array Value) (fr : Nat × Nat) (d : TypeDesc)
    (hp : tmps.getD p undef = .pointer (some ⟨g, 0, none⟩)) (hg : w.heap[g]? = some (.cells cs t fr))
    (hu : P.underlying ty = some d) (hd : (match d with | .struct _ | .array _ _ => true | _ => false) = true) (hi : (P.info? ty).map (·.size) = some cs.size) :
    (results fn tmps).run P w = .ok (.agg cs) w := by
  have hp' : tmps[p]?.getD undef = .pointer (some ⟨g, 0, none⟩) := by simpa using hp
  simp [results, h, hp', asAddr, run_loadVar_row w g t ty cs fr d hg hu hd hi]
set_option maxRecDepth 100000 in
set_option maxHeartbeats 1600000 in
/-- is -/
theorem is_any (w : World) {P1 P2 : Nat → Prop} {a0 a1 b0 b1 : Value} {h g : Hd} (H1 : HIn w P1 a0 a1 h) (H2 : HIn w P2 b0 b1 g) (ep cut : Int) :
    Calls Try.prog 58 #[.agg #[a0, a1], .agg #[.int .i64 ep, b0, b1, .int .i64 cut]] w fun e w' => e = .returned (.bool (decide (h.snap = g.snap ∧ h.recs = g.recs))) ∧ Below w.heap.size w w' := by
  obtain ⟨A, n, c, Av, nr, cv, vs, rfl, rfl, h1, _, h3, _, _⟩ := H1.out
  obtain ⟨B, m, d, Bv, mr, dv, us, rfl, rfl, g1, _, g3, _, _⟩ := H2.out
  obtain ⟨W2, hW2⟩ : ∃ W2, W2 = (w.alloc (.cells #[.slice A n c, .slice Av nr cv] 106)).alloc (.cells #[.int .i64 ep, .slice B m d, .slice Bv mr dv, .int .i64 cut] 100) := ⟨_, rfl⟩
  have hb2 : Below w.heap.size w W2 := by rw [hW2]; exact ((Below.refl _ _).alloc (Nat.le_refl _) _).alloc (by simp) _
  have HC := Lib.hid (sameFound_any W2 0 0 (h1.below hb2) (g1.below hb2) (h3.below hb2) (g3.below hb2))
  have HB := Lib.hid hb2
  obtain ⟨x, hx⟩ : ∃ x, x = decide (h.snap = g.snap ∧ h.recs = g.recs) := ⟨_, rfl⟩
  rw [← hx] at HC ⊢
  clear h1 h3 g1 g3 hb2 H1 H2 hx
  go_enter Try.func58, Try.ntmps58
  go_wp2_with fail
  rw [← hW2]
  refine HC.out.mono ?_
  rintro e w3 ⟨rfl, k3⟩
  clear HC hW2
  go_wp2
  go_ret
  exact ⟨rfl, bthen HB.out k3⟩
set_option maxRecDepth 100000 in
set_option maxHeartbeats 1600000 in
/-- with -/
theorem with_any (w : World) {P : Nat → Prop} {a0 a1 : Value} {h : Hd} (H : HIn w P a0 a1 h) (hP : ∀ x, P x → x < w.heap.size) (hfew : h.recs.length ≤ 1048576) {B : Option Addr} {m d : Nat} {r : List UInt8} (hr : Sl w 1 B m d (r.map by8)) (hm : m ≤ 140737488351232) (hB : ∀ ad, B = some ad → 0 < m → P ad.block) :
    Calls Try.prog 110 #[.agg #[a0, a1], .slice B m d] w fun e w' => ∃ v1, e = .returned (.agg #[a0, v1]) ∧ HIn w' (fun x => P x ∨ (w.heap.size ≤ x ∧ x < w'.heap.size)) a0 v1 (h.with_ r) ∧ Below w.heap.size w w' := by
  obtain ⟨A, n, c, Av, nr, cv, vs, rfl, rfl, h1, h2, h3, h4, h5⟩ := H.out
  have hnr := h3.len
  have hc1 : ∀ u ∈ vs, u.oneCell' = true := fun u hu => by
    obtain ⟨i, hi, rfl⟩ := List.getElem_of_mem hu
    have hl : vs.length = nr := by simpa using h3.sl.len
    obtain ⟨a, mm, cc, q1, q2, q3⟩ := h3.at_ i _ (List.getElem?_eq_getElem (by omega))
    obtain ⟨_, q4⟩ := List.getElem?_eq_some_iff.1 q1
    rw [q4]; rfl
  obtain ⟨W2, hW2⟩ : ∃ W2, W2 = (w.alloc (.cells #[.slice A n c, .slice Av nr cv] 106)).alloc (.cells #[.slice none 0 0, .slice none 0 0] 106) := ⟨_, rfl⟩
  have hb2 : Below w.heap.size w W2 := by rw [hW2]; exact ((Below.refl _ _).alloc (Nat.le_refl _) _).alloc (by simp) _
  have x0 : W2.heap[w.heap.size]? = some (.cells #[.slice A n c, .slice Av nr cv] 106 (0, 0)) := by rw [hW2]; exact heap_new1 _ _ _
  have x1 : W2.heap[w.heap.size + 1]? = some (.cells #[.slice none 0 0, .slice none 0 0] 106 (0, 0)) := by rw [hW2]; exact heap_new2 _ _ _
  have HX := Lib.hid (And.intro hb2 (And.intro x0 (And.intro x1 (And.intro (h1.below hb2) (And.intro (h3.below hb2) (hr.below hb2))))))
  have HO := Lib.hid (And.intro h2 (And.intro h4 (And.intro h5 (And.intro hP hB))))
  have HC1 := Lib.hid hc1
  clear h1 h2 h3 h4 h5 H hP hB hb2 x0 x1 hc1 hr
  have HSZ : Hid (W2.heap.size = w.heap.size + 1 + 1) := Lib.hid (by rw [hW2]; simp)
  have HNR := Lib.hid hnr
  have hnr2 : nr ≤ 1048576 := by omega
  clear hnr
  go_enter Try.func110, Try.ntmps110
  go_wp2_with (first | (at_builtin; refine Stopped.out ?_) | (at_make; refine Stopped.out ?_))
  rw [← hW2]
  clear hW2
  refine Stopped.mk (ap_own EShj rfl (.tmp 6) (.tmp 8) rfl (v := .slice none 0 0) (n := 0) (xs := []) (base := W2.heap.size) rfl ⟨rfl, .inl ⟨rfl, rfl⟩⟩ rfl HX.out.2.2.2.2.1.sl HC1.out (by simp only [maxLen]; omega) (by omega) (Nat.le_refl _) ?_)
  intro v3 w3 o3 g3 _
  rw [Nat.zero_add, List.nil_append] at o3
  have b3 := below_grown (g3 : W2.grownBy w3 none)
  obtain ⟨A3, c3, rfl, s3, hA3⟩ := own_sl o3
  have hc3 := s3.max; have hl3 := s3.le
  have H3 := Lib.hid (And.intro o3 (And.intro b3 hA3))
  clear o3 g3 b3 s3 hA3
  go_wp2_with (first | (at_builtin; refine Stopped.out ?_) | (at_make; refine Stopped.out ?_))
  refine Stopped.mk (ap_own EShj rfl (.tmp 10) (.tmp 12) rfl rfl (own_below H3.out.1 ((Below.refl _ w3).alloc (Nat.le_refl _) _)) rfl (Sl.fresh w3 [.slice B m d] 22 1 1 rfl (by decide)) (by simp [Value.oneCell']) (by simp only [maxLen]; omega) (by omega) (by have := H3.out.2.1.size; simp; omega) ?_)
  intro v4 w4 o4 g4 _
  have b4 : Below W2.heap.size W2 w4 := (H3.out.2.1.alloc H3.out.2.1.size _).grown g4 (by simp; have := H3.out.2.1.size; omega) (fun k hk => by
    cases A3 with
    | none => cases hk
    | some ad => have := H3.out.2.2 ad rfl; injection hk with hk; have : ad.block = k := hk; omega)
  obtain ⟨A4, c4, rfl, s4, hA4⟩ := own_sl o4
  have hc4 := s4.max; have hl4 := s4.le
  have x0 := heap_below HX.out.2.1 b4
  have x1 := heap_below HX.out.2.2.1 b4
  have H4 := Lib.hid (And.intro s4 (And.intro b4 hA4))
  have HX1 := Lib.hid x1
  clear o4 g4 s4 b4 hA4
  obtain ⟨B0, hB0⟩ : ∃ B0, B0 = w.heap.size := ⟨_, rfl⟩
  have HB0 := Lib.hid hB0
  rw [← hB0] at x0 x1 HX1 ⊢
  have m0 : w4.cell? ⟨B0, 0, none⟩ = some (.slice A n c) := box_cell x0 0 _ rfl
  have m1 : w4.cell? ⟨B0, 1, none⟩ = some (.slice Av nr cv) := box_cell x0 1 _ rfl
  have o0 : w4.cell? ⟨(B0+1), 0, none⟩ = some (.slice none 0 0) := box_cell x1 0 _ rfl
  have o1 : w4.cell? ⟨(B0+1), 1, none⟩ = some (.slice none 0 0) := box_cell x1 1 _ rfl
  have f0 := box_free x1 0
  have f1 := box_free x1 1
  clear x0 x1 hB0
  go_wp2
  have z1 := heap_setCell_same (w4.setCell ⟨B0 + 1, 0, none⟩ (.slice A n c)) (B0 + 1) 1 _ _ (.slice A4 (nr + 1) c4) (heap_setCell_same w4 (B0 + 1) 0 _ _ (.slice A n c) HX1.out)
  refine bodyPost_ret (results_c1r (P := Try.prog) rfl _ _ _ _ _ _ _ (by rfl) z1 Try.underlying106 rfl (by kernel_rfl)) rfl ?_
  have kM : Keep [B0 + 1] w4 ((w4.setCell ⟨B0 + 1, 0, none⟩ (.slice A n c)).setCell ⟨B0 + 1, 1, none⟩ (.slice A4 (nr + 1) c4)) := ((Keep.refl [B0 + 1] w4).setCell (p := ⟨B0 + 1, 0, none⟩) (.inl (by simp)) _).setCell (p := ⟨B0 + 1, 1, none⟩) (.inl (by simp)) _
  obtain ⟨w5, hw5⟩ : ∃ w5, w5 = ((w4.setCell ⟨B0 + 1, 0, none⟩ (.slice A n c)).setCell ⟨B0 + 1, 1, none⟩ (.slice A4 (nr + 1) c4)) := ⟨_, rfl⟩
  have hz5 : w5.heap.size = w4.heap.size := by rw [hw5]; simp
  rw [← hw5] at kM ⊢
  have e0 := HB0.out
  have hz2 := HSZ.out
  have hz4 := H4.out.2.1.size
  have hbw : Below w.heap.size w w4 := bthen HX.out.1 H4.out.2.1
  have hIn : HIn w4 (fun x => P x ∨ (W2.heap.size ≤ x ∧ x < w4.heap.size)) (.slice A n c) (.slice A4 (nr + 1) c4) (h.with_ r) := by
    refine ⟨A, n, c, A4, nr + 1, c4, vs ++ [.slice B m d], rfl, rfl, HX.out.2.2.2.1.below H4.out.2.1, fun ad e z => .inl (HO.out.1 ad e z), ⟨H4.out.1, by simp [Hd.with_, HNR.out], fun i l hl => ?_⟩, fun ad e _ => .inr (H4.out.2.2 ad e), fun i a mm cc hv ad e z => .inl ?_⟩
    · have hvl : vs.length = nr := by simpa using HX.out.2.2.2.2.1.sl.len
      have hl : (h.recs ++ [r])[i]? = some l := hl
      by_cases hi : i < nr
      · rw [List.getElem?_append_left (by rw [HNR.out]; exact hi)] at hl
        obtain ⟨a, mm, cc, q1, q2, q3⟩ := HX.out.2.2.2.2.1.at_ i l hl
        exact ⟨a, mm, cc, by rw [List.getElem?_append_left (by omega)]; exact q1, q2.below H4.out.2.1, q3⟩
      · rw [List.getElem?_append_right (by rw [HNR.out]; omega), HNR.out] at hl
        have hi2 : i = nr := by
          have := (List.getElem?_eq_some_iff.1 hl).1
          simp at this; omega
        subst hi2
        rw [Nat.sub_self] at hl
        obtain rfl := Option.some.inj hl
        exact ⟨B, m, d, by rw [List.getElem?_append_right (by omega), hvl, Nat.sub_self]; rfl, HX.out.2.2.2.2.2.below H4.out.2.1, hm⟩
    · have hvl : vs.length = nr := by simpa using HX.out.2.2.2.2.1.sl.len
      by_cases hi : i < vs.length
      · rw [List.getElem?_append_left hi] at hv
        exact HO.out.2.2.1 i a mm cc hv ad e z
      · rw [List.getElem?_append_right (by omega)] at hv
        have hi2 : i - vs.length = 0 := by
          have := (List.getElem?_eq_some_iff.1 hv).1
          simp at this; omega
        rw [hi2] at hv
        injection hv with hv; injection hv with hv hv2
        subst hv; subst hv2
        exact HO.out.2.2.2.2 ad e z
  refine ⟨_, rfl, (hIn.keep kM (fun x hx hm => ?_)).mono (fun x hx => hx.imp id (fun h => by omega)), kM.below hbw hbw.size (by simp; omega)⟩
  simp at hm
  rcases hx with hx | hx
  · have := HO.out.2.2.2.1 x hx; omega
  · omega
end Go.Proofs.Ytpjmbhhfpoamnaa
