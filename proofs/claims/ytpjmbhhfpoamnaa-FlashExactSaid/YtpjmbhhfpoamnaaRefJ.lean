import Derived.Test.YtpjmbhhfpoamnaaRefI
set_option linter.unusedVariables false
set_option linter.unusedSimpArgs false
namespace Go.Proofs.Ytpjmbhhfpoamnaa
open Go.RowKit
set_option maxRecDepth 100000 in
set_option maxHeartbeats 1600000 in
theorem ref_Disarm (w : World) {v : List Value} {s : FSt} {Xs : List Nat} (h : RFl w v s Xs) :
    Calls Try.prog 86 #[.agg v.toArray] w fun e w' => ∃ v', e = .returned (.agg v'.toArray) ∧ RFl w' v' { s with armed := [], count := 0 } Xs ∧ Below w.heap.size w w' := by
  obtain ⟨A, B, C, a, b, c, rfl, hA, hB, hC, hAp⟩ := h.out
  have HAp := Lib.hid hAp
  clear hAp
  rw [refV_eq]
  have H0 := Lib.hid (And.intro hA (And.intro hB hC))
  clear hA hB hC h
  go_enter Try.func86, Try.ntmps86
  go_wp2
  refine bodyPost_ret (results_cell_row (P := Try.prog) rfl _ _ _ _ _ _ _ (by rfl) (heap_alloc2 _ _ _) Try.underlying37 rfl (by kernel_rfl)) rfl ?_
  exact ⟨_, rfl, ⟨A, B, none, a, b, 0, rfl, H0.out.1.below (below2 _ _ _), H0.out.2.1.below (below2 _ _ _), Sl.nilS _ _, HAp.out.1, HAp.out.2.1, Ap.none⟩, below2 _ _ _⟩
set_option maxRecDepth 100000 in
set_option maxHeartbeats 1600000 in
theorem ref_Restart (w : World) {v : List Value} {s : FSt} {Xs : List Nat} (h : RFl w v s Xs) :
    Calls Try.prog 87 #[.agg v.toArray] w fun e w' => ∃ v', e = .returned (.tuple #[.agg v'.toArray, .int .i64 ((rstF s).2 : Nat)]) ∧ RFl w' v' (rstF s).1 Xs ∧ Below w.heap.size w w' := by
  obtain ⟨A, B, C, a, b, c, rfl, hA, hB, hC, hAp⟩ := h.out
  have HAp := Lib.hid hAp
  clear hAp
  rw [refV_eq]
  have H0 := Lib.hid (And.intro hA (And.intro hB hC))
  clear hA hB hC h
  obtain ⟨sz, l0, l1, ar, ct, wr, dn⟩ := s
  simp only at H0 ⊢
  cases dn
  · go_enter Try.func87, Try.ntmps87
    go_wp2
    refine bodyPost_ret (results_c2 (P := Try.prog) rfl _ _ _ _ _ _ _ (by rfl) (heap_alloc2 _ _ _) Try.underlying37 rfl (by kernel_rfl)) rfl ?_
    exact ⟨_, rfl, ⟨A, B, C, a, b, c, rfl, H0.out.1.below (below2 _ _ _), H0.out.2.1.below (below2 _ _ _), H0.out.2.2.below (below2 _ _ _), HAp.out⟩, below2 _ _ _⟩
  · go_enter Try.func87, Try.ntmps87
    go_wp2
    refine bodyPost_ret (results_c2 (P := Try.prog) rfl _ _ _ _ _ _ _ (by rfl) (heap_alloc2 _ _ _) Try.underlying37 rfl (by kernel_rfl)) rfl ?_
    exact ⟨_, rfl, ⟨A, B, C, a, b, c, rfl, H0.out.1.below (below2 _ _ _), H0.out.2.1.below (below2 _ _ _), H0.out.2.2.below (below2 _ _ _), HAp.out⟩, below2 _ _ _⟩
set_option maxRecDepth 100000 in
set_option maxHeartbeats 1600000 in
theorem ref_Arm_no (w : World) {v : List Value} {s : FSt} {Xs : List Nat} (h : RFl w v s Xs) (x k : Int) (hb : x < 1 ∨ 1000000 < x ∨ k < 0 ∨ 1048576 < k) :
    Calls Try.prog 85 #[.agg v.toArray, .int .i64 x, .int .i64 k] w fun e w' => ∃ v', e = .returned (.tuple #[.agg v'.toArray, .int .i64 2]) ∧ RFl w' v' s Xs ∧ Below w.heap.size w w' := by
  obtain ⟨A, B, C, a, b, c, rfl, hA, hB, hC, hAp⟩ := h.out
  have HAp := Lib.hid hAp
  clear hAp
  rw [refV_eq]
  have H0 := Lib.hid (And.intro hA (And.intro hB hC))
  clear hA hB hC h
  by_cases h1 : x < 1
  · clear hb
    go_enter Try.func85, Try.ntmps85
    go_wp2
    refine bodyPost_ret (results_c2 (P := Try.prog) rfl _ _ _ _ _ _ _ (by rfl) (heap_alloc2 _ _ _) Try.underlying37 rfl (by kernel_rfl)) rfl ?_
    exact ⟨_, rfl, ⟨A, B, C, a, b, c, rfl, H0.out.1.below (below2 _ _ _), H0.out.2.1.below (below2 _ _ _), H0.out.2.2.below (below2 _ _ _), HAp.out⟩, below2 _ _ _⟩
  have d1 : decide (x < 1) = false := decide_eq_false h1
  by_cases h2 : 1000000 < x
  · clear hb h1
    go_enter Try.func85, Try.ntmps85
    go_wp2
    refine bodyPost_ret (results_c2 (P := Try.prog) rfl _ _ _ _ _ _ _ (by rfl) (heap_alloc2 _ _ _) Try.underlying37 rfl (by kernel_rfl)) rfl ?_
    exact ⟨_, rfl, ⟨A, B, C, a, b, c, rfl, H0.out.1.below (below2 _ _ _), H0.out.2.1.below (below2 _ _ _), H0.out.2.2.below (below2 _ _ _), HAp.out⟩, below2 _ _ _⟩
  have d2 : decide (1000000 < x) = false := decide_eq_false h2
  by_cases h3 : k < 0
  · clear hb h1 h2
    go_enter Try.func85, Try.ntmps85
    go_wp2
    refine bodyPost_ret (results_c2 (P := Try.prog) rfl _ _ _ _ _ _ _ (by rfl) (heap_alloc2 _ _ _) Try.underlying37 rfl (by kernel_rfl)) rfl ?_
    exact ⟨_, rfl, ⟨A, B, C, a, b, c, rfl, H0.out.1.below (below2 _ _ _), H0.out.2.1.below (below2 _ _ _), H0.out.2.2.below (below2 _ _ _), HAp.out⟩, below2 _ _ _⟩
  have d3 : decide (k < 0) = false := decide_eq_false h3
  have h4 : 1048576 < k := by omega
  clear hb h1 h2 h3
  go_enter Try.func85, Try.ntmps85
  go_wp2
  refine bodyPost_ret (results_c2 (P := Try.prog) rfl _ _ _ _ _ _ _ (by rfl) (heap_alloc2 _ _ _) Try.underlying37 rfl (by kernel_rfl)) rfl ?_
  exact ⟨_, rfl, ⟨A, B, C, a, b, c, rfl, H0.out.1.below (below2 _ _ _), H0.out.2.1.below (below2 _ _ _), H0.out.2.2.below (below2 _ _ _), HAp.out⟩, below2 _ _ _⟩
set_option maxRecDepth 100000 in
set_option maxHeartbeats 1600000 in
theorem ref_Arm_full (w : World) {v : List Value} {s : FSt} {Xs : List Nat} (h : RFl w v s Xs) (x k : Int) (hb : ¬ (x < 1 ∨ 1000000 < x ∨ k < 0 ∨ 1048576 < k)) (hl : 64 ≤ s.armed.length) :
    Calls Try.prog 85 #[.agg v.toArray, .int .i64 x, .int .i64 k] w fun e w' => ∃ v', e = .returned (.tuple #[.agg v'.toArray, .int .i64 1]) ∧ RFl w' v' s Xs ∧ Below w.heap.size w w' := by
  obtain ⟨A, B, C, a, b, c, rfl, hA, hB, hC, hAp⟩ := h.out
  have HAp := Lib.hid hAp
  clear hAp
  rw [refV_eq]
  have H0 := Lib.hid (And.intro hA (And.intro hB hC))
  have d1 : decide (x < 1) = false := decide_eq_false (by omega)
  have d2 : decide (1000000 < x) = false := decide_eq_false (by omega)
  have d3 : decide (k < 0) = false := decide_eq_false (by omega)
  have d4 : decide (1048576 < k) = false := decide_eq_false (by omega)
  have i1 : (64 : Int) ≤ (s.armed.length : Int) := by omega
  clear hA hB hC h hb hl
  go_enter Try.func85, Try.ntmps85
  go_wp2
  refine bodyPost_ret (results_c2 (P := Try.prog) rfl _ _ _ _ _ _ _ (by rfl) (heap_alloc2 _ _ _) Try.underlying37 rfl (by kernel_rfl)) rfl ?_
  exact ⟨_, rfl, ⟨A, B, C, a, b, c, rfl, H0.out.1.below (below2 _ _ _), H0.out.2.1.below (below2 _ _ _), H0.out.2.2.below (below2 _ _ _), HAp.out⟩, below2 _ _ _⟩
set_option maxRecDepth 100000 in
set_option maxHeartbeats 1600000 in
theorem ref_Arm_yes (w : World) {v : List Value} {s : FSt} {Xs : List Nat} (h : RFl w v s Xs) (x k : Nat) (hx : 1 ≤ x ∧ x ≤ 1000000) (hk : k ≤ 1048576) (hl : s.armed.length < 64) (hXs : ∀ x ∈ Xs, x < w.heap.size) :
    Calls Try.prog 85 #[.agg v.toArray, .int .i64 x, .int .i64 k] w fun e w' => ∃ v', e = .returned (.tuple #[.agg v'.toArray, .int .i64 0]) ∧ RFl w' v' { s with armed := s.armed ++ [(x, k)] } Xs ∧ Below w.heap.size w w' := by
  obtain ⟨A, B, C, a, b, c, rfl, hA, hB, hC, hAp⟩ := h.out
  have HAp := Lib.hid hAp
  clear hAp
  rw [refV_eq]
  obtain ⟨z, l0, l1, ar, cn, wt, dn⟩ := s
  simp only at hA hB hC hl ⊢
  have d1 : decide ((x : Int) < 1) = false := decide_eq_false (by omega)
  have d2 : decide (1000000 < (x : Int)) = false := decide_eq_false (by omega)
  have d3 : decide ((k : Int) < 0) = false := decide_eq_false (by omega)
  have d4 : decide (1048576 < (k : Int)) = false := decide_eq_false (by omega)
  obtain ⟨n0, hn0⟩ : ∃ z, z = l0.length := ⟨_, rfl⟩
  obtain ⟨n1, hn1⟩ : ∃ z, z = l1.length := ⟨_, rfl⟩
  obtain ⟨n2, hn2⟩ : ∃ z, z = ar.length := ⟨_, rfl⟩
  rw [← hn2] at hl
  have d5 : decide ((64 : Int) ≤ (n2 : Int)) = false := decide_eq_false (by omega)
  have hcl := hC.le; have hcm := hC.max
  have HN := Lib.hid (And.intro hn0 (And.intro hn1 hn2))
  rw [← hn0] at hA; rw [← hn1] at hB; rw [← hn2] at hC hcl
  rw [← hn0, ← hn1, ← hn2]
  obtain ⟨W1, hW1⟩ : ∃ W1, W1 = (w.alloc (.cells #[.int .i64 z, .slice A n0 a, .slice B n1 b, .slice C n2 c, .int .i64 cn, .int .i64 wt, .bool dn] 37)).alloc (.cells #[.int .i64 0, .slice none 0 0, .slice none 0 0, .slice none 0 0, .int .i64 0, .int .i64 0, .bool false] 37) := ⟨_, rfl⟩
  have hb1 : Below w.heap.size w W1 := by rw [hW1]; exact below2 _ _ _
  have x0 : W1.heap[w.heap.size]? = some (.cells #[.int .i64 z, .slice A n0 a, .slice B n1 b, .slice C n2 c, .int .i64 cn, .int .i64 wt, .bool dn] 37 (0, 0)) := by rw [hW1]; exact heap_alloc1 _ _ _
  have x1 : W1.heap[w.heap.size + 1]? = some (.cells #[.int .i64 0, .slice none 0 0, .slice none 0 0, .slice none 0 0, .int .i64 0, .int .i64 0, .bool false] 37 (0, 0)) := by rw [hW1]; exact heap_alloc2 _ _ _
  have m0 : W1.cell? ⟨w.heap.size, 0, none⟩ = some (.int .i64 z) := box_cell x0 0 _ rfl
  have m1 : W1.cell? ⟨w.heap.size, 1, none⟩ = some (.slice A n0 a) := box_cell x0 1 _ rfl
  have m2 : W1.cell? ⟨w.heap.size, 2, none⟩ = some (.slice B n1 b) := box_cell x0 2 _ rfl
  have m3 : W1.cell? ⟨w.heap.size, 3, none⟩ = some (.slice C n2 c) := box_cell x0 3 _ rfl
  have m4 : W1.cell? ⟨w.heap.size, 4, none⟩ = some (.int .i64 cn) := box_cell x0 4 _ rfl
  have m5 : W1.cell? ⟨w.heap.size, 5, none⟩ = some (.int .i64 wt) := box_cell x0 5 _ rfl
  have m6 : W1.cell? ⟨w.heap.size, 6, none⟩ = some (.bool dn) := box_cell x0 6 _ rfl
  have HX := Lib.hid (And.intro hb1 (And.intro x0 x1))
  have HC := Lib.hid (And.intro hA (And.intro hB hC))
  clear hA hB hb1 x0 x1 h hn0 hn1 hn2
  go_enter Try.func85, Try.ntmps85
  go_wp2_with fail
  rw [← hW1]
  clear hW1
  go_loopw [8, 9] (fun o i wr => ∃ (j : Nat) (u : Value), j ≤ n2 ∧ i = .int .i64 j ∧ o = u ∧ wr.ownsRow W1.heap.size 187 2 u j (crashL (ar.take j)) ∧ Below W1.heap.size W1 wr) (fun _ i _ => n2 - (intOf i).toNat)
  case atStart => exact ⟨0, _, by omega, rfl, rfl, World.ownsRow_nil .., Below.refl _ _⟩
  case round =>
    obtain ⟨j, u, hj, rfl, rfl, hst, hbl⟩ := hrel
    have l3 := cell_below m3 hbl
    by_cases hlt : j < n2
    · have i3 : (j : Int) < (n2 : Int) := by omega
      have i4 : (0 : Int) ≤ (j : Int) := by omega
      have hjr : j < ar.length := by rw [← HN.out.2.2]; exact hlt
      obtain ⟨b0, off, rfl⟩ := hC.form (by omega)
      obtain ⟨t0, t1⟩ := (hC.below (bthen HX.out.1 hbl)).crash j hjr
      have HT := Lib.hid (crashL_take ar j hjr)
      generalize ar[j] = cj at t0 t1 HT
      go_wp2_with (first | (at_builtin; refine Stopped.out ?_) | (at_make; refine Stopped.out ?_))
      refine Stopped.mk (ap_own ECr rfl (.tmp 37) (.tmp 43) rfl rfl (own_below hst ((Below.refl _ wr).alloc (Nat.le_refl _) _)) rfl (Sl.fresh wr [.int .i64 (cj.1 : Int), .int .i64 (cj.2 : Int)] 187 1 2 rfl (by decide)) (by intro u hu; simp at hu; rcases hu with rfl | rfl <;> rfl) (by simp only [maxLen]; omega) (by omega) (by have := hbl.size; simp; omega) ?_)
      intro v2 w2 hst2 hg2 _
      have HN2 := Lib.hid (And.intro hst2 ((hbl.alloc hbl.size _).grown hg2 (by have := hbl.size; simp; omega) (fun k hk => (hst.lt k hk).1)))
      clear hst hbl hst2 hg2 l3 t0 t1
      go_wp2
      first | go_roundw | refine ⟨?rel, ?measure⟩
      case rel => exact ⟨j + 1, v2, by omega, by go_num, rfl, by rw [HT.out]; exact HN2.out.1, HN2.out.2⟩
      case measure => simp [intOf]; omega
    · have HJ := Lib.hid (show j = n2 by omega)
      rw [HJ.out] at hst
      have e9 : ar.take n2 = ar := List.take_of_length_le (by rw [← HN.out.2.2]; exact Nat.le_refl _)
      rw [e9] at hst
      go_wp2_with (first | (at_builtin; refine Stopped.out ?_) | (at_make; refine Stopped.out ?_))
      refine Stopped.mk (ap_own ECr rfl (.tmp 45) (.tmp 49) rfl rfl (own_below hst ((Below.refl _ wr).alloc (Nat.le_refl _) _)) rfl (Sl.fresh wr [.int .i64 (x : Int), .int .i64 (k : Int)] 187 1 2 rfl (by decide)) (by intro u hu; simp at hu; rcases hu with rfl | rfl <;> rfl) (by simp only [maxLen]; omega) (by omega) (by have := hbl.size; simp; omega) ?_)
      intro v2 w2 hst2 hg2 _
      have hb2 : Below W1.heap.size W1 w2 := ((hbl.alloc hbl.size _).grown hg2 (by have := hbl.size; simp; omega) (fun k hk => (hst.lt k hk).1))
      have y0 := heap_below HX.out.2.1 hb2
      have y1 := heap_below HX.out.2.2 hb2
      clear m0 m1 m2 m3 m4 m5 m6 l3
      have m0 : w2.cell? ⟨w.heap.size, 0, none⟩ = some (.int .i64 z) := box_cell y0 0 _ rfl
      have m1 : w2.cell? ⟨w.heap.size, 1, none⟩ = some (.slice A n0 a) := box_cell y0 1 _ rfl
      have m2 : w2.cell? ⟨w.heap.size, 2, none⟩ = some (.slice B n1 b) := box_cell y0 2 _ rfl
      have m3 : w2.cell? ⟨w.heap.size, 3, none⟩ = some (.slice C n2 c) := box_cell y0 3 _ rfl
      have m4 : w2.cell? ⟨w.heap.size, 4, none⟩ = some (.int .i64 cn) := box_cell y0 4 _ rfl
      have m5 : w2.cell? ⟨w.heap.size, 5, none⟩ = some (.int .i64 wt) := box_cell y0 5 _ rfl
      have m6 : w2.cell? ⟨w.heap.size, 6, none⟩ = some (.bool dn) := box_cell y0 6 _ rfl
      have f0 := box_free y0 0
      have f1 := box_free y0 1
      have f2 := box_free y0 2
      have f3 := box_free y0 3
      have f4 := box_free y0 4
      have f5 := box_free y0 5
      have f6 := box_free y0 6
      have r0 : w2.cell? ⟨w.heap.size + 1, 0, none⟩ = some (.int .i64 0) := box_cell y1 0 _ rfl
      have r1 : w2.cell? ⟨w.heap.size + 1, 1, none⟩ = some (.slice none 0 0) := box_cell y1 1 _ rfl
      have r2 : w2.cell? ⟨w.heap.size + 1, 2, none⟩ = some (.slice none 0 0) := box_cell y1 2 _ rfl
      have r3 : w2.cell? ⟨w.heap.size + 1, 3, none⟩ = some (.slice none 0 0) := box_cell y1 3 _ rfl
      have r4 : w2.cell? ⟨w.heap.size + 1, 4, none⟩ = some (.int .i64 0) := box_cell y1 4 _ rfl
      have r5 : w2.cell? ⟨w.heap.size + 1, 5, none⟩ = some (.int .i64 0) := box_cell y1 5 _ rfl
      have r6 : w2.cell? ⟨w.heap.size + 1, 6, none⟩ = some (.bool false) := box_cell y1 6 _ rfl
      have g0 := box_free y1 0
      have g1 := box_free y1 1
      have g2 := box_free y1 2
      have g3 := box_free y1 3
      have g4 := box_free y1 4
      have g5 := box_free y1 5
      have g6 := box_free y1 6
      have e8 : crashL ar ++ [.int .i64 (x : Int), .int .i64 (k : Int)] = crashL (ar ++ [(x, k)]) := (crashL_snoc ar (x, k)).symm
      rw [e8] at hst2
      have HZ := Lib.hid (And.intro hst2 (And.intro hb2 (And.intro y0 y1)))
      obtain ⟨C', c', rfl, _, _⟩ := own_sl hst2
      clear hst hbl hst2 hg2 hb2 y0 y1
      go_wp2
      have kb : Keep [w.heap.size] w2 (w2.setCell ⟨w.heap.size, 3, none⟩ (.slice C' (n2 + 1) c')) := (Keep.refl [w.heap.size] w2).setCell (p := ⟨w.heap.size, 3, none⟩) (.inl (by simp)) _
      have s7 := set7 (.int .i64 (z : Int)) (.slice A n0 a) (.slice B n1 b) (.slice C' (n2 + 1) c') (.int .i64 (cn : Int)) (.int .i64 (wt : Int)) (.bool dn) (kb.heap HZ.out.2.2.2 (by simp))
      refine bodyPost_ret (results_c2 (P := Try.prog) rfl _ _ _ _ _ _ _ (by rfl) s7.1 Try.underlying37 rfl (by kernel_rfl)) rfl ?_
      have hbz := bthen HX.out.1 HZ.out.2.1
      have hbx := kb.below hbz hbz.size (fun x hx => by simp at hx; omega)
      have hb3 := s7.2.below hbx hbx.size (fun x hx => by simp at hx; omega)
      have e0 := HN.out.1; have e1 := HN.out.2.1; have e2 := HN.out.2.2
      have hlt2 := (own_sl' HZ.out.1).2.2
      refine ⟨_, rfl, ⟨A, B, C', a, b, c', ?_, ?_, ?_, ?_, HAp.out.1, HAp.out.2.1, Ap.new hXs (fun ad e => Nat.le_trans HX.out.1.size (hlt2 ad e).1)⟩, hb3⟩
      · simp only [refV, List.length_append, List.length_cons, List.length_nil, ← e0, ← e1, ← e2]
      · simp only [← e0]; exact HC.out.1.below hb3
      · simp only [← e1]; exact HC.out.2.1.below hb3
      · simp only [List.length_append, List.length_cons, List.length_nil, ← e2]
        refine (own_sl' HZ.out.1).2.1.keep ((kb.mono (M' := [w.heap.size, w.heap.size + 1]) (by intro x hx; simp at hx; simp [hx])).trans (s7.2.mono (by intro x hx; simp at hx; simp [hx]))) (fun ad e hx => ?_)
        have h1 := (hlt2 ad e).1
        have h2 := cell_lt (box_cell HX.out.2.2 0 _ rfl)
        simp at hx h2
        omega
theorem ref_Arm (w : World) {v : List Value} {s : FSt} {Xs : List Nat} (h : RFl w v s Xs) (x k : Int) (hXs : ∀ x ∈ Xs, x < w.heap.size) :
    Calls Try.prog 85 #[.agg v.toArray, .int .i64 x, .int .i64 k] w fun e w' => ∃ v', e = .returned (.tuple #[.agg v'.toArray, .int .i64 ((armF s x k).2 : Nat)]) ∧ RFl w' v' (armF s x k).1 Xs ∧ Below w.heap.size w w' := by
  by_cases h1 : x < 1 ∨ 1000000 < x ∨ k < 0 ∨ 1048576 < k
  · rw [armF, if_pos h1]
    exact ref_Arm_no w h x k h1
  · by_cases h2 : 64 ≤ s.armed.length
    · rw [armF, if_neg h1, if_pos h2]
      exact ref_Arm_full w h x k h1 h2
    · rw [armF, if_neg h1, if_neg h2]
      have := ref_Arm_yes w h x.toNat k.toNat (by omega) (by omega) (by omega) hXs
      rwa [show ((x.toNat : Nat) : Int) = x by omega, show ((k.toNat : Nat) : Int) = k by omega] at this
end Go.Proofs.Ytpjmbhhfpoamnaa
