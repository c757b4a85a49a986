import Derived.Test.YtpjmbhhfpoamnaaRefK
set_option linter.unusedVariables false
set_option linter.unusedSimpArgs false
namespace Go.Proofs.Ytpjmbhhfpoamnaa
open Go.RowKit
theorem ref_Append (w : World) {v : List Value} {s : FSt} {Xs : List Nat} (h : RFl w v s Xs) (hk : FOk s) (n : Int) {D : Option Addr} {k d : Nat} {l : List UInt8} (hb : Sl w 1 D k d (l.map by8)) (hkm : k ≤ 140737488355328) (hXs : ∀ x ∈ Xs, x < w.heap.size) :
    Calls Try.prog 78 #[.agg v.toArray, .int .i64 n, .slice D k d] w fun e w' => ∃ v', e = .returned (.tuple #[.agg v'.toArray, .int .i64 ((appF s n l).2 : Nat)]) ∧ RFl w' v' (appF s n l).1 Xs ∧ Below w.heap.size w w' := by
  have hl : l.length = k := by simpa using hb.len
  by_cases hr : refusedF s n ≠ 0
  · rw [appF, if_pos hr]
    exact ref_Append_no w h n hr D k d
  · have hr0 : refusedF s n = 0 := by omega
    obtain ⟨hn, hd⟩ := refused_zero hr0
    by_cases hf : s.size < (bankF s n.toNat).length + l.length
    · rw [appF, if_neg hr, if_pos hf]
      exact ref_Append_full w h hk n hr0 D k d hkm (by omega)
    · rw [appF, if_neg hr, if_neg hf]
      rcases hn with rfl | rfl
      · have hf' : s.b0.length + k ≤ s.size := by have : bankF s (0 : Int).toNat = s.b0 := rfl
                                                  rw [this] at hf; omega
        cases hst : struckF s
        · exact ref_Append_ok0 w h hk hr0 hst hb hkm hf' hXs
        · exact ref_Append_ok0s w h hk hr0 hst hb hkm hf' hXs
      · have hf' : s.b1.length + k ≤ s.size := by have : bankF s (1 : Int).toNat = s.b1 := rfl
                                                  rw [this] at hf; omega
        cases hst : struckF s
        · exact ref_Append_ok1 w h hk hr0 hst hb hkm hf' hXs
        · exact ref_Append_ok1s w h hk hr0 hst hb hkm hf' hXs
set_option maxRecDepth 100000 in
set_option maxHeartbeats 1600000 in
theorem ref_Erase_no (w : World) {v : List Value} {s : FSt} {Xs : List Nat} (h : RFl w v s Xs) (n : Int) (hr : refusedF s n ≠ 0) :
    Calls Try.prog 82 #[.agg v.toArray, .int .i64 n] w fun e w' => ∃ v', e = .returned (.tuple #[.agg v'.toArray, .int .i64 (refusedF s n : Nat)]) ∧ RFl w' v' s Xs ∧ Below w.heap.size w w' := by
  obtain ⟨A, B, C, a, b, c, rfl, hA, hB, hC, hAp⟩ := h.out
  have HAp := Lib.hid hAp
  clear hAp
  rw [refV_eq]
  have hRf := fun w1 => ref_refusedG w1 s A B C a b c n
  obtain ⟨rf, hrf⟩ : ∃ rf, rf = refusedF s n := ⟨_, rfl⟩
  rw [← hrf] at hRf hr ⊢
  have i0 : ((rf : Int) != 0) = true := by simp; omega
  clear hr hrf
  obtain ⟨z, hz⟩ : ∃ z, z = s.size := ⟨_, rfl⟩
  obtain ⟨n0, hn0⟩ : ∃ z, z = s.b0.length := ⟨_, rfl⟩
  obtain ⟨n1, hn1⟩ : ∃ z, z = s.b1.length := ⟨_, rfl⟩
  obtain ⟨n2, hn2⟩ : ∃ z, z = s.armed.length := ⟨_, rfl⟩
  obtain ⟨cn, hcn⟩ : ∃ z, z = s.count := ⟨_, rfl⟩
  obtain ⟨wt, hwt⟩ : ∃ z, z = s.writes := ⟨_, rfl⟩
  obtain ⟨dn, hdn⟩ : ∃ z, z = s.down := ⟨_, rfl⟩
  have HE := Lib.hid (And.intro hz (And.intro hn0 (And.intro hn1 (And.intro hn2 (And.intro hcn (And.intro hwt hdn))))))
  rw [← hz, ← hn0, ← hn1, ← hn2, ← hcn, ← hwt, ← hdn] at hRf
  rw [← hz, ← hn0, ← hn1, ← hn2, ← hcn, ← hwt, ← hdn]
  rw [← hn0] at hA; rw [← hn1] at hB; rw [← hn2] at hC
  obtain ⟨W1, hW1⟩ : ∃ W1, W1 = (w.alloc (.cells #[.int .i64 z, .slice A n0 a, .slice B n1 b, .slice C n2 c, .int .i64 cn, .int .i64 wt, .bool dn] 37)).alloc (.cells #[.int .i64 0, .slice none 0 0, .slice none 0 0, .slice none 0 0, .int .i64 0, .int .i64 0, .bool false] 37) := ⟨_, rfl⟩
  have hb1 : Below w.heap.size w W1 := by rw [hW1]; exact below2 _ _ _
  have x0 : W1.heap[w.heap.size]? = some (.cells #[.int .i64 z, .slice A n0 a, .slice B n1 b, .slice C n2 c, .int .i64 cn, .int .i64 wt, .bool dn] 37 (0, 0)) := by rw [hW1]; exact heap_alloc1 _ _ _
  have x1 : W1.heap[w.heap.size + 1]? = some (.cells #[.int .i64 0, .slice none 0 0, .slice none 0 0, .slice none 0 0, .int .i64 0, .int .i64 0, .bool false] 37 (0, 0)) := by rw [hW1]; exact heap_alloc2 _ _ _
  have m0 : W1.cell? ⟨w.heap.size, 0, none⟩ = some (.int .i64 z) := box_cell x0 0 _ rfl
  have m1 : W1.cell? ⟨w.heap.size, 1, none⟩ = some (.slice A n0 a) := box_cell x0 1 _ rfl
  have m2 : W1.cell? ⟨w.heap.size, 2, none⟩ = some (.slice B n1 b) := box_cell x0 2 _ rfl
  have m3 : W1.cell? ⟨w.heap.size, 3, none⟩ = some (.slice C n2 c) := box_cell x0 3 _ rfl
  have m4 : W1.cell? ⟨w.heap.size, 4, none⟩ = some (.int .i64 cn) := box_cell x0 4 _ rfl
  have m5 : W1.cell? ⟨w.heap.size, 5, none⟩ = some (.int .i64 wt) := box_cell x0 5 _ rfl
  have m6 : W1.cell? ⟨w.heap.size, 6, none⟩ = some (.bool dn) := box_cell x0 6 _ rfl
  have HR := Lib.hid (hRf W1)
  have HX := Lib.hid (And.intro hb1 (And.intro x0 x1))
  have HC := Lib.hid (And.intro hA (And.intro hB hC))
  clear hA hB hC hb1 x0 x1 h hRf hz hn0 hn1 hn2 hcn hwt hdn
  go_enter Try.func82, Try.ntmps82
  go_wp2_with fail
  rw [← hW1]
  clear hW1
  refine HR.out.mono ?_
  rintro e w1 ⟨rfl, hb1⟩
  have y0 := heap_below HX.out.2.1 hb1
  have y1 := heap_below HX.out.2.2 hb1
  have HB := Lib.hid (And.intro (bthen HX.out.1 hb1) y1)
  clear m0 m1 m2 m3 m4 m5 m6
  have m0 : w1.cell? ⟨w.heap.size, 0, none⟩ = some (.int .i64 z) := box_cell y0 0 _ rfl
  have m1 : w1.cell? ⟨w.heap.size, 1, none⟩ = some (.slice A n0 a) := box_cell y0 1 _ rfl
  have m2 : w1.cell? ⟨w.heap.size, 2, none⟩ = some (.slice B n1 b) := box_cell y0 2 _ rfl
  have m3 : w1.cell? ⟨w.heap.size, 3, none⟩ = some (.slice C n2 c) := box_cell y0 3 _ rfl
  have m4 : w1.cell? ⟨w.heap.size, 4, none⟩ = some (.int .i64 cn) := box_cell y0 4 _ rfl
  have m5 : w1.cell? ⟨w.heap.size, 5, none⟩ = some (.int .i64 wt) := box_cell y0 5 _ rfl
  have m6 : w1.cell? ⟨w.heap.size, 6, none⟩ = some (.bool dn) := box_cell y0 6 _ rfl
  have r0 : w1.cell? ⟨w.heap.size + 1, 0, none⟩ = some (.int .i64 0) := box_cell y1 0 _ rfl
  have r1 : w1.cell? ⟨w.heap.size + 1, 1, none⟩ = some (.slice none 0 0) := box_cell y1 1 _ rfl
  have r2 : w1.cell? ⟨w.heap.size + 1, 2, none⟩ = some (.slice none 0 0) := box_cell y1 2 _ rfl
  have r3 : w1.cell? ⟨w.heap.size + 1, 3, none⟩ = some (.slice none 0 0) := box_cell y1 3 _ rfl
  have r4 : w1.cell? ⟨w.heap.size + 1, 4, none⟩ = some (.int .i64 0) := box_cell y1 4 _ rfl
  have r5 : w1.cell? ⟨w.heap.size + 1, 5, none⟩ = some (.int .i64 0) := box_cell y1 5 _ rfl
  have r6 : w1.cell? ⟨w.heap.size + 1, 6, none⟩ = some (.bool false) := box_cell y1 6 _ rfl
  have g0 := box_free y1 0
  have g1 := box_free y1 1
  have g2 := box_free y1 2
  have g3 := box_free y1 3
  have g4 := box_free y1 4
  have g5 := box_free y1 5
  have g6 := box_free y1 6
  clear y0 y1 hb1 HR
  go_wp2
  have s7 := set7 (.int .i64 (z : Int)) (.slice A n0 a) (.slice B n1 b) (.slice C n2 c) (.int .i64 (cn : Int)) (.int .i64 (wt : Int)) (.bool dn) HB.out.2
  refine bodyPost_ret (results_c2 (P := Try.prog) rfl _ _ _ _ _ _ _ (by rfl) s7.1 Try.underlying37 rfl (by kernel_rfl)) rfl ?_
  have hb3 := s7.2.below HB.out.1 HB.out.1.size (fun x hx => by simp at hx; omega)
  refine ⟨_, rfl, ⟨A, B, C, a, b, c, ?_, ?_, ?_, ?_, HAp.out⟩, hb3⟩
  · obtain ⟨e0, e1, e2, e3, e4, e5, e6⟩ := HE.out
    simp only [refV, ← e0, ← e1, ← e2, ← e3, ← e4, ← e5, ← e6]
  · rw [← HE.out.2.1]; exact HC.out.1.below hb3
  · rw [← HE.out.2.2.1]; exact HC.out.2.1.below hb3
  · rw [← HE.out.2.2.2.1]; exact HC.out.2.2.below hb3
set_option maxRecDepth 100000 in
set_option maxHeartbeats 3200000 in
theorem ref_Erase_n0 (w : World) {v : List Value} {s : FSt} {Xs : List Nat} (h : RFl w v s Xs) (hk : FOk s) (hr : refusedF s 0 = 0) (hst : struckF s = false) (hXs : ∀ x ∈ Xs, x < w.heap.size) :
    Calls Try.prog 82 #[.agg v.toArray, .int .i64 0] w fun e w' => ∃ v', e = .returned (.tuple #[.agg v'.toArray, .int .i64 0]) ∧ RFl w' v' (setB (strikeF s) 0 ([])) Xs ∧ Below w.heap.size w w' := by
  have hxz := hk.b0
  obtain ⟨A, B, C, a, b, c, rfl, hA, hB, hC, hAp⟩ := h.out
  have HAp := Lib.hid hAp
  clear hAp
  rw [refV_eq]
  have hRf := fun w1 => ref_refusedG w1 s A B C a b c 0
  have hG := fun w1 => ref_bankG0 w1 s.size s.count s.writes A B C s.b0.length s.b1.length s.armed.length a b c s.down
  have hSt := fun w1 (h1 : Sl w1 2 C s.armed.length c (crashL s.armed)) => ref_struck w1 s hk s.size A B C s.b0.length s.b1.length a b c h1
  have HG := Lib.hid hG
  have hzz := hk.size
  have hkeep := keepF_le s hk.vals
  have HTk : Hid (s.b0.take s.size = s.b0) := Lib.hid (List.take_of_length_le hk.b0)
  rw [hr] at hRf
  clear hr hG
  obtain ⟨z, hz⟩ : ∃ z, z = s.size := ⟨_, rfl⟩
  obtain ⟨n0, hn0⟩ : ∃ z, z = s.b0.length := ⟨_, rfl⟩
  obtain ⟨n1, hn1⟩ : ∃ z, z = s.b1.length := ⟨_, rfl⟩
  obtain ⟨n2, hn2⟩ : ∃ z, z = s.armed.length := ⟨_, rfl⟩
  obtain ⟨cn, hcn⟩ : ∃ z, z = s.count := ⟨_, rfl⟩
  obtain ⟨wt, hwt⟩ : ∃ z, z = s.writes := ⟨_, rfl⟩
  obtain ⟨dn, hdn⟩ : ∃ z, z = s.down := ⟨_, rfl⟩
  have HE := Lib.hid (And.intro hz (And.intro hn0 (And.intro hn1 (And.intro hn2 (And.intro hcn (And.intro hwt hdn))))))
  rw [← hz, ← hn0, ← hn1, ← hn2, ← hcn, ← hwt, ← hdn] at hRf
  rw [← hz, ← hn0, ← hn1, ← hn2, ← hcn, ← hwt, ← hdn]
  rw [← hn0] at hA; rw [← hn1] at hB; rw [← hn2] at hC
  rw [← hz, ← hn0, ← hn1, ← hn2, ← hcn, ← hwt, ← hdn] at HG hSt
  rw [← hz] at hzz HTk hxz
  rw [← hn0] at hxz
  obtain ⟨N2, hN2⟩ : ∃ x, x = (strikeF s).armed.length := ⟨_, rfl⟩
  obtain ⟨CN, hCN⟩ : ∃ x, x = (strikeF s).count := ⟨_, rfl⟩
  obtain ⟨WT, hWT⟩ : ∃ x, x = (strikeF s).writes := ⟨_, rfl⟩
  obtain ⟨DN, hDN⟩ : ∃ x, x = (strikeF s).down := ⟨_, rfl⟩
  obtain ⟨KP, hKP⟩ : ∃ x, x = keepF s := ⟨_, rfl⟩
  have hSt : ∀ w1, Sl w1 2 C n2 c (crashL s.armed) → Calls Try.prog 120 #[.agg #[.int .i64 z, .slice A n0 a, .slice B n1 b, .slice C n2 c, .int .i64 cn, .int .i64 wt, .bool dn]] w1 fun e w' => ∃ C2 c2, e = .returned (.tuple #[.agg #[.int .i64 z, .slice A n0 a, .slice B n1 b, .slice C2 N2 c2, .int .i64 CN, .int .i64 WT, .bool DN], .bool false, .int .i64 KP]) ∧ Sl w' 2 C2 N2 c2 (crashL (strikeF s).armed) ∧ ((C2 = C ∧ c2 = c ∧ (strikeF s).armed = s.armed) ∨ ∀ ad, C2 = some ad → w1.heap.size ≤ ad.block) ∧ Below w1.heap.size w1 w' := by
    rw [hN2, hCN, hWT, hDN, hKP, ← hst]
    exact hSt
  have HSt := Lib.hid hSt
  rw [← hKP] at hkeep
  have HE2 := Lib.hid (And.intro hN2 (And.intro hCN (And.intro hWT (And.intro hDN hKP))))
  clear hSt hN2 hCN hWT hDN hKP hst
  obtain ⟨W1, hW1⟩ : ∃ W1, W1 = (w.alloc (.cells #[.int .i64 z, .slice A n0 a, .slice B n1 b, .slice C n2 c, .int .i64 cn, .int .i64 wt, .bool dn] 37)).alloc (.cells #[.int .i64 0, .slice none 0 0, .slice none 0 0, .slice none 0 0, .int .i64 0, .int .i64 0, .bool false] 37) := ⟨_, rfl⟩
  have hb1 : Below w.heap.size w W1 := by rw [hW1]; exact below2 _ _ _
  have x0 : W1.heap[w.heap.size]? = some (.cells #[.int .i64 z, .slice A n0 a, .slice B n1 b, .slice C n2 c, .int .i64 cn, .int .i64 wt, .bool dn] 37 (0, 0)) := by rw [hW1]; exact heap_alloc1 _ _ _
  have x1 : W1.heap[w.heap.size + 1]? = some (.cells #[.int .i64 0, .slice none 0 0, .slice none 0 0, .slice none 0 0, .int .i64 0, .int .i64 0, .bool false] 37 (0, 0)) := by rw [hW1]; exact heap_alloc2 _ _ _
  have m0 : W1.cell? ⟨w.heap.size, 0, none⟩ = some (.int .i64 z) := box_cell x0 0 _ rfl
  have m1 : W1.cell? ⟨w.heap.size, 1, none⟩ = some (.slice A n0 a) := box_cell x0 1 _ rfl
  have m2 : W1.cell? ⟨w.heap.size, 2, none⟩ = some (.slice B n1 b) := box_cell x0 2 _ rfl
  have m3 : W1.cell? ⟨w.heap.size, 3, none⟩ = some (.slice C n2 c) := box_cell x0 3 _ rfl
  have m4 : W1.cell? ⟨w.heap.size, 4, none⟩ = some (.int .i64 cn) := box_cell x0 4 _ rfl
  have m5 : W1.cell? ⟨w.heap.size, 5, none⟩ = some (.int .i64 wt) := box_cell x0 5 _ rfl
  have m6 : W1.cell? ⟨w.heap.size, 6, none⟩ = some (.bool dn) := box_cell x0 6 _ rfl
  have HR := Lib.hid (hRf W1)
  have HX := Lib.hid (And.intro hb1 (And.intro x0 x1))
  have HC := Lib.hid (And.intro hA (And.intro hB hC))
  clear hA hB hC hb1 x0 x1 h hk hRf hz hn0 hn1 hn2 hcn hwt hdn
  go_enter Try.func82, Try.ntmps82
  go_wp2_with fail
  rw [← hW1]
  clear hW1
  refine HR.out.mono ?_
  rintro e w2 ⟨rfl, hb2⟩
  have y0 := heap_below HX.out.2.1 hb2
  have HB2 := Lib.hid (And.intro (bthen HX.out.1 hb2) (And.intro y0 hb2))
  clear m0 m1 m2 m3 m4 m5 m6
  have m0 : w2.cell? ⟨w.heap.size, 0, none⟩ = some (.int .i64 z) := box_cell y0 0 _ rfl
  have m1 : w2.cell? ⟨w.heap.size, 1, none⟩ = some (.slice A n0 a) := box_cell y0 1 _ rfl
  have m2 : w2.cell? ⟨w.heap.size, 2, none⟩ = some (.slice B n1 b) := box_cell y0 2 _ rfl
  have m3 : w2.cell? ⟨w.heap.size, 3, none⟩ = some (.slice C n2 c) := box_cell y0 3 _ rfl
  have m4 : w2.cell? ⟨w.heap.size, 4, none⟩ = some (.int .i64 cn) := box_cell y0 4 _ rfl
  have m5 : w2.cell? ⟨w.heap.size, 5, none⟩ = some (.int .i64 wt) := box_cell y0 5 _ rfl
  have m6 : w2.cell? ⟨w.heap.size, 6, none⟩ = some (.bool dn) := box_cell y0 6 _ rfl
  clear y0 hb2 HR
  go_wp2_with (first | (at_builtin; refine Stopped.out ?_) | (at_make; refine Stopped.out ?_))
  refine (HSt.out _ (HC.out.2.2.below HB2.out.1)).mono ?_
  rintro e w3 ⟨C2, c2, rfl, hC2, hor, hb3⟩
  have HB3 := Lib.hid (And.intro (bthen HB2.out.1 hb3) (And.intro (bthen HB2.out.2.2 hb3) hC2))
  have hb1lt : w.heap.size + 1 < w2.heap.size := by have h1 := cell_lt (box_cell (heap_below HX.out.2.2 HB2.out.2.2) 0 _ rfl); simpa using h1
  have HOR := Lib.hid (And.intro hor hb1lt)
  clear m0 m1 m2 m3 m4 m5 m6 hC2 hb3 HSt hor hb1lt
  obtain ⟨W4, hW4⟩ : ∃ W4, W4 = w3.alloc (.cells #[.int .i64 z, .slice A n0 a, .slice B n1 b, .slice C2 N2 c2, .int .i64 CN, .int .i64 WT, .bool DN] 37) := ⟨_, rfl⟩
  have hb4 : Below w3.heap.size w3 W4 := by rw [hW4]; exact (Below.refl _ _).alloc (Nat.le_refl _) _
  have x9 : W4.heap[w3.heap.size]? = some (.cells #[.int .i64 z, .slice A n0 a, .slice B n1 b, .slice C2 N2 c2, .int .i64 CN, .int .i64 WT, .bool DN] 37 (0, 0)) := by rw [hW4]; exact heap_alloc_new _ _
  have y0 := heap_below (heap_below HX.out.2.1 HB3.out.2.1) hb4
  have y1 := heap_below (heap_below HX.out.2.2 HB3.out.2.1) hb4
  have HB4 := Lib.hid (And.intro (bthen HB3.out.1 hb4) (And.intro y0 (And.intro y1 (And.intro x9 (HB3.out.2.2.below hb4)))))
  have m0 : W4.cell? ⟨w.heap.size, 0, none⟩ = some (.int .i64 z) := box_cell y0 0 _ rfl
  have m1 : W4.cell? ⟨w.heap.size, 1, none⟩ = some (.slice A n0 a) := box_cell y0 1 _ rfl
  have m2 : W4.cell? ⟨w.heap.size, 2, none⟩ = some (.slice B n1 b) := box_cell y0 2 _ rfl
  have m3 : W4.cell? ⟨w.heap.size, 3, none⟩ = some (.slice C n2 c) := box_cell y0 3 _ rfl
  have m4 : W4.cell? ⟨w.heap.size, 4, none⟩ = some (.int .i64 cn) := box_cell y0 4 _ rfl
  have m5 : W4.cell? ⟨w.heap.size, 5, none⟩ = some (.int .i64 wt) := box_cell y0 5 _ rfl
  have m6 : W4.cell? ⟨w.heap.size, 6, none⟩ = some (.bool dn) := box_cell y0 6 _ rfl
  have cc0 : W4.cell? ⟨w3.heap.size, 0, none⟩ = some (.int .i64 z) := box_cell x9 0 _ rfl
  have cc1 : W4.cell? ⟨w3.heap.size, 1, none⟩ = some (.slice A n0 a) := box_cell x9 1 _ rfl
  have cc2 : W4.cell? ⟨w3.heap.size, 2, none⟩ = some (.slice B n1 b) := box_cell x9 2 _ rfl
  have cc3 : W4.cell? ⟨w3.heap.size, 3, none⟩ = some (.slice C2 N2 c2) := box_cell x9 3 _ rfl
  have cc4 : W4.cell? ⟨w3.heap.size, 4, none⟩ = some (.int .i64 CN) := box_cell x9 4 _ rfl
  have cc5 : W4.cell? ⟨w3.heap.size, 5, none⟩ = some (.int .i64 WT) := box_cell x9 5 _ rfl
  have cc6 : W4.cell? ⟨w3.heap.size, 6, none⟩ = some (.bool DN) := box_cell x9 6 _ rfl
  obtain ⟨g9, hg9⟩ : ∃ g, g = w3.heap.size := ⟨_, rfl⟩
  rw [← hg9] at HB4 cc0 cc1 cc2 cc3 cc4 cc5 cc6
  clear hb4 x9 y0 y1
  go_wp2_with (first | (at_builtin; refine Stopped.out ?_) | (at_make; refine Stopped.out ?_))
  rw [← hW4, ← hg9]
  clear hW4 hg9 HB2
  refine (ref_with0 _ z CN WT A B C2 n0 n1 N2 a b c2 DN none 0 0).mono ?_
  rintro e w9 ⟨rfl, hb9⟩
  have hb49 := hb9
  have y1 := heap_below HB4.out.2.2.1 hb49
  have s7 := set7 (.int .i64 z) (.slice none 0 0) (.slice B n1 b) (.slice C2 N2 c2) (.int .i64 CN) (.int .i64 WT) (.bool DN) y1
  have r0 : w9.cell? ⟨w.heap.size + 1, 0, none⟩ = some (.int .i64 0) := box_cell y1 0 _ rfl
  have r1 : w9.cell? ⟨w.heap.size + 1, 1, none⟩ = some (.slice none 0 0) := box_cell y1 1 _ rfl
  have r2 : w9.cell? ⟨w.heap.size + 1, 2, none⟩ = some (.slice none 0 0) := box_cell y1 2 _ rfl
  have r3 : w9.cell? ⟨w.heap.size + 1, 3, none⟩ = some (.slice none 0 0) := box_cell y1 3 _ rfl
  have r4 : w9.cell? ⟨w.heap.size + 1, 4, none⟩ = some (.int .i64 0) := box_cell y1 4 _ rfl
  have r5 : w9.cell? ⟨w.heap.size + 1, 5, none⟩ = some (.int .i64 0) := box_cell y1 5 _ rfl
  have r6 : w9.cell? ⟨w.heap.size + 1, 6, none⟩ = some (.bool false) := box_cell y1 6 _ rfl
  have g0 := box_free y1 0
  have g1 := box_free y1 1
  have g2 := box_free y1 2
  have g3 := box_free y1 3
  have g4 := box_free y1 4
  have g5 := box_free y1 5
  have g6 := box_free y1 6
  have HZ := Lib.hid (And.intro s7 (And.intro hb9 hb49))
  clear s7 hb9 hb49 y1 cc0 cc1 cc2 cc3 cc4 cc5 cc6
  go_wp2
  obtain ⟨s7, hb9, hb49⟩ := HZ.out
  refine bodyPost_ret (results_c2 (P := Try.prog) rfl _ _ _ _ _ _ _ (by rfl) s7.1 Try.underlying37 rfl (by kernel_rfl)) rfl ?_
  have hbz := bthen HB4.out.1 hb49
  have hb3 := s7.2.below hbz hbz.size (fun x hx => by simp at hx; omega)
  have hb1W : w.heap.size + 1 < W4.heap.size := by have h1 := cell_lt (box_cell HB4.out.2.2.1 0 _ rfl); simpa using h1
  obtain ⟨e0, e1, e2, e3, e4, e5, e6⟩ := HE.out
  obtain ⟨f0, f1, f2, f3, f4⟩ := HE2.out
  have eA : setB (strikeF s) 0 [] = { strikeF s with b0 := [] } := by rw [setB]; simp
  rw [eA]
  have hnD : Ap Xs none ([] : List UInt8).length := Ap.none
  have hnC : Ap Xs C2 (strikeF s).armed.length := Ap.either HOR.out.1 HAp.out.2.2 (fun h => by rw [h]) (fun x hx => by have h1 := hXs x hx; have h2 := HOR.out.2; omega)
  refine ⟨_, rfl, ⟨none, B, C2, 0, b, c2, ?_, ?_, ?_, ?_, hnD, HAp.out.2.1.cast (by simp only [strikeF_b1]), hnC⟩, hb3⟩
  · simp only [refV, List.length_nil, strikeF_size, strikeF_b0, strikeF_b1, ← e0, ← e1, ← e2, ← f0, ← f1, ← f2, ← f3]
  · simp only [List.length_nil, strikeF_b0, ← e1]
    exact Sl.nilS _ _
  · simp only [List.length_nil, strikeF_b1, ← e2]
    exact HC.out.2.1.below hb3
  · simp only [← f0]
    rcases HOR.out.1 with ⟨g0, g1, g2⟩ | g
    · have hh := HC.out.2.2.below hb3
      rw [← g0, ← g1, ← g2, show n2 = N2 by rw [f0, g2, ← e3]] at hh
      exact hh
    · refine (HB4.out.2.2.2.2.below hb49).keep s7.2 (fun ad e hx => ?_)
      have h1 := g ad e
      have h2 := HOR.out.2
      simp at hx; omega
set_option maxRecDepth 100000 in
set_option maxHeartbeats 3200000 in
theorem ref_Erase_all0 (w : World) {v : List Value} {s : FSt} {Xs : List Nat} (h : RFl w v s Xs) (hk : FOk s) (hr : refusedF s 0 = 0) (hst : struckF s = true) (hkp : s.b0.length ≤ keepF s) (hXs : ∀ x ∈ Xs, x < w.heap.size) :
    Calls Try.prog 82 #[.agg v.toArray, .int .i64 0] w fun e w' => ∃ v', e = .returned (.tuple #[.agg v'.toArray, .int .i64 121]) ∧ RFl w' v' (setB (strikeF s) 0 ([])) Xs ∧ Below w.heap.size w w' := by
  have hxz := hk.b0
  obtain ⟨A, B, C, a, b, c, rfl, hA, hB, hC, hAp⟩ := h.out
  have HAp := Lib.hid hAp
  clear hAp
  rw [refV_eq]
  have hRf := fun w1 => ref_refusedG w1 s A B C a b c 0
  have hG := fun w1 => ref_bankG0 w1 s.size s.count s.writes A B C s.b0.length s.b1.length s.armed.length a b c s.down
  have hSt := fun w1 (h1 : Sl w1 2 C s.armed.length c (crashL s.armed)) => ref_struck w1 s hk s.size A B C s.b0.length s.b1.length a b c h1
  have HG := Lib.hid hG
  have hzz := hk.size
  have hkeep := keepF_le s hk.vals
  have HTk : Hid (s.b0.take s.size = s.b0) := Lib.hid (List.take_of_length_le hk.b0)
  rw [hr] at hRf
  clear hr hG
  obtain ⟨z, hz⟩ : ∃ z, z = s.size := ⟨_, rfl⟩
  obtain ⟨n0, hn0⟩ : ∃ z, z = s.b0.length := ⟨_, rfl⟩
  obtain ⟨n1, hn1⟩ : ∃ z, z = s.b1.length := ⟨_, rfl⟩
  obtain ⟨n2, hn2⟩ : ∃ z, z = s.armed.length := ⟨_, rfl⟩
  obtain ⟨cn, hcn⟩ : ∃ z, z = s.count := ⟨_, rfl⟩
  obtain ⟨wt, hwt⟩ : ∃ z, z = s.writes := ⟨_, rfl⟩
  obtain ⟨dn, hdn⟩ : ∃ z, z = s.down := ⟨_, rfl⟩
  have HE := Lib.hid (And.intro hz (And.intro hn0 (And.intro hn1 (And.intro hn2 (And.intro hcn (And.intro hwt hdn))))))
  rw [← hz, ← hn0, ← hn1, ← hn2, ← hcn, ← hwt, ← hdn] at hRf
  rw [← hz, ← hn0, ← hn1, ← hn2, ← hcn, ← hwt, ← hdn]
  rw [← hn0] at hA; rw [← hn1] at hB; rw [← hn2] at hC
  rw [← hz, ← hn0, ← hn1, ← hn2, ← hcn, ← hwt, ← hdn] at HG hSt
  rw [← hz] at hzz HTk hxz
  rw [← hn0] at hxz
  obtain ⟨N2, hN2⟩ : ∃ x, x = (strikeF s).armed.length := ⟨_, rfl⟩
  obtain ⟨CN, hCN⟩ : ∃ x, x = (strikeF s).count := ⟨_, rfl⟩
  obtain ⟨WT, hWT⟩ : ∃ x, x = (strikeF s).writes := ⟨_, rfl⟩
  obtain ⟨DN, hDN⟩ : ∃ x, x = (strikeF s).down := ⟨_, rfl⟩
  obtain ⟨KP, hKP⟩ : ∃ x, x = keepF s := ⟨_, rfl⟩
  have hSt : ∀ w1, Sl w1 2 C n2 c (crashL s.armed) → Calls Try.prog 120 #[.agg #[.int .i64 z, .slice A n0 a, .slice B n1 b, .slice C n2 c, .int .i64 cn, .int .i64 wt, .bool dn]] w1 fun e w' => ∃ C2 c2, e = .returned (.tuple #[.agg #[.int .i64 z, .slice A n0 a, .slice B n1 b, .slice C2 N2 c2, .int .i64 CN, .int .i64 WT, .bool DN], .bool true, .int .i64 KP]) ∧ Sl w' 2 C2 N2 c2 (crashL (strikeF s).armed) ∧ ((C2 = C ∧ c2 = c ∧ (strikeF s).armed = s.armed) ∨ ∀ ad, C2 = some ad → w1.heap.size ≤ ad.block) ∧ Below w1.heap.size w1 w' := by
    rw [hN2, hCN, hWT, hDN, hKP, ← hst]
    exact hSt
  have HSt := Lib.hid hSt
  rw [← hKP] at hkeep
  rw [← hKP, ← hn0] at hkp
  have HE2 := Lib.hid (And.intro hN2 (And.intro hCN (And.intro hWT (And.intro hDN hKP))))
  clear hSt hN2 hCN hWT hDN hKP hst
  obtain ⟨W1, hW1⟩ : ∃ W1, W1 = (w.alloc (.cells #[.int .i64 z, .slice A n0 a, .slice B n1 b, .slice C n2 c, .int .i64 cn, .int .i64 wt, .bool dn] 37)).alloc (.cells #[.int .i64 0, .slice none 0 0, .slice none 0 0, .slice none 0 0, .int .i64 0, .int .i64 0, .bool false] 37) := ⟨_, rfl⟩
  have hb1 : Below w.heap.size w W1 := by rw [hW1]; exact below2 _ _ _
  have x0 : W1.heap[w.heap.size]? = some (.cells #[.int .i64 z, .slice A n0 a, .slice B n1 b, .slice C n2 c, .int .i64 cn, .int .i64 wt, .bool dn] 37 (0, 0)) := by rw [hW1]; exact heap_alloc1 _ _ _
  have x1 : W1.heap[w.heap.size + 1]? = some (.cells #[.int .i64 0, .slice none 0 0, .slice none 0 0, .slice none 0 0, .int .i64 0, .int .i64 0, .bool false] 37 (0, 0)) := by rw [hW1]; exact heap_alloc2 _ _ _
  have m0 : W1.cell? ⟨w.heap.size, 0, none⟩ = some (.int .i64 z) := box_cell x0 0 _ rfl
  have m1 : W1.cell? ⟨w.heap.size, 1, none⟩ = some (.slice A n0 a) := box_cell x0 1 _ rfl
  have m2 : W1.cell? ⟨w.heap.size, 2, none⟩ = some (.slice B n1 b) := box_cell x0 2 _ rfl
  have m3 : W1.cell? ⟨w.heap.size, 3, none⟩ = some (.slice C n2 c) := box_cell x0 3 _ rfl
  have m4 : W1.cell? ⟨w.heap.size, 4, none⟩ = some (.int .i64 cn) := box_cell x0 4 _ rfl
  have m5 : W1.cell? ⟨w.heap.size, 5, none⟩ = some (.int .i64 wt) := box_cell x0 5 _ rfl
  have m6 : W1.cell? ⟨w.heap.size, 6, none⟩ = some (.bool dn) := box_cell x0 6 _ rfl
  have HR := Lib.hid (hRf W1)
  have HX := Lib.hid (And.intro hb1 (And.intro x0 x1))
  have HC := Lib.hid (And.intro hA (And.intro hB hC))
  have i1 : (n0 : Int) ≤ (KP : Int) := by omega
  clear hA hB hC hb1 x0 x1 h hk hRf hz hn0 hn1 hn2 hcn hwt hdn
  go_enter Try.func82, Try.ntmps82
  go_wp2_with fail
  rw [← hW1]
  clear hW1
  refine HR.out.mono ?_
  rintro e w2 ⟨rfl, hb2⟩
  have y0 := heap_below HX.out.2.1 hb2
  have HB2 := Lib.hid (And.intro (bthen HX.out.1 hb2) (And.intro y0 hb2))
  clear m0 m1 m2 m3 m4 m5 m6
  have m0 : w2.cell? ⟨w.heap.size, 0, none⟩ = some (.int .i64 z) := box_cell y0 0 _ rfl
  have m1 : w2.cell? ⟨w.heap.size, 1, none⟩ = some (.slice A n0 a) := box_cell y0 1 _ rfl
  have m2 : w2.cell? ⟨w.heap.size, 2, none⟩ = some (.slice B n1 b) := box_cell y0 2 _ rfl
  have m3 : w2.cell? ⟨w.heap.size, 3, none⟩ = some (.slice C n2 c) := box_cell y0 3 _ rfl
  have m4 : w2.cell? ⟨w.heap.size, 4, none⟩ = some (.int .i64 cn) := box_cell y0 4 _ rfl
  have m5 : w2.cell? ⟨w.heap.size, 5, none⟩ = some (.int .i64 wt) := box_cell y0 5 _ rfl
  have m6 : w2.cell? ⟨w.heap.size, 6, none⟩ = some (.bool dn) := box_cell y0 6 _ rfl
  clear y0 hb2 HR
  go_wp2_with (first | (at_builtin; refine Stopped.out ?_) | (at_make; refine Stopped.out ?_))
  refine (HSt.out _ (HC.out.2.2.below HB2.out.1)).mono ?_
  rintro e w3 ⟨C2, c2, rfl, hC2, hor, hb3⟩
  have HB3 := Lib.hid (And.intro (bthen HB2.out.1 hb3) (And.intro (bthen HB2.out.2.2 hb3) hC2))
  have hb1lt : w.heap.size + 1 < w2.heap.size := by have h1 := cell_lt (box_cell (heap_below HX.out.2.2 HB2.out.2.2) 0 _ rfl); simpa using h1
  have HOR := Lib.hid (And.intro hor hb1lt)
  clear m0 m1 m2 m3 m4 m5 m6 hC2 hb3 HSt hor hb1lt
  obtain ⟨W4, hW4⟩ : ∃ W4, W4 = w3.alloc (.cells #[.int .i64 z, .slice A n0 a, .slice B n1 b, .slice C2 N2 c2, .int .i64 CN, .int .i64 WT, .bool DN] 37) := ⟨_, rfl⟩
  have hb4 : Below w3.heap.size w3 W4 := by rw [hW4]; exact (Below.refl _ _).alloc (Nat.le_refl _) _
  have x9 : W4.heap[w3.heap.size]? = some (.cells #[.int .i64 z, .slice A n0 a, .slice B n1 b, .slice C2 N2 c2, .int .i64 CN, .int .i64 WT, .bool DN] 37 (0, 0)) := by rw [hW4]; exact heap_alloc_new _ _
  have y0 := heap_below (heap_below HX.out.2.1 HB3.out.2.1) hb4
  have y1 := heap_below (heap_below HX.out.2.2 HB3.out.2.1) hb4
  have HB4 := Lib.hid (And.intro (bthen HB3.out.1 hb4) (And.intro y0 (And.intro y1 (And.intro x9 (HB3.out.2.2.below hb4)))))
  have m0 : W4.cell? ⟨w.heap.size, 0, none⟩ = some (.int .i64 z) := box_cell y0 0 _ rfl
  have m1 : W4.cell? ⟨w.heap.size, 1, none⟩ = some (.slice A n0 a) := box_cell y0 1 _ rfl
  have m2 : W4.cell? ⟨w.heap.size, 2, none⟩ = some (.slice B n1 b) := box_cell y0 2 _ rfl
  have m3 : W4.cell? ⟨w.heap.size, 3, none⟩ = some (.slice C n2 c) := box_cell y0 3 _ rfl
  have m4 : W4.cell? ⟨w.heap.size, 4, none⟩ = some (.int .i64 cn) := box_cell y0 4 _ rfl
  have m5 : W4.cell? ⟨w.heap.size, 5, none⟩ = some (.int .i64 wt) := box_cell y0 5 _ rfl
  have m6 : W4.cell? ⟨w.heap.size, 6, none⟩ = some (.bool dn) := box_cell y0 6 _ rfl
  have cc0 : W4.cell? ⟨w3.heap.size, 0, none⟩ = some (.int .i64 z) := box_cell x9 0 _ rfl
  have cc1 : W4.cell? ⟨w3.heap.size, 1, none⟩ = some (.slice A n0 a) := box_cell x9 1 _ rfl
  have cc2 : W4.cell? ⟨w3.heap.size, 2, none⟩ = some (.slice B n1 b) := box_cell x9 2 _ rfl
  have cc3 : W4.cell? ⟨w3.heap.size, 3, none⟩ = some (.slice C2 N2 c2) := box_cell x9 3 _ rfl
  have cc4 : W4.cell? ⟨w3.heap.size, 4, none⟩ = some (.int .i64 CN) := box_cell x9 4 _ rfl
  have cc5 : W4.cell? ⟨w3.heap.size, 5, none⟩ = some (.int .i64 WT) := box_cell x9 5 _ rfl
  have cc6 : W4.cell? ⟨w3.heap.size, 6, none⟩ = some (.bool DN) := box_cell x9 6 _ rfl
  obtain ⟨g9, hg9⟩ : ∃ g, g = w3.heap.size := ⟨_, rfl⟩
  rw [← hg9] at HB4 cc0 cc1 cc2 cc3 cc4 cc5 cc6
  clear hb4 x9 y0 y1
  go_wp2_with fail
  rw [← hW4, ← hg9]
  clear hW4 hg9 HB2
  go_region_held3 (fun w' => w'.cell? ⟨w.heap.size, 0, none⟩ = some (.int .i64 z) ∧ w'.cell? ⟨w.heap.size, 1, none⟩ = some (.slice A n0 a) ∧ w'.cell? ⟨w.heap.size, 2, none⟩ = some (.slice B n1 b) ∧ w'.cell? ⟨w.heap.size, 3, none⟩ = some (.slice C n2 c) ∧ w'.cell? ⟨w.heap.size, 4, none⟩ = some (.int .i64 cn) ∧ w'.cell? ⟨w.heap.size, 5, none⟩ = some (.int .i64 wt) ∧ w'.cell? ⟨w.heap.size, 6, none⟩ = some (.bool dn))
    (first | exact ⟨m0, m1, m2, m3, m4, m5, m6⟩ | exact q7 | exact p7 | go_keep)
    (first
      | (go_at_call 81; refine (ref_upTo _ (HC.out.1.below (bthen HB4.out.1 (bthen ((Below.refl _ _).drew) hb5))) _ (by omega)).mono ?_; rintro e w6 ⟨u6, rfl, o6, hb6⟩; have q7 : w6.cell? ⟨w.heap.size, 0, none⟩ = some (.int .i64 z) ∧ w6.cell? ⟨w.heap.size, 1, none⟩ = some (.slice A n0 a) ∧ w6.cell? ⟨w.heap.size, 2, none⟩ = some (.slice B n1 b) ∧ w6.cell? ⟨w.heap.size, 3, none⟩ = some (.slice C n2 c) ∧ w6.cell? ⟨w.heap.size, 4, none⟩ = some (.int .i64 cn) ∧ w6.cell? ⟨w.heap.size, 5, none⟩ = some (.int .i64 wt) ∧ w6.cell? ⟨w.heap.size, 6, none⟩ = some (.bool dn) := (let y := heap_below (heap_below (w := W4.drew) HB4.out.2.1 hb5) hb6; ⟨box_cell y 0 _ rfl, box_cell y 1 _ rfl, box_cell y 2 _ rfl, box_cell y 3 _ rfl, box_cell y 4 _ rfl, box_cell y 5 _ rfl, box_cell y 6 _ rfl⟩))
      | (go_at_call 119; refine (HG.out _).mono ?_; rintro e w5 ⟨rfl, hb5⟩; have p7 : w5.cell? ⟨w.heap.size, 0, none⟩ = some (.int .i64 z) ∧ w5.cell? ⟨w.heap.size, 1, none⟩ = some (.slice A n0 a) ∧ w5.cell? ⟨w.heap.size, 2, none⟩ = some (.slice B n1 b) ∧ w5.cell? ⟨w.heap.size, 3, none⟩ = some (.slice C n2 c) ∧ w5.cell? ⟨w.heap.size, 4, none⟩ = some (.int .i64 cn) ∧ w5.cell? ⟨w.heap.size, 5, none⟩ = some (.int .i64 wt) ∧ w5.cell? ⟨w.heap.size, 6, none⟩ = some (.bool dn) := (let y := heap_below (w := W4.drew) HB4.out.2.1 hb5; ⟨box_cell y 0 _ rfl, box_cell y 1 _ rfl, box_cell y 2 _ rfl, box_cell y 3 _ rfl, box_cell y 4 _ rfl, box_cell y 5 _ rfl, box_cell y 6 _ rfl⟩)))
  have hb6' : Below W4.heap.size W4 w6 := bthen (bthen ((Below.refl _ _).drew) hb5) hb6
  rw [HTk.out] at o6
  have e6 : s.b0.length = n0 := HE.out.2.1.symm
  rw [e6] at o6
  have x9 := heap_below HB4.out.2.2.2.1 hb6'
  have HB6 := Lib.hid (And.intro hb6' (And.intro x9 (own_mono o6 (show W4.heap.size ≤ w5.heap.size by have := hb5.size; simpa using this))))
  obtain ⟨D6, d6, rfl, _, _⟩ := own_sl o6
  clear m0 m1 m2 m3 m4 m5 m6 p7 q7 hb5 hb6 hb6' o6 x9 e6 cc0 cc1 cc2 cc3 cc4 cc5 cc6
  have cc0 : w6.cell? ⟨g9, 0, none⟩ = some (.int .i64 z) := box_cell HB6.out.2.1 0 _ rfl
  have cc1 : w6.cell? ⟨g9, 1, none⟩ = some (.slice A n0 a) := box_cell HB6.out.2.1 1 _ rfl
  have cc2 : w6.cell? ⟨g9, 2, none⟩ = some (.slice B n1 b) := box_cell HB6.out.2.1 2 _ rfl
  have cc3 : w6.cell? ⟨g9, 3, none⟩ = some (.slice C2 N2 c2) := box_cell HB6.out.2.1 3 _ rfl
  have cc4 : w6.cell? ⟨g9, 4, none⟩ = some (.int .i64 CN) := box_cell HB6.out.2.1 4 _ rfl
  have cc5 : w6.cell? ⟨g9, 5, none⟩ = some (.int .i64 WT) := box_cell HB6.out.2.1 5 _ rfl
  have cc6 : w6.cell? ⟨g9, 6, none⟩ = some (.bool DN) := box_cell HB6.out.2.1 6 _ rfl
  go_wp2_with (first | (at_builtin; refine Stopped.out ?_) | (at_make; refine Stopped.out ?_))
  refine (ref_with0 _ z CN WT A B C2 n0 n1 N2 a b c2 DN none 0 0).mono ?_
  rintro e w9 ⟨rfl, hb9⟩
  have hb49 := bthen HB6.out.1 hb9
  have y1 := heap_below HB4.out.2.2.1 hb49
  have s7 := set7 (.int .i64 z) (.slice none 0 0) (.slice B n1 b) (.slice C2 N2 c2) (.int .i64 CN) (.int .i64 WT) (.bool DN) y1
  have r0 : w9.cell? ⟨w.heap.size + 1, 0, none⟩ = some (.int .i64 0) := box_cell y1 0 _ rfl
  have r1 : w9.cell? ⟨w.heap.size + 1, 1, none⟩ = some (.slice none 0 0) := box_cell y1 1 _ rfl
  have r2 : w9.cell? ⟨w.heap.size + 1, 2, none⟩ = some (.slice none 0 0) := box_cell y1 2 _ rfl
  have r3 : w9.cell? ⟨w.heap.size + 1, 3, none⟩ = some (.slice none 0 0) := box_cell y1 3 _ rfl
  have r4 : w9.cell? ⟨w.heap.size + 1, 4, none⟩ = some (.int .i64 0) := box_cell y1 4 _ rfl
  have r5 : w9.cell? ⟨w.heap.size + 1, 5, none⟩ = some (.int .i64 0) := box_cell y1 5 _ rfl
  have r6 : w9.cell? ⟨w.heap.size + 1, 6, none⟩ = some (.bool false) := box_cell y1 6 _ rfl
  have g0 := box_free y1 0
  have g1 := box_free y1 1
  have g2 := box_free y1 2
  have g3 := box_free y1 3
  have g4 := box_free y1 4
  have g5 := box_free y1 5
  have g6 := box_free y1 6
  have HZ := Lib.hid (And.intro s7 (And.intro hb9 hb49))
  clear s7 hb9 hb49 y1 cc0 cc1 cc2 cc3 cc4 cc5 cc6
  go_wp2
  obtain ⟨s7, hb9, hb49⟩ := HZ.out
  refine bodyPost_ret (results_c2 (P := Try.prog) rfl _ _ _ _ _ _ _ (by rfl) s7.1 Try.underlying37 rfl (by kernel_rfl)) rfl ?_
  have hbz := bthen HB4.out.1 hb49
  have hb3 := s7.2.below hbz hbz.size (fun x hx => by simp at hx; omega)
  have hb1W : w.heap.size + 1 < W4.heap.size := by have h1 := cell_lt (box_cell HB4.out.2.2.1 0 _ rfl); simpa using h1
  obtain ⟨e0, e1, e2, e3, e4, e5, e6⟩ := HE.out
  obtain ⟨f0, f1, f2, f3, f4⟩ := HE2.out
  have eA : setB (strikeF s) 0 [] = { strikeF s with b0 := [] } := by rw [setB]; simp
  rw [eA]
  have hnD : Ap Xs none ([] : List UInt8).length := Ap.none
  have hnC : Ap Xs C2 (strikeF s).armed.length := Ap.either HOR.out.1 HAp.out.2.2 (fun h => by rw [h]) (fun x hx => by have h1 := hXs x hx; have h2 := HOR.out.2; omega)
  refine ⟨_, rfl, ⟨none, B, C2, 0, b, c2, ?_, ?_, ?_, ?_, hnD, HAp.out.2.1.cast (by simp only [strikeF_b1]), hnC⟩, hb3⟩
  · simp only [refV, List.length_nil, strikeF_size, strikeF_b0, strikeF_b1, ← e0, ← e1, ← e2, ← f0, ← f1, ← f2, ← f3]
  · simp only [List.length_nil, strikeF_b0, ← e1]
    exact Sl.nilS _ _
  · simp only [List.length_nil, strikeF_b1, ← e2]
    exact HC.out.2.1.below hb3
  · simp only [← f0]
    rcases HOR.out.1 with ⟨g0, g1, g2⟩ | g
    · have hh := HC.out.2.2.below hb3
      rw [← g0, ← g1, ← g2, show n2 = N2 by rw [f0, g2, ← e3]] at hh
      exact hh
    · refine (HB4.out.2.2.2.2.below hb49).keep s7.2 (fun ad e hx => ?_)
      have h1 := g ad e
      have h2 := HOR.out.2
      simp at hx; omega
set_option maxRecDepth 100000 in
set_option maxHeartbeats 3200000 in
theorem ref_Erase_part0 (w : World) {v : List Value} {s : FSt} {Xs : List Nat} (h : RFl w v s Xs) (hk : FOk s) (hr : refusedF s 0 = 0) (hst : struckF s = true) (hkp : keepF s < s.b0.length) (hXs : ∀ x ∈ Xs, x < w.heap.size) :
    Calls Try.prog 82 #[.agg v.toArray, .int .i64 0] w fun e w' => ∃ v', e = .returned (.tuple #[.agg v'.toArray, .int .i64 121]) ∧ RFl w' v' (setB (strikeF s) 0 (List.replicate (keepF s) 255 ++ s.b0.drop (keepF s))) Xs ∧ Below w.heap.size w w' := by
  have hxz := hk.b0
  obtain ⟨A, B, C, a, b, c, rfl, hA, hB, hC, hAp⟩ := h.out
  have HAp := Lib.hid hAp
  clear hAp
  rw [refV_eq]
  have hRf := fun w1 => ref_refusedG w1 s A B C a b c 0
  have hG := fun w1 => ref_bankG0 w1 s.size s.count s.writes A B C s.b0.length s.b1.length s.armed.length a b c s.down
  have hSt := fun w1 (h1 : Sl w1 2 C s.armed.length c (crashL s.armed)) => ref_struck w1 s hk s.size A B C s.b0.length s.b1.length a b c h1
  have HG := Lib.hid hG
  have hzz := hk.size
  have hkeep := keepF_le s hk.vals
  have HTk : Hid (s.b0.take s.size = s.b0) := Lib.hid (List.take_of_length_le hk.b0)
  rw [hr] at hRf
  clear hr hG
  obtain ⟨z, hz⟩ : ∃ z, z = s.size := ⟨_, rfl⟩
  obtain ⟨n0, hn0⟩ : ∃ z, z = s.b0.length := ⟨_, rfl⟩
  obtain ⟨n1, hn1⟩ : ∃ z, z = s.b1.length := ⟨_, rfl⟩
  obtain ⟨n2, hn2⟩ : ∃ z, z = s.armed.length := ⟨_, rfl⟩
  obtain ⟨cn, hcn⟩ : ∃ z, z = s.count := ⟨_, rfl⟩
  obtain ⟨wt, hwt⟩ : ∃ z, z = s.writes := ⟨_, rfl⟩
  obtain ⟨dn, hdn⟩ : ∃ z, z = s.down := ⟨_, rfl⟩
  have HE := Lib.hid (And.intro hz (And.intro hn0 (And.intro hn1 (And.intro hn2 (And.intro hcn (And.intro hwt hdn))))))
  rw [← hz, ← hn0, ← hn1, ← hn2, ← hcn, ← hwt, ← hdn] at hRf
  rw [← hz, ← hn0, ← hn1, ← hn2, ← hcn, ← hwt, ← hdn]
  rw [← hn0] at hA; rw [← hn1] at hB; rw [← hn2] at hC
  rw [← hz, ← hn0, ← hn1, ← hn2, ← hcn, ← hwt, ← hdn] at HG hSt
  rw [← hz] at hzz HTk hxz
  rw [← hn0] at hxz
  obtain ⟨N2, hN2⟩ : ∃ x, x = (strikeF s).armed.length := ⟨_, rfl⟩
  obtain ⟨CN, hCN⟩ : ∃ x, x = (strikeF s).count := ⟨_, rfl⟩
  obtain ⟨WT, hWT⟩ : ∃ x, x = (strikeF s).writes := ⟨_, rfl⟩
  obtain ⟨DN, hDN⟩ : ∃ x, x = (strikeF s).down := ⟨_, rfl⟩
  obtain ⟨KP, hKP⟩ : ∃ x, x = keepF s := ⟨_, rfl⟩
  have hSt : ∀ w1, Sl w1 2 C n2 c (crashL s.armed) → Calls Try.prog 120 #[.agg #[.int .i64 z, .slice A n0 a, .slice B n1 b, .slice C n2 c, .int .i64 cn, .int .i64 wt, .bool dn]] w1 fun e w' => ∃ C2 c2, e = .returned (.tuple #[.agg #[.int .i64 z, .slice A n0 a, .slice B n1 b, .slice C2 N2 c2, .int .i64 CN, .int .i64 WT, .bool DN], .bool true, .int .i64 KP]) ∧ Sl w' 2 C2 N2 c2 (crashL (strikeF s).armed) ∧ ((C2 = C ∧ c2 = c ∧ (strikeF s).armed = s.armed) ∨ ∀ ad, C2 = some ad → w1.heap.size ≤ ad.block) ∧ Below w1.heap.size w1 w' := by
    rw [hN2, hCN, hWT, hDN, hKP, ← hst]
    exact hSt
  have HSt := Lib.hid hSt
  rw [← hKP] at hkeep
  rw [← hKP, ← hn0] at hkp
  obtain ⟨NEW, hNEW⟩ : ∃ L, L = List.replicate (keepF s) 255 ++ s.b0.drop (keepF s) := ⟨_, rfl⟩
  rw [← hNEW]
  have HNEW : Hid (NEW = List.replicate KP 255 ++ s.b0.drop KP) := Lib.hid (by rw [hNEW, hKP])
  clear hNEW
  have HE2 := Lib.hid (And.intro hN2 (And.intro hCN (And.intro hWT (And.intro hDN hKP))))
  clear hSt hN2 hCN hWT hDN hKP hst
  obtain ⟨W1, hW1⟩ : ∃ W1, W1 = (w.alloc (.cells #[.int .i64 z, .slice A n0 a, .slice B n1 b, .slice C n2 c, .int .i64 cn, .int .i64 wt, .bool dn] 37)).alloc (.cells #[.int .i64 0, .slice none 0 0, .slice none 0 0, .slice none 0 0, .int .i64 0, .int .i64 0, .bool false] 37) := ⟨_, rfl⟩
  have hb1 : Below w.heap.size w W1 := by rw [hW1]; exact below2 _ _ _
  have x0 : W1.heap[w.heap.size]? = some (.cells #[.int .i64 z, .slice A n0 a, .slice B n1 b, .slice C n2 c, .int .i64 cn, .int .i64 wt, .bool dn] 37 (0, 0)) := by rw [hW1]; exact heap_alloc1 _ _ _
  have x1 : W1.heap[w.heap.size + 1]? = some (.cells #[.int .i64 0, .slice none 0 0, .slice none 0 0, .slice none 0 0, .int .i64 0, .int .i64 0, .bool false] 37 (0, 0)) := by rw [hW1]; exact heap_alloc2 _ _ _
  have m0 : W1.cell? ⟨w.heap.size, 0, none⟩ = some (.int .i64 z) := box_cell x0 0 _ rfl
  have m1 : W1.cell? ⟨w.heap.size, 1, none⟩ = some (.slice A n0 a) := box_cell x0 1 _ rfl
  have m2 : W1.cell? ⟨w.heap.size, 2, none⟩ = some (.slice B n1 b) := box_cell x0 2 _ rfl
  have m3 : W1.cell? ⟨w.heap.size, 3, none⟩ = some (.slice C n2 c) := box_cell x0 3 _ rfl
  have m4 : W1.cell? ⟨w.heap.size, 4, none⟩ = some (.int .i64 cn) := box_cell x0 4 _ rfl
  have m5 : W1.cell? ⟨w.heap.size, 5, none⟩ = some (.int .i64 wt) := box_cell x0 5 _ rfl
  have m6 : W1.cell? ⟨w.heap.size, 6, none⟩ = some (.bool dn) := box_cell x0 6 _ rfl
  have HR := Lib.hid (hRf W1)
  have HX := Lib.hid (And.intro hb1 (And.intro x0 x1))
  have HC := Lib.hid (And.intro hA (And.intro hB hC))
  have i1 : decide ((n0 : Int) ≤ (KP : Int)) = false := decide_eq_false (by omega)
  clear hA hB hC hb1 x0 x1 h hk hRf hz hn0 hn1 hn2 hcn hwt hdn
  go_enter Try.func82, Try.ntmps82
  go_wp2_with fail
  rw [← hW1]
  clear hW1
  refine HR.out.mono ?_
  rintro e w2 ⟨rfl, hb2⟩
  have y0 := heap_below HX.out.2.1 hb2
  have HB2 := Lib.hid (And.intro (bthen HX.out.1 hb2) (And.intro y0 hb2))
  clear m0 m1 m2 m3 m4 m5 m6
  have m0 : w2.cell? ⟨w.heap.size, 0, none⟩ = some (.int .i64 z) := box_cell y0 0 _ rfl
  have m1 : w2.cell? ⟨w.heap.size, 1, none⟩ = some (.slice A n0 a) := box_cell y0 1 _ rfl
  have m2 : w2.cell? ⟨w.heap.size, 2, none⟩ = some (.slice B n1 b) := box_cell y0 2 _ rfl
  have m3 : w2.cell? ⟨w.heap.size, 3, none⟩ = some (.slice C n2 c) := box_cell y0 3 _ rfl
  have m4 : w2.cell? ⟨w.heap.size, 4, none⟩ = some (.int .i64 cn) := box_cell y0 4 _ rfl
  have m5 : w2.cell? ⟨w.heap.size, 5, none⟩ = some (.int .i64 wt) := box_cell y0 5 _ rfl
  have m6 : w2.cell? ⟨w.heap.size, 6, none⟩ = some (.bool dn) := box_cell y0 6 _ rfl
  clear y0 hb2 HR
  go_wp2_with (first | (at_builtin; refine Stopped.out ?_) | (at_make; refine Stopped.out ?_))
  refine (HSt.out _ (HC.out.2.2.below HB2.out.1)).mono ?_
  rintro e w3 ⟨C2, c2, rfl, hC2, hor, hb3⟩
  have HB3 := Lib.hid (And.intro (bthen HB2.out.1 hb3) (And.intro (bthen HB2.out.2.2 hb3) hC2))
  have hb1lt : w.heap.size + 1 < w2.heap.size := by have h1 := cell_lt (box_cell (heap_below HX.out.2.2 HB2.out.2.2) 0 _ rfl); simpa using h1
  have HOR := Lib.hid (And.intro hor hb1lt)
  clear m0 m1 m2 m3 m4 m5 m6 hC2 hb3 HSt hor hb1lt
  obtain ⟨W4, hW4⟩ : ∃ W4, W4 = w3.alloc (.cells #[.int .i64 z, .slice A n0 a, .slice B n1 b, .slice C2 N2 c2, .int .i64 CN, .int .i64 WT, .bool DN] 37) := ⟨_, rfl⟩
  have hb4 : Below w3.heap.size w3 W4 := by rw [hW4]; exact (Below.refl _ _).alloc (Nat.le_refl _) _
  have x9 : W4.heap[w3.heap.size]? = some (.cells #[.int .i64 z, .slice A n0 a, .slice B n1 b, .slice C2 N2 c2, .int .i64 CN, .int .i64 WT, .bool DN] 37 (0, 0)) := by rw [hW4]; exact heap_alloc_new _ _
  have y0 := heap_below (heap_below HX.out.2.1 HB3.out.2.1) hb4
  have y1 := heap_below (heap_below HX.out.2.2 HB3.out.2.1) hb4
  have HB4 := Lib.hid (And.intro (bthen HB3.out.1 hb4) (And.intro y0 (And.intro y1 (And.intro x9 (HB3.out.2.2.below hb4)))))
  have m0 : W4.cell? ⟨w.heap.size, 0, none⟩ = some (.int .i64 z) := box_cell y0 0 _ rfl
  have m1 : W4.cell? ⟨w.heap.size, 1, none⟩ = some (.slice A n0 a) := box_cell y0 1 _ rfl
  have m2 : W4.cell? ⟨w.heap.size, 2, none⟩ = some (.slice B n1 b) := box_cell y0 2 _ rfl
  have m3 : W4.cell? ⟨w.heap.size, 3, none⟩ = some (.slice C n2 c) := box_cell y0 3 _ rfl
  have m4 : W4.cell? ⟨w.heap.size, 4, none⟩ = some (.int .i64 cn) := box_cell y0 4 _ rfl
  have m5 : W4.cell? ⟨w.heap.size, 5, none⟩ = some (.int .i64 wt) := box_cell y0 5 _ rfl
  have m6 : W4.cell? ⟨w.heap.size, 6, none⟩ = some (.bool dn) := box_cell y0 6 _ rfl
  have cc0 : W4.cell? ⟨w3.heap.size, 0, none⟩ = some (.int .i64 z) := box_cell x9 0 _ rfl
  have cc1 : W4.cell? ⟨w3.heap.size, 1, none⟩ = some (.slice A n0 a) := box_cell x9 1 _ rfl
  have cc2 : W4.cell? ⟨w3.heap.size, 2, none⟩ = some (.slice B n1 b) := box_cell x9 2 _ rfl
  have cc3 : W4.cell? ⟨w3.heap.size, 3, none⟩ = some (.slice C2 N2 c2) := box_cell x9 3 _ rfl
  have cc4 : W4.cell? ⟨w3.heap.size, 4, none⟩ = some (.int .i64 CN) := box_cell x9 4 _ rfl
  have cc5 : W4.cell? ⟨w3.heap.size, 5, none⟩ = some (.int .i64 WT) := box_cell x9 5 _ rfl
  have cc6 : W4.cell? ⟨w3.heap.size, 6, none⟩ = some (.bool DN) := box_cell x9 6 _ rfl
  obtain ⟨g9, hg9⟩ : ∃ g, g = w3.heap.size := ⟨_, rfl⟩
  rw [← hg9] at HB4 cc0 cc1 cc2 cc3 cc4 cc5 cc6
  clear hb4 x9 y0 y1
  go_wp2_with fail
  rw [← hW4, ← hg9]
  clear hW4 hg9 HB2
  go_region_held3 (fun w' => w'.cell? ⟨w.heap.size, 0, none⟩ = some (.int .i64 z) ∧ w'.cell? ⟨w.heap.size, 1, none⟩ = some (.slice A n0 a) ∧ w'.cell? ⟨w.heap.size, 2, none⟩ = some (.slice B n1 b) ∧ w'.cell? ⟨w.heap.size, 3, none⟩ = some (.slice C n2 c) ∧ w'.cell? ⟨w.heap.size, 4, none⟩ = some (.int .i64 cn) ∧ w'.cell? ⟨w.heap.size, 5, none⟩ = some (.int .i64 wt) ∧ w'.cell? ⟨w.heap.size, 6, none⟩ = some (.bool dn))
    (first | exact ⟨m0, m1, m2, m3, m4, m5, m6⟩ | exact q7 | exact p7 | go_keep)
    (first
      | (go_at_call 81; refine (ref_upTo _ (HC.out.1.below (bthen HB4.out.1 (bthen ((Below.refl _ _).drew) hb5))) _ (by omega)).mono ?_; rintro e w6 ⟨u6, rfl, o6, hb6⟩; have q7 : w6.cell? ⟨w.heap.size, 0, none⟩ = some (.int .i64 z) ∧ w6.cell? ⟨w.heap.size, 1, none⟩ = some (.slice A n0 a) ∧ w6.cell? ⟨w.heap.size, 2, none⟩ = some (.slice B n1 b) ∧ w6.cell? ⟨w.heap.size, 3, none⟩ = some (.slice C n2 c) ∧ w6.cell? ⟨w.heap.size, 4, none⟩ = some (.int .i64 cn) ∧ w6.cell? ⟨w.heap.size, 5, none⟩ = some (.int .i64 wt) ∧ w6.cell? ⟨w.heap.size, 6, none⟩ = some (.bool dn) := (let y := heap_below (heap_below (w := W4.drew) HB4.out.2.1 hb5) hb6; ⟨box_cell y 0 _ rfl, box_cell y 1 _ rfl, box_cell y 2 _ rfl, box_cell y 3 _ rfl, box_cell y 4 _ rfl, box_cell y 5 _ rfl, box_cell y 6 _ rfl⟩))
      | (go_at_call 119; refine (HG.out _).mono ?_; rintro e w5 ⟨rfl, hb5⟩; have p7 : w5.cell? ⟨w.heap.size, 0, none⟩ = some (.int .i64 z) ∧ w5.cell? ⟨w.heap.size, 1, none⟩ = some (.slice A n0 a) ∧ w5.cell? ⟨w.heap.size, 2, none⟩ = some (.slice B n1 b) ∧ w5.cell? ⟨w.heap.size, 3, none⟩ = some (.slice C n2 c) ∧ w5.cell? ⟨w.heap.size, 4, none⟩ = some (.int .i64 cn) ∧ w5.cell? ⟨w.heap.size, 5, none⟩ = some (.int .i64 wt) ∧ w5.cell? ⟨w.heap.size, 6, none⟩ = some (.bool dn) := (let y := heap_below (w := W4.drew) HB4.out.2.1 hb5; ⟨box_cell y 0 _ rfl, box_cell y 1 _ rfl, box_cell y 2 _ rfl, box_cell y 3 _ rfl, box_cell y 4 _ rfl, box_cell y 5 _ rfl, box_cell y 6 _ rfl⟩)))
  have hb6' : Below W4.heap.size W4 w6 := bthen (bthen ((Below.refl _ _).drew) hb5) hb6
  rw [HTk.out] at o6
  have e6 : s.b0.length = n0 := HE.out.2.1.symm
  rw [e6] at o6
  have x9 := heap_below HB4.out.2.2.2.1 hb6'
  have HB6 := Lib.hid (And.intro hb6' (And.intro x9 (own_mono o6 (show W4.heap.size ≤ w5.heap.size by have := hb5.size; simpa using this))))
  obtain ⟨D6, d6, rfl, _, _⟩ := own_sl o6
  clear m0 m1 m2 m3 m4 m5 m6 p7 q7 hb5 hb6 hb6' o6 x9 e6 cc0 cc1 cc2 cc3 cc4 cc5 cc6
  go_wp2_with fail
  go_loopw [11] (fun i wr => ∃ (j : Nat), j ≤ KP ∧ i = .int .i64 j ∧ wr.ownsRow W4.heap.size 5 1 (.slice D6 n0 d6) n0 ((List.replicate j 255 ++ s.b0.drop j).map by8) ∧ Below W4.heap.size W4 wr) (fun i _ => KP - (intOf i).toNat)
  case atStart => exact ⟨0, by omega, rfl, by simpa using HB6.out.2.2, HB6.out.1⟩
  case round =>
    obtain ⟨j, hj, rfl, o7, hb7⟩ := hrel
    by_cases hlt : j < KP
    · have i3 : (j : Int) < (KP : Int) := by omega
      have i4 : (0 : Int) ≤ (j : Int) := by omega
      have i5 : (j : Int) < (n0 : Int) := by omega
      obtain ⟨g, c', e, hgb, _⟩ := own_form o7 (by omega)
      injection e with e1 e2 e3
      subst e1
      obtain ⟨v0, hc0⟩ := own_cell o7 j (by omega)
      have hf0 := o7.frozenAt j
      have elen : s.b0.length = n0 := HE.out.2.1.symm
      have es : ((List.replicate j (255 : UInt8) ++ s.b0.drop j).map by8).set j (.int .u8 255) = (List.replicate (j + 1) (255 : UInt8) ++ s.b0.drop (j + 1)).map by8 := by
        rw [show (Value.int .u8 255) = by8 255 from rfl, ← List.map_set, List.drop_eq_getElem_cons (show j < s.b0.length by omega), List.set_append_right _ _ (by simp), List.length_replicate, Nat.sub_self, List.set_cons_zero, List.replicate_succ']
        simp
      have hst := (o7.stored j (.int .u8 255)).1
      rw [es] at hst
      have HN := Lib.hid (And.intro hst (hb7.setCell (p := ⟨g, j, none⟩) hgb (.int .u8 255)))
      clear o7 hb7 hst es
      go_wp2
      first | go_roundw | refine ⟨?rel, ?measure⟩
      case rel => exact ⟨j + 1, by omega, by go_num, HN.out.1, HN.out.2⟩
      case measure => simp [intOf]; omega
    · have HJ := Lib.hid (show j = KP by omega)
      rw [HJ.out, ← HNEW.out] at o7
      have x9 := heap_below HB4.out.2.2.2.1 hb7
      have HP := Lib.hid (And.intro o7 hb7)
      have cc0 : wr.cell? ⟨g9, 0, none⟩ = some (.int .i64 z) := box_cell x9 0 _ rfl
      have cc1 : wr.cell? ⟨g9, 1, none⟩ = some (.slice A n0 a) := box_cell x9 1 _ rfl
      have cc2 : wr.cell? ⟨g9, 2, none⟩ = some (.slice B n1 b) := box_cell x9 2 _ rfl
      have cc3 : wr.cell? ⟨g9, 3, none⟩ = some (.slice C2 N2 c2) := box_cell x9 3 _ rfl
      have cc4 : wr.cell? ⟨g9, 4, none⟩ = some (.int .i64 CN) := box_cell x9 4 _ rfl
      have cc5 : wr.cell? ⟨g9, 5, none⟩ = some (.int .i64 WT) := box_cell x9 5 _ rfl
      have cc6 : wr.cell? ⟨g9, 6, none⟩ = some (.bool DN) := box_cell x9 6 _ rfl
      clear o7 hb7 x9
      go_wp2_with (first | (at_builtin; refine Stopped.out ?_) | (at_make; refine Stopped.out ?_))
      refine (ref_with0 _ z CN WT A B C2 n0 n1 N2 a b c2 DN D6 n0 d6).mono ?_
      rintro e w9 ⟨rfl, hb9⟩
      have hb49 := bthen HP.out.2 hb9
      have y1 := heap_below HB4.out.2.2.1 hb49
      have s7 := set7 (.int .i64 z) (.slice D6 n0 d6) (.slice B n1 b) (.slice C2 N2 c2) (.int .i64 CN) (.int .i64 WT) (.bool DN) y1
      have r0 : w9.cell? ⟨w.heap.size + 1, 0, none⟩ = some (.int .i64 0) := box_cell y1 0 _ rfl
      have r1 : w9.cell? ⟨w.heap.size + 1, 1, none⟩ = some (.slice none 0 0) := box_cell y1 1 _ rfl
      have r2 : w9.cell? ⟨w.heap.size + 1, 2, none⟩ = some (.slice none 0 0) := box_cell y1 2 _ rfl
      have r3 : w9.cell? ⟨w.heap.size + 1, 3, none⟩ = some (.slice none 0 0) := box_cell y1 3 _ rfl
      have r4 : w9.cell? ⟨w.heap.size + 1, 4, none⟩ = some (.int .i64 0) := box_cell y1 4 _ rfl
      have r5 : w9.cell? ⟨w.heap.size + 1, 5, none⟩ = some (.int .i64 0) := box_cell y1 5 _ rfl
      have r6 : w9.cell? ⟨w.heap.size + 1, 6, none⟩ = some (.bool false) := box_cell y1 6 _ rfl
      have g0 := box_free y1 0
      have g1 := box_free y1 1
      have g2 := box_free y1 2
      have g3 := box_free y1 3
      have g4 := box_free y1 4
      have g5 := box_free y1 5
      have g6 := box_free y1 6
      have HZ := Lib.hid (And.intro s7 (And.intro hb9 hb49))
      clear s7 hb9 hb49 y1 cc0 cc1 cc2 cc3 cc4 cc5 cc6
      go_wp2
      obtain ⟨s7, hb9, hb49⟩ := HZ.out
      refine bodyPost_ret (results_c2 (P := Try.prog) rfl _ _ _ _ _ _ _ (by rfl) s7.1 Try.underlying37 rfl (by kernel_rfl)) rfl ?_
      have hbz := bthen HB4.out.1 hb49
      have hb3 := s7.2.below hbz hbz.size (fun x hx => by simp at hx; omega)
      have hb1W : w.heap.size + 1 < W4.heap.size := by have h1 := cell_lt (box_cell HB4.out.2.2.1 0 _ rfl); simpa using h1
      obtain ⟨e0, e1, e2, e3, e4, e5, e6⟩ := HE.out
      obtain ⟨f0, f1, f2, f3, f4⟩ := HE2.out
      have eA : setB (strikeF s) 0 NEW = { strikeF s with b0 := NEW } := by rw [setB]; simp
      rw [eA]
      have hnl : NEW.length = n0 := by rw [HNEW.out, List.length_append, List.length_replicate, List.length_drop, ← e1]; omega
      have slA := (own_sl' (own_below HP.out.1 hb9)).2.1
      have hD8 := (own_sl' HP.out.1).2.2
      have slA2 := slA.keep s7.2 (fun ad e hx => by have h1 := (hD8 ad e).1; simp at hx; omega)
      have hnD : Ap Xs D6 NEW.length := Ap.new hXs (fun ad e => Nat.le_trans HB4.out.1.size (hD8 ad e).1)
      have hnC : Ap Xs C2 (strikeF s).armed.length := Ap.either HOR.out.1 HAp.out.2.2 (fun h => by rw [h]) (fun x hx => by have h1 := hXs x hx; have h2 := HOR.out.2; omega)
      refine ⟨_, rfl, ⟨D6, B, C2, d6, b, c2, ?_, ?_, ?_, ?_, hnD, HAp.out.2.1.cast (by simp only [strikeF_b1]), hnC⟩, hb3⟩
      · simp only [refV, hnl, strikeF_size, strikeF_b0, strikeF_b1, ← e0, ← e1, ← e2, ← f0, ← f1, ← f2, ← f3]
      · simp only [hnl, strikeF_b0, ← e1]
        exact slA2
      · simp only [hnl, strikeF_b1, ← e2]
        exact HC.out.2.1.below hb3
      · simp only [← f0]
        rcases HOR.out.1 with ⟨g0, g1, g2⟩ | g
        · have hh := HC.out.2.2.below hb3
          rw [← g0, ← g1, ← g2, show n2 = N2 by rw [f0, g2, ← e3]] at hh
          exact hh
        · refine (HB4.out.2.2.2.2.below hb49).keep s7.2 (fun ad e hx => ?_)
          have h1 := g ad e
          have h2 := HOR.out.2
          simp at hx; omega
set_option maxRecDepth 100000 in
set_option maxHeartbeats 3200000 in
theorem ref_Erase_n1 (w : World) {v : List Value} {s : FSt} {Xs : List Nat} (h : RFl w v s Xs) (hk : FOk s) (hr : refusedF s 1 = 0) (hst : struckF s = false) (hXs : ∀ x ∈ Xs, x < w.heap.size) :
    Calls Try.prog 82 #[.agg v.toArray, .int .i64 1] w fun e w' => ∃ v', e = .returned (.tuple #[.agg v'.toArray, .int .i64 0]) ∧ RFl w' v' (setB (strikeF s) 1 ([])) Xs ∧ Below w.heap.size w w' := by
  have hxz := hk.b1
  obtain ⟨A, B, C, a, b, c, rfl, hA, hB, hC, hAp⟩ := h.out
  have HAp := Lib.hid hAp
  clear hAp
  rw [refV_eq]
  have hRf := fun w1 => ref_refusedG w1 s A B C a b c 1
  have hG := fun w1 => ref_bankG1 w1 s.size s.count s.writes A B C s.b0.length s.b1.length s.armed.length a b c s.down 1 (by decide)
  have hSt := fun w1 (h1 : Sl w1 2 C s.armed.length c (crashL s.armed)) => ref_struck w1 s hk s.size A B C s.b0.length s.b1.length a b c h1
  have HG := Lib.hid hG
  have hzz := hk.size
  have hkeep := keepF_le s hk.vals
  have HTk : Hid (s.b1.take s.size = s.b1) := Lib.hid (List.take_of_length_le hk.b1)
  rw [hr] at hRf
  clear hr hG
  obtain ⟨z, hz⟩ : ∃ z, z = s.size := ⟨_, rfl⟩
  obtain ⟨n0, hn0⟩ : ∃ z, z = s.b0.length := ⟨_, rfl⟩
  obtain ⟨n1, hn1⟩ : ∃ z, z = s.b1.length := ⟨_, rfl⟩
  obtain ⟨n2, hn2⟩ : ∃ z, z = s.armed.length := ⟨_, rfl⟩
  obtain ⟨cn, hcn⟩ : ∃ z, z = s.count := ⟨_, rfl⟩
  obtain ⟨wt, hwt⟩ : ∃ z, z = s.writes := ⟨_, rfl⟩
  obtain ⟨dn, hdn⟩ : ∃ z, z = s.down := ⟨_, rfl⟩
  have HE := Lib.hid (And.intro hz (And.intro hn0 (And.intro hn1 (And.intro hn2 (And.intro hcn (And.intro hwt hdn))))))
  rw [← hz, ← hn0, ← hn1, ← hn2, ← hcn, ← hwt, ← hdn] at hRf
  rw [← hz, ← hn0, ← hn1, ← hn2, ← hcn, ← hwt, ← hdn]
  rw [← hn0] at hA; rw [← hn1] at hB; rw [← hn2] at hC
  rw [← hz, ← hn0, ← hn1, ← hn2, ← hcn, ← hwt, ← hdn] at HG hSt
  rw [← hz] at hzz HTk hxz
  rw [← hn1] at hxz
  obtain ⟨N2, hN2⟩ : ∃ x, x = (strikeF s).armed.length := ⟨_, rfl⟩
  obtain ⟨CN, hCN⟩ : ∃ x, x = (strikeF s).count := ⟨_, rfl⟩
  obtain ⟨WT, hWT⟩ : ∃ x, x = (strikeF s).writes := ⟨_, rfl⟩
  obtain ⟨DN, hDN⟩ : ∃ x, x = (strikeF s).down := ⟨_, rfl⟩
  obtain ⟨KP, hKP⟩ : ∃ x, x = keepF s := ⟨_, rfl⟩
  have hSt : ∀ w1, Sl w1 2 C n2 c (crashL s.armed) → Calls Try.prog 120 #[.agg #[.int .i64 z, .slice A n0 a, .slice B n1 b, .slice C n2 c, .int .i64 cn, .int .i64 wt, .bool dn]] w1 fun e w' => ∃ C2 c2, e = .returned (.tuple #[.agg #[.int .i64 z, .slice A n0 a, .slice B n1 b, .slice C2 N2 c2, .int .i64 CN, .int .i64 WT, .bool DN], .bool false, .int .i64 KP]) ∧ Sl w' 2 C2 N2 c2 (crashL (strikeF s).armed) ∧ ((C2 = C ∧ c2 = c ∧ (strikeF s).armed = s.armed) ∨ ∀ ad, C2 = some ad → w1.heap.size ≤ ad.block) ∧ Below w1.heap.size w1 w' := by
    rw [hN2, hCN, hWT, hDN, hKP, ← hst]
    exact hSt
  have HSt := Lib.hid hSt
  rw [← hKP] at hkeep
  have HE2 := Lib.hid (And.intro hN2 (And.intro hCN (And.intro hWT (And.intro hDN hKP))))
  clear hSt hN2 hCN hWT hDN hKP hst
  obtain ⟨W1, hW1⟩ : ∃ W1, W1 = (w.alloc (.cells #[.int .i64 z, .slice A n0 a, .slice B n1 b, .slice C n2 c, .int .i64 cn, .int .i64 wt, .bool dn] 37)).alloc (.cells #[.int .i64 0, .slice none 0 0, .slice none 0 0, .slice none 0 0, .int .i64 0, .int .i64 0, .bool false] 37) := ⟨_, rfl⟩
  have hb1 : Below w.heap.size w W1 := by rw [hW1]; exact below2 _ _ _
  have x0 : W1.heap[w.heap.size]? = some (.cells #[.int .i64 z, .slice A n0 a, .slice B n1 b, .slice C n2 c, .int .i64 cn, .int .i64 wt, .bool dn] 37 (0, 0)) := by rw [hW1]; exact heap_alloc1 _ _ _
  have x1 : W1.heap[w.heap.size + 1]? = some (.cells #[.int .i64 0, .slice none 0 0, .slice none 0 0, .slice none 0 0, .int .i64 0, .int .i64 0, .bool false] 37 (0, 0)) := by rw [hW1]; exact heap_alloc2 _ _ _
  have m0 : W1.cell? ⟨w.heap.size, 0, none⟩ = some (.int .i64 z) := box_cell x0 0 _ rfl
  have m1 : W1.cell? ⟨w.heap.size, 1, none⟩ = some (.slice A n0 a) := box_cell x0 1 _ rfl
  have m2 : W1.cell? ⟨w.heap.size, 2, none⟩ = some (.slice B n1 b) := box_cell x0 2 _ rfl
  have m3 : W1.cell? ⟨w.heap.size, 3, none⟩ = some (.slice C n2 c) := box_cell x0 3 _ rfl
  have m4 : W1.cell? ⟨w.heap.size, 4, none⟩ = some (.int .i64 cn) := box_cell x0 4 _ rfl
  have m5 : W1.cell? ⟨w.heap.size, 5, none⟩ = some (.int .i64 wt) := box_cell x0 5 _ rfl
  have m6 : W1.cell? ⟨w.heap.size, 6, none⟩ = some (.bool dn) := box_cell x0 6 _ rfl
  have HR := Lib.hid (hRf W1)
  have HX := Lib.hid (And.intro hb1 (And.intro x0 x1))
  have HC := Lib.hid (And.intro hA (And.intro hB hC))
  clear hA hB hC hb1 x0 x1 h hk hRf hz hn0 hn1 hn2 hcn hwt hdn
  go_enter Try.func82, Try.ntmps82
  go_wp2_with fail
  rw [← hW1]
  clear hW1
  refine HR.out.mono ?_
  rintro e w2 ⟨rfl, hb2⟩
  have y0 := heap_below HX.out.2.1 hb2
  have HB2 := Lib.hid (And.intro (bthen HX.out.1 hb2) (And.intro y0 hb2))
  clear m0 m1 m2 m3 m4 m5 m6
  have m0 : w2.cell? ⟨w.heap.size, 0, none⟩ = some (.int .i64 z) := box_cell y0 0 _ rfl
  have m1 : w2.cell? ⟨w.heap.size, 1, none⟩ = some (.slice A n0 a) := box_cell y0 1 _ rfl
  have m2 : w2.cell? ⟨w.heap.size, 2, none⟩ = some (.slice B n1 b) := box_cell y0 2 _ rfl
  have m3 : w2.cell? ⟨w.heap.size, 3, none⟩ = some (.slice C n2 c) := box_cell y0 3 _ rfl
  have m4 : w2.cell? ⟨w.heap.size, 4, none⟩ = some (.int .i64 cn) := box_cell y0 4 _ rfl
  have m5 : w2.cell? ⟨w.heap.size, 5, none⟩ = some (.int .i64 wt) := box_cell y0 5 _ rfl
  have m6 : w2.cell? ⟨w.heap.size, 6, none⟩ = some (.bool dn) := box_cell y0 6 _ rfl
  clear y0 hb2 HR
  go_wp2_with (first | (at_builtin; refine Stopped.out ?_) | (at_make; refine Stopped.out ?_))
  refine (HSt.out _ (HC.out.2.2.below HB2.out.1)).mono ?_
  rintro e w3 ⟨C2, c2, rfl, hC2, hor, hb3⟩
  have HB3 := Lib.hid (And.intro (bthen HB2.out.1 hb3) (And.intro (bthen HB2.out.2.2 hb3) hC2))
  have hb1lt : w.heap.size + 1 < w2.heap.size := by have h1 := cell_lt (box_cell (heap_below HX.out.2.2 HB2.out.2.2) 0 _ rfl); simpa using h1
  have HOR := Lib.hid (And.intro hor hb1lt)
  clear m0 m1 m2 m3 m4 m5 m6 hC2 hb3 HSt hor hb1lt
  obtain ⟨W4, hW4⟩ : ∃ W4, W4 = w3.alloc (.cells #[.int .i64 z, .slice A n0 a, .slice B n1 b, .slice C2 N2 c2, .int .i64 CN, .int .i64 WT, .bool DN] 37) := ⟨_, rfl⟩
  have hb4 : Below w3.heap.size w3 W4 := by rw [hW4]; exact (Below.refl _ _).alloc (Nat.le_refl _) _
  have x9 : W4.heap[w3.heap.size]? = some (.cells #[.int .i64 z, .slice A n0 a, .slice B n1 b, .slice C2 N2 c2, .int .i64 CN, .int .i64 WT, .bool DN] 37 (0, 0)) := by rw [hW4]; exact heap_alloc_new _ _
  have y0 := heap_below (heap_below HX.out.2.1 HB3.out.2.1) hb4
  have y1 := heap_below (heap_below HX.out.2.2 HB3.out.2.1) hb4
  have HB4 := Lib.hid (And.intro (bthen HB3.out.1 hb4) (And.intro y0 (And.intro y1 (And.intro x9 (HB3.out.2.2.below hb4)))))
  have m0 : W4.cell? ⟨w.heap.size, 0, none⟩ = some (.int .i64 z) := box_cell y0 0 _ rfl
  have m1 : W4.cell? ⟨w.heap.size, 1, none⟩ = some (.slice A n0 a) := box_cell y0 1 _ rfl
  have m2 : W4.cell? ⟨w.heap.size, 2, none⟩ = some (.slice B n1 b) := box_cell y0 2 _ rfl
  have m3 : W4.cell? ⟨w.heap.size, 3, none⟩ = some (.slice C n2 c) := box_cell y0 3 _ rfl
  have m4 : W4.cell? ⟨w.heap.size, 4, none⟩ = some (.int .i64 cn) := box_cell y0 4 _ rfl
  have m5 : W4.cell? ⟨w.heap.size, 5, none⟩ = some (.int .i64 wt) := box_cell y0 5 _ rfl
  have m6 : W4.cell? ⟨w.heap.size, 6, none⟩ = some (.bool dn) := box_cell y0 6 _ rfl
  have cc0 : W4.cell? ⟨w3.heap.size, 0, none⟩ = some (.int .i64 z) := box_cell x9 0 _ rfl
  have cc1 : W4.cell? ⟨w3.heap.size, 1, none⟩ = some (.slice A n0 a) := box_cell x9 1 _ rfl
  have cc2 : W4.cell? ⟨w3.heap.size, 2, none⟩ = some (.slice B n1 b) := box_cell x9 2 _ rfl
  have cc3 : W4.cell? ⟨w3.heap.size, 3, none⟩ = some (.slice C2 N2 c2) := box_cell x9 3 _ rfl
  have cc4 : W4.cell? ⟨w3.heap.size, 4, none⟩ = some (.int .i64 CN) := box_cell x9 4 _ rfl
  have cc5 : W4.cell? ⟨w3.heap.size, 5, none⟩ = some (.int .i64 WT) := box_cell x9 5 _ rfl
  have cc6 : W4.cell? ⟨w3.heap.size, 6, none⟩ = some (.bool DN) := box_cell x9 6 _ rfl
  obtain ⟨g9, hg9⟩ : ∃ g, g = w3.heap.size := ⟨_, rfl⟩
  rw [← hg9] at HB4 cc0 cc1 cc2 cc3 cc4 cc5 cc6
  clear hb4 x9 y0 y1
  go_wp2_with (first | (at_builtin; refine Stopped.out ?_) | (at_make; refine Stopped.out ?_))
  rw [← hW4, ← hg9]
  clear hW4 hg9 HB2
  refine (ref_with1 _ z CN WT A B C2 n0 n1 N2 a b c2 DN none 0 0 1 (by decide)).mono ?_
  rintro e w9 ⟨rfl, hb9⟩
  have hb49 := hb9
  have y1 := heap_below HB4.out.2.2.1 hb49
  have s7 := set7 (.int .i64 z) (.slice A n0 a) (.slice none 0 0) (.slice C2 N2 c2) (.int .i64 CN) (.int .i64 WT) (.bool DN) y1
  have r0 : w9.cell? ⟨w.heap.size + 1, 0, none⟩ = some (.int .i64 0) := box_cell y1 0 _ rfl
  have r1 : w9.cell? ⟨w.heap.size + 1, 1, none⟩ = some (.slice none 0 0) := box_cell y1 1 _ rfl
  have r2 : w9.cell? ⟨w.heap.size + 1, 2, none⟩ = some (.slice none 0 0) := box_cell y1 2 _ rfl
  have r3 : w9.cell? ⟨w.heap.size + 1, 3, none⟩ = some (.slice none 0 0) := box_cell y1 3 _ rfl
  have r4 : w9.cell? ⟨w.heap.size + 1, 4, none⟩ = some (.int .i64 0) := box_cell y1 4 _ rfl
  have r5 : w9.cell? ⟨w.heap.size + 1, 5, none⟩ = some (.int .i64 0) := box_cell y1 5 _ rfl
  have r6 : w9.cell? ⟨w.heap.size + 1, 6, none⟩ = some (.bool false) := box_cell y1 6 _ rfl
  have g0 := box_free y1 0
  have g1 := box_free y1 1
  have g2 := box_free y1 2
  have g3 := box_free y1 3
  have g4 := box_free y1 4
  have g5 := box_free y1 5
  have g6 := box_free y1 6
  have HZ := Lib.hid (And.intro s7 (And.intro hb9 hb49))
  clear s7 hb9 hb49 y1 cc0 cc1 cc2 cc3 cc4 cc5 cc6
  go_wp2
  obtain ⟨s7, hb9, hb49⟩ := HZ.out
  refine bodyPost_ret (results_c2 (P := Try.prog) rfl _ _ _ _ _ _ _ (by rfl) s7.1 Try.underlying37 rfl (by kernel_rfl)) rfl ?_
  have hbz := bthen HB4.out.1 hb49
  have hb3 := s7.2.below hbz hbz.size (fun x hx => by simp at hx; omega)
  have hb1W : w.heap.size + 1 < W4.heap.size := by have h1 := cell_lt (box_cell HB4.out.2.2.1 0 _ rfl); simpa using h1
  obtain ⟨e0, e1, e2, e3, e4, e5, e6⟩ := HE.out
  obtain ⟨f0, f1, f2, f3, f4⟩ := HE2.out
  have eA : setB (strikeF s) 1 [] = { strikeF s with b1 := [] } := by rw [setB]; simp
  rw [eA]
  have hnD : Ap Xs none ([] : List UInt8).length := Ap.none
  have hnC : Ap Xs C2 (strikeF s).armed.length := Ap.either HOR.out.1 HAp.out.2.2 (fun h => by rw [h]) (fun x hx => by have h1 := hXs x hx; have h2 := HOR.out.2; omega)
  refine ⟨_, rfl, ⟨A, none, C2, a, 0, c2, ?_, ?_, ?_, ?_, HAp.out.1.cast (by simp only [strikeF_b0]), hnD, hnC⟩, hb3⟩
  · simp only [refV, List.length_nil, strikeF_size, strikeF_b0, strikeF_b1, ← e0, ← e1, ← e2, ← f0, ← f1, ← f2, ← f3]
  · simp only [List.length_nil, strikeF_b0, ← e1]
    exact HC.out.1.below hb3
  · simp only [List.length_nil, strikeF_b1, ← e2]
    exact Sl.nilS _ _
  · simp only [← f0]
    rcases HOR.out.1 with ⟨g0, g1, g2⟩ | g
    · have hh := HC.out.2.2.below hb3
      rw [← g0, ← g1, ← g2, show n2 = N2 by rw [f0, g2, ← e3]] at hh
      exact hh
    · refine (HB4.out.2.2.2.2.below hb49).keep s7.2 (fun ad e hx => ?_)
      have h1 := g ad e
      have h2 := HOR.out.2
      simp at hx; omega
set_option maxRecDepth 100000 in
set_option maxHeartbeats 3200000 in
theorem ref_Erase_all1 (w : World) {v : List Value} {s : FSt} {Xs : List Nat} (h : RFl w v s Xs) (hk : FOk s) (hr : refusedF s 1 = 0) (hst : struckF s = true) (hkp : s.b1.length ≤ keepF s) (hXs : ∀ x ∈ Xs, x < w.heap.size) :
    Calls Try.prog 82 #[.agg v.toArray, .int .i64 1] w fun e w' => ∃ v', e = .returned (.tuple #[.agg v'.toArray, .int .i64 121]) ∧ RFl w' v' (setB (strikeF s) 1 ([])) Xs ∧ Below w.heap.size w w' := by
  have hxz := hk.b1
  obtain ⟨A, B, C, a, b, c, rfl, hA, hB, hC, hAp⟩ := h.out
  have HAp := Lib.hid hAp
  clear hAp
  rw [refV_eq]
  have hRf := fun w1 => ref_refusedG w1 s A B C a b c 1
  have hG := fun w1 => ref_bankG1 w1 s.size s.count s.writes A B C s.b0.length s.b1.length s.armed.length a b c s.down 1 (by decide)
  have hSt := fun w1 (h1 : Sl w1 2 C s.armed.length c (crashL s.armed)) => ref_struck w1 s hk s.size A B C s.b0.length s.b1.length a b c h1
  have HG := Lib.hid hG
  have hzz := hk.size
  have hkeep := keepF_le s hk.vals
  have HTk : Hid (s.b1.take s.size = s.b1) := Lib.hid (List.take_of_length_le hk.b1)
  rw [hr] at hRf
  clear hr hG
  obtain ⟨z, hz⟩ : ∃ z, z = s.size := ⟨_, rfl⟩
  obtain ⟨n0, hn0⟩ : ∃ z, z = s.b0.length := ⟨_, rfl⟩
  obtain ⟨n1, hn1⟩ : ∃ z, z = s.b1.length := ⟨_, rfl⟩
  obtain ⟨n2, hn2⟩ : ∃ z, z = s.armed.length := ⟨_, rfl⟩
  obtain ⟨cn, hcn⟩ : ∃ z, z = s.count := ⟨_, rfl⟩
  obtain ⟨wt, hwt⟩ : ∃ z, z = s.writes := ⟨_, rfl⟩
  obtain ⟨dn, hdn⟩ : ∃ z, z = s.down := ⟨_, rfl⟩
  have HE := Lib.hid (And.intro hz (And.intro hn0 (And.intro hn1 (And.intro hn2 (And.intro hcn (And.intro hwt hdn))))))
  rw [← hz, ← hn0, ← hn1, ← hn2, ← hcn, ← hwt, ← hdn] at hRf
  rw [← hz, ← hn0, ← hn1, ← hn2, ← hcn, ← hwt, ← hdn]
  rw [← hn0] at hA; rw [← hn1] at hB; rw [← hn2] at hC
  rw [← hz, ← hn0, ← hn1, ← hn2, ← hcn, ← hwt, ← hdn] at HG hSt
  rw [← hz] at hzz HTk hxz
  rw [← hn1] at hxz
  obtain ⟨N2, hN2⟩ : ∃ x, x = (strikeF s).armed.length := ⟨_, rfl⟩
  obtain ⟨CN, hCN⟩ : ∃ x, x = (strikeF s).count := ⟨_, rfl⟩
  obtain ⟨WT, hWT⟩ : ∃ x, x = (strikeF s).writes := ⟨_, rfl⟩
  obtain ⟨DN, hDN⟩ : ∃ x, x = (strikeF s).down := ⟨_, rfl⟩
  obtain ⟨KP, hKP⟩ : ∃ x, x = keepF s := ⟨_, rfl⟩
  have hSt : ∀ w1, Sl w1 2 C n2 c (crashL s.armed) → Calls Try.prog 120 #[.agg #[.int .i64 z, .slice A n0 a, .slice B n1 b, .slice C n2 c, .int .i64 cn, .int .i64 wt, .bool dn]] w1 fun e w' => ∃ C2 c2, e = .returned (.tuple #[.agg #[.int .i64 z, .slice A n0 a, .slice B n1 b, .slice C2 N2 c2, .int .i64 CN, .int .i64 WT, .bool DN], .bool true, .int .i64 KP]) ∧ Sl w' 2 C2 N2 c2 (crashL (strikeF s).armed) ∧ ((C2 = C ∧ c2 = c ∧ (strikeF s).armed = s.armed) ∨ ∀ ad, C2 = some ad → w1.heap.size ≤ ad.block) ∧ Below w1.heap.size w1 w' := by
    rw [hN2, hCN, hWT, hDN, hKP, ← hst]
    exact hSt
  have HSt := Lib.hid hSt
  rw [← hKP] at hkeep
  rw [← hKP, ← hn1] at hkp
  have HE2 := Lib.hid (And.intro hN2 (And.intro hCN (And.intro hWT (And.intro hDN hKP))))
  clear hSt hN2 hCN hWT hDN hKP hst
  obtain ⟨W1, hW1⟩ : ∃ W1, W1 = (w.alloc (.cells #[.int .i64 z, .slice A n0 a, .slice B n1 b, .slice C n2 c, .int .i64 cn, .int .i64 wt, .bool dn] 37)).alloc (.cells #[.int .i64 0, .slice none 0 0, .slice none 0 0, .slice none 0 0, .int .i64 0, .int .i64 0, .bool false] 37) := ⟨_, rfl⟩
  have hb1 : Below w.heap.size w W1 := by rw [hW1]; exact below2 _ _ _
  have x0 : W1.heap[w.heap.size]? = some (.cells #[.int .i64 z, .slice A n0 a, .slice B n1 b, .slice C n2 c, .int .i64 cn, .int .i64 wt, .bool dn] 37 (0, 0)) := by rw [hW1]; exact heap_alloc1 _ _ _
  have x1 : W1.heap[w.heap.size + 1]? = some (.cells #[.int .i64 0, .slice none 0 0, .slice none 0 0, .slice none 0 0, .int .i64 0, .int .i64 0, .bool false] 37 (0, 0)) := by rw [hW1]; exact heap_alloc2 _ _ _
  have m0 : W1.cell? ⟨w.heap.size, 0, none⟩ = some (.int .i64 z) := box_cell x0 0 _ rfl
  have m1 : W1.cell? ⟨w.heap.size, 1, none⟩ = some (.slice A n0 a) := box_cell x0 1 _ rfl
  have m2 : W1.cell? ⟨w.heap.size, 2, none⟩ = some (.slice B n1 b) := box_cell x0 2 _ rfl
  have m3 : W1.cell? ⟨w.heap.size, 3, none⟩ = some (.slice C n2 c) := box_cell x0 3 _ rfl
  have m4 : W1.cell? ⟨w.heap.size, 4, none⟩ = some (.int .i64 cn) := box_cell x0 4 _ rfl
  have m5 : W1.cell? ⟨w.heap.size, 5, none⟩ = some (.int .i64 wt) := box_cell x0 5 _ rfl
  have m6 : W1.cell? ⟨w.heap.size, 6, none⟩ = some (.bool dn) := box_cell x0 6 _ rfl
  have HR := Lib.hid (hRf W1)
  have HX := Lib.hid (And.intro hb1 (And.intro x0 x1))
  have HC := Lib.hid (And.intro hA (And.intro hB hC))
  have i1 : (n1 : Int) ≤ (KP : Int) := by omega
  clear hA hB hC hb1 x0 x1 h hk hRf hz hn0 hn1 hn2 hcn hwt hdn
  go_enter Try.func82, Try.ntmps82
  go_wp2_with fail
  rw [← hW1]
  clear hW1
  refine HR.out.mono ?_
  rintro e w2 ⟨rfl, hb2⟩
  have y0 := heap_below HX.out.2.1 hb2
  have HB2 := Lib.hid (And.intro (bthen HX.out.1 hb2) (And.intro y0 hb2))
  clear m0 m1 m2 m3 m4 m5 m6
  have m0 : w2.cell? ⟨w.heap.size, 0, none⟩ = some (.int .i64 z) := box_cell y0 0 _ rfl
  have m1 : w2.cell? ⟨w.heap.size, 1, none⟩ = some (.slice A n0 a) := box_cell y0 1 _ rfl
  have m2 : w2.cell? ⟨w.heap.size, 2, none⟩ = some (.slice B n1 b) := box_cell y0 2 _ rfl
  have m3 : w2.cell? ⟨w.heap.size, 3, none⟩ = some (.slice C n2 c) := box_cell y0 3 _ rfl
  have m4 : w2.cell? ⟨w.heap.size, 4, none⟩ = some (.int .i64 cn) := box_cell y0 4 _ rfl
  have m5 : w2.cell? ⟨w.heap.size, 5, none⟩ = some (.int .i64 wt) := box_cell y0 5 _ rfl
  have m6 : w2.cell? ⟨w.heap.size, 6, none⟩ = some (.bool dn) := box_cell y0 6 _ rfl
  clear y0 hb2 HR
  go_wp2_with (first | (at_builtin; refine Stopped.out ?_) | (at_make; refine Stopped.out ?_))
  refine (HSt.out _ (HC.out.2.2.below HB2.out.1)).mono ?_
  rintro e w3 ⟨C2, c2, rfl, hC2, hor, hb3⟩
  have HB3 := Lib.hid (And.intro (bthen HB2.out.1 hb3) (And.intro (bthen HB2.out.2.2 hb3) hC2))
  have hb1lt : w.heap.size + 1 < w2.heap.size := by have h1 := cell_lt (box_cell (heap_below HX.out.2.2 HB2.out.2.2) 0 _ rfl); simpa using h1
  have HOR := Lib.hid (And.intro hor hb1lt)
  clear m0 m1 m2 m3 m4 m5 m6 hC2 hb3 HSt hor hb1lt
  obtain ⟨W4, hW4⟩ : ∃ W4, W4 = w3.alloc (.cells #[.int .i64 z, .slice A n0 a, .slice B n1 b, .slice C2 N2 c2, .int .i64 CN, .int .i64 WT, .bool DN] 37) := ⟨_, rfl⟩
  have hb4 : Below w3.heap.size w3 W4 := by rw [hW4]; exact (Below.refl _ _).alloc (Nat.le_refl _) _
  have x9 : W4.heap[w3.heap.size]? = some (.cells #[.int .i64 z, .slice A n0 a, .slice B n1 b, .slice C2 N2 c2, .int .i64 CN, .int .i64 WT, .bool DN] 37 (0, 0)) := by rw [hW4]; exact heap_alloc_new _ _
  have y0 := heap_below (heap_below HX.out.2.1 HB3.out.2.1) hb4
  have y1 := heap_below (heap_below HX.out.2.2 HB3.out.2.1) hb4
  have HB4 := Lib.hid (And.intro (bthen HB3.out.1 hb4) (And.intro y0 (And.intro y1 (And.intro x9 (HB3.out.2.2.below hb4)))))
  have m0 : W4.cell? ⟨w.heap.size, 0, none⟩ = some (.int .i64 z) := box_cell y0 0 _ rfl
  have m1 : W4.cell? ⟨w.heap.size, 1, none⟩ = some (.slice A n0 a) := box_cell y0 1 _ rfl
  have m2 : W4.cell? ⟨w.heap.size, 2, none⟩ = some (.slice B n1 b) := box_cell y0 2 _ rfl
  have m3 : W4.cell? ⟨w.heap.size, 3, none⟩ = some (.slice C n2 c) := box_cell y0 3 _ rfl
  have m4 : W4.cell? ⟨w.heap.size, 4, none⟩ = some (.int .i64 cn) := box_cell y0 4 _ rfl
  have m5 : W4.cell? ⟨w.heap.size, 5, none⟩ = some (.int .i64 wt) := box_cell y0 5 _ rfl
  have m6 : W4.cell? ⟨w.heap.size, 6, none⟩ = some (.bool dn) := box_cell y0 6 _ rfl
  have cc0 : W4.cell? ⟨w3.heap.size, 0, none⟩ = some (.int .i64 z) := box_cell x9 0 _ rfl
  have cc1 : W4.cell? ⟨w3.heap.size, 1, none⟩ = some (.slice A n0 a) := box_cell x9 1 _ rfl
  have cc2 : W4.cell? ⟨w3.heap.size, 2, none⟩ = some (.slice B n1 b) := box_cell x9 2 _ rfl
  have cc3 : W4.cell? ⟨w3.heap.size, 3, none⟩ = some (.slice C2 N2 c2) := box_cell x9 3 _ rfl
  have cc4 : W4.cell? ⟨w3.heap.size, 4, none⟩ = some (.int .i64 CN) := box_cell x9 4 _ rfl
  have cc5 : W4.cell? ⟨w3.heap.size, 5, none⟩ = some (.int .i64 WT) := box_cell x9 5 _ rfl
  have cc6 : W4.cell? ⟨w3.heap.size, 6, none⟩ = some (.bool DN) := box_cell x9 6 _ rfl
  obtain ⟨g9, hg9⟩ : ∃ g, g = w3.heap.size := ⟨_, rfl⟩
  rw [← hg9] at HB4 cc0 cc1 cc2 cc3 cc4 cc5 cc6
  clear hb4 x9 y0 y1
  go_wp2_with fail
  rw [← hW4, ← hg9]
  clear hW4 hg9 HB2
  go_region_held3 (fun w' => w'.cell? ⟨w.heap.size, 0, none⟩ = some (.int .i64 z) ∧ w'.cell? ⟨w.heap.size, 1, none⟩ = some (.slice A n0 a) ∧ w'.cell? ⟨w.heap.size, 2, none⟩ = some (.slice B n1 b) ∧ w'.cell? ⟨w.heap.size, 3, none⟩ = some (.slice C n2 c) ∧ w'.cell? ⟨w.heap.size, 4, none⟩ = some (.int .i64 cn) ∧ w'.cell? ⟨w.heap.size, 5, none⟩ = some (.int .i64 wt) ∧ w'.cell? ⟨w.heap.size, 6, none⟩ = some (.bool dn))
    (first | exact ⟨m0, m1, m2, m3, m4, m5, m6⟩ | exact q7 | exact p7 | go_keep)
    (first
      | (go_at_call 81; refine (ref_upTo _ (HC.out.2.1.below (bthen HB4.out.1 (bthen ((Below.refl _ _).drew) hb5))) _ (by omega)).mono ?_; rintro e w6 ⟨u6, rfl, o6, hb6⟩; have q7 : w6.cell? ⟨w.heap.size, 0, none⟩ = some (.int .i64 z) ∧ w6.cell? ⟨w.heap.size, 1, none⟩ = some (.slice A n0 a) ∧ w6.cell? ⟨w.heap.size, 2, none⟩ = some (.slice B n1 b) ∧ w6.cell? ⟨w.heap.size, 3, none⟩ = some (.slice C n2 c) ∧ w6.cell? ⟨w.heap.size, 4, none⟩ = some (.int .i64 cn) ∧ w6.cell? ⟨w.heap.size, 5, none⟩ = some (.int .i64 wt) ∧ w6.cell? ⟨w.heap.size, 6, none⟩ = some (.bool dn) := (let y := heap_below (heap_below (w := W4.drew) HB4.out.2.1 hb5) hb6; ⟨box_cell y 0 _ rfl, box_cell y 1 _ rfl, box_cell y 2 _ rfl, box_cell y 3 _ rfl, box_cell y 4 _ rfl, box_cell y 5 _ rfl, box_cell y 6 _ rfl⟩))
      | (go_at_call 119; refine (HG.out _).mono ?_; rintro e w5 ⟨rfl, hb5⟩; have p7 : w5.cell? ⟨w.heap.size, 0, none⟩ = some (.int .i64 z) ∧ w5.cell? ⟨w.heap.size, 1, none⟩ = some (.slice A n0 a) ∧ w5.cell? ⟨w.heap.size, 2, none⟩ = some (.slice B n1 b) ∧ w5.cell? ⟨w.heap.size, 3, none⟩ = some (.slice C n2 c) ∧ w5.cell? ⟨w.heap.size, 4, none⟩ = some (.int .i64 cn) ∧ w5.cell? ⟨w.heap.size, 5, none⟩ = some (.int .i64 wt) ∧ w5.cell? ⟨w.heap.size, 6, none⟩ = some (.bool dn) := (let y := heap_below (w := W4.drew) HB4.out.2.1 hb5; ⟨box_cell y 0 _ rfl, box_cell y 1 _ rfl, box_cell y 2 _ rfl, box_cell y 3 _ rfl, box_cell y 4 _ rfl, box_cell y 5 _ rfl, box_cell y 6 _ rfl⟩)))
  have hb6' : Below W4.heap.size W4 w6 := bthen (bthen ((Below.refl _ _).drew) hb5) hb6
  rw [HTk.out] at o6
  have e6 : s.b1.length = n1 := HE.out.2.2.1.symm
  rw [e6] at o6
  have x9 := heap_below HB4.out.2.2.2.1 hb6'
  have HB6 := Lib.hid (And.intro hb6' (And.intro x9 (own_mono o6 (show W4.heap.size ≤ w5.heap.size by have := hb5.size; simpa using this))))
  obtain ⟨D6, d6, rfl, _, _⟩ := own_sl o6
  clear m0 m1 m2 m3 m4 m5 m6 p7 q7 hb5 hb6 hb6' o6 x9 e6 cc0 cc1 cc2 cc3 cc4 cc5 cc6
  have cc0 : w6.cell? ⟨g9, 0, none⟩ = some (.int .i64 z) := box_cell HB6.out.2.1 0 _ rfl
  have cc1 : w6.cell? ⟨g9, 1, none⟩ = some (.slice A n0 a) := box_cell HB6.out.2.1 1 _ rfl
  have cc2 : w6.cell? ⟨g9, 2, none⟩ = some (.slice B n1 b) := box_cell HB6.out.2.1 2 _ rfl
  have cc3 : w6.cell? ⟨g9, 3, none⟩ = some (.slice C2 N2 c2) := box_cell HB6.out.2.1 3 _ rfl
  have cc4 : w6.cell? ⟨g9, 4, none⟩ = some (.int .i64 CN) := box_cell HB6.out.2.1 4 _ rfl
  have cc5 : w6.cell? ⟨g9, 5, none⟩ = some (.int .i64 WT) := box_cell HB6.out.2.1 5 _ rfl
  have cc6 : w6.cell? ⟨g9, 6, none⟩ = some (.bool DN) := box_cell HB6.out.2.1 6 _ rfl
  go_wp2_with (first | (at_builtin; refine Stopped.out ?_) | (at_make; refine Stopped.out ?_))
  refine (ref_with1 _ z CN WT A B C2 n0 n1 N2 a b c2 DN none 0 0 1 (by decide)).mono ?_
  rintro e w9 ⟨rfl, hb9⟩
  have hb49 := bthen HB6.out.1 hb9
  have y1 := heap_below HB4.out.2.2.1 hb49
  have s7 := set7 (.int .i64 z) (.slice A n0 a) (.slice none 0 0) (.slice C2 N2 c2) (.int .i64 CN) (.int .i64 WT) (.bool DN) y1
  have r0 : w9.cell? ⟨w.heap.size + 1, 0, none⟩ = some (.int .i64 0) := box_cell y1 0 _ rfl
  have r1 : w9.cell? ⟨w.heap.size + 1, 1, none⟩ = some (.slice none 0 0) := box_cell y1 1 _ rfl
  have r2 : w9.cell? ⟨w.heap.size + 1, 2, none⟩ = some (.slice none 0 0) := box_cell y1 2 _ rfl
  have r3 : w9.cell? ⟨w.heap.size + 1, 3, none⟩ = some (.slice none 0 0) := box_cell y1 3 _ rfl
  have r4 : w9.cell? ⟨w.heap.size + 1, 4, none⟩ = some (.int .i64 0) := box_cell y1 4 _ rfl
  have r5 : w9.cell? ⟨w.heap.size + 1, 5, none⟩ = some (.int .i64 0) := box_cell y1 5 _ rfl
  have r6 : w9.cell? ⟨w.heap.size + 1, 6, none⟩ = some (.bool false) := box_cell y1 6 _ rfl
  have g0 := box_free y1 0
  have g1 := box_free y1 1
  have g2 := box_free y1 2
  have g3 := box_free y1 3
  have g4 := box_free y1 4
  have g5 := box_free y1 5
  have g6 := box_free y1 6
  have HZ := Lib.hid (And.intro s7 (And.intro hb9 hb49))
  clear s7 hb9 hb49 y1 cc0 cc1 cc2 cc3 cc4 cc5 cc6
  go_wp2
  obtain ⟨s7, hb9, hb49⟩ := HZ.out
  refine bodyPost_ret (results_c2 (P := Try.prog) rfl _ _ _ _ _ _ _ (by rfl) s7.1 Try.underlying37 rfl (by kernel_rfl)) rfl ?_
  have hbz := bthen HB4.out.1 hb49
  have hb3 := s7.2.below hbz hbz.size (fun x hx => by simp at hx; omega)
  have hb1W : w.heap.size + 1 < W4.heap.size := by have h1 := cell_lt (box_cell HB4.out.2.2.1 0 _ rfl); simpa using h1
  obtain ⟨e0, e1, e2, e3, e4, e5, e6⟩ := HE.out
  obtain ⟨f0, f1, f2, f3, f4⟩ := HE2.out
  have eA : setB (strikeF s) 1 [] = { strikeF s with b1 := [] } := by rw [setB]; simp
  rw [eA]
  have hnD : Ap Xs none ([] : List UInt8).length := Ap.none
  have hnC : Ap Xs C2 (strikeF s).armed.length := Ap.either HOR.out.1 HAp.out.2.2 (fun h => by rw [h]) (fun x hx => by have h1 := hXs x hx; have h2 := HOR.out.2; omega)
  refine ⟨_, rfl, ⟨A, none, C2, a, 0, c2, ?_, ?_, ?_, ?_, HAp.out.1.cast (by simp only [strikeF_b0]), hnD, hnC⟩, hb3⟩
  · simp only [refV, List.length_nil, strikeF_size, strikeF_b0, strikeF_b1, ← e0, ← e1, ← e2, ← f0, ← f1, ← f2, ← f3]
  · simp only [List.length_nil, strikeF_b0, ← e1]
    exact HC.out.1.below hb3
  · simp only [List.length_nil, strikeF_b1, ← e2]
    exact Sl.nilS _ _
  · simp only [← f0]
    rcases HOR.out.1 with ⟨g0, g1, g2⟩ | g
    · have hh := HC.out.2.2.below hb3
      rw [← g0, ← g1, ← g2, show n2 = N2 by rw [f0, g2, ← e3]] at hh
      exact hh
    · refine (HB4.out.2.2.2.2.below hb49).keep s7.2 (fun ad e hx => ?_)
      have h1 := g ad e
      have h2 := HOR.out.2
      simp at hx; omega
set_option maxRecDepth 100000 in
set_option maxHeartbeats 3200000 in
theorem ref_Erase_part1 (w : World) {v : List Value} {s : FSt} {Xs : List Nat} (h : RFl w v s Xs) (hk : FOk s) (hr : refusedF s 1 = 0) (hst : struckF s = true) (hkp : keepF s < s.b1.length) (hXs : ∀ x ∈ Xs, x < w.heap.size) :
    Calls Try.prog 82 #[.agg v.toArray, .int .i64 1] w fun e w' => ∃ v', e = .returned (.tuple #[.agg v'.toArray, .int .i64 121]) ∧ RFl w' v' (setB (strikeF s) 1 (List.replicate (keepF s) 255 ++ s.b1.drop (keepF s))) Xs ∧ Below w.heap.size w w' := by
  have hxz := hk.b1
  obtain ⟨A, B, C, a, b, c, rfl, hA, hB, hC, hAp⟩ := h.out
  have HAp := Lib.hid hAp
  clear hAp
  rw [refV_eq]
  have hRf := fun w1 => ref_refusedG w1 s A B C a b c 1
  have hG := fun w1 => ref_bankG1 w1 s.size s.count s.writes A B C s.b0.length s.b1.length s.armed.length a b c s.down 1 (by decide)
  have hSt := fun w1 (h1 : Sl w1 2 C s.armed.length c (crashL s.armed)) => ref_struck w1 s hk s.size A B C s.b0.length s.b1.length a b c h1
  have HG := Lib.hid hG
  have hzz := hk.size
  have hkeep := keepF_le s hk.vals
  have HTk : Hid (s.b1.take s.size = s.b1) := Lib.hid (List.take_of_length_le hk.b1)
  rw [hr] at hRf
  clear hr hG
  obtain ⟨z, hz⟩ : ∃ z, z = s.size := ⟨_, rfl⟩
  obtain ⟨n0, hn0⟩ : ∃ z, z = s.b0.length := ⟨_, rfl⟩
  obtain ⟨n1, hn1⟩ : ∃ z, z = s.b1.length := ⟨_, rfl⟩
  obtain ⟨n2, hn2⟩ : ∃ z, z = s.armed.length := ⟨_, rfl⟩
  obtain ⟨cn, hcn⟩ : ∃ z, z = s.count := ⟨_, rfl⟩
  obtain ⟨wt, hwt⟩ : ∃ z, z = s.writes := ⟨_, rfl⟩
  obtain ⟨dn, hdn⟩ : ∃ z, z = s.down := ⟨_, rfl⟩
  have HE := Lib.hid (And.intro hz (And.intro hn0 (And.intro hn1 (And.intro hn2 (And.intro hcn (And.intro hwt hdn))))))
  rw [← hz, ← hn0, ← hn1, ← hn2, ← hcn, ← hwt, ← hdn] at hRf
  rw [← hz, ← hn0, ← hn1, ← hn2, ← hcn, ← hwt, ← hdn]
  rw [← hn0] at hA; rw [← hn1] at hB; rw [← hn2] at hC
  rw [← hz, ← hn0, ← hn1, ← hn2, ← hcn, ← hwt, ← hdn] at HG hSt
  rw [← hz] at hzz HTk hxz
  rw [← hn1] at hxz
  obtain ⟨N2, hN2⟩ : ∃ x, x = (strikeF s).armed.length := ⟨_, rfl⟩
  obtain ⟨CN, hCN⟩ : ∃ x, x = (strikeF s).count := ⟨_, rfl⟩
  obtain ⟨WT, hWT⟩ : ∃ x, x = (strikeF s).writes := ⟨_, rfl⟩
  obtain ⟨DN, hDN⟩ : ∃ x, x = (strikeF s).down := ⟨_, rfl⟩
  obtain ⟨KP, hKP⟩ : ∃ x, x = keepF s := ⟨_, rfl⟩
  have hSt : ∀ w1, Sl w1 2 C n2 c (crashL s.armed) → Calls Try.prog 120 #[.agg #[.int .i64 z, .slice A n0 a, .slice B n1 b, .slice C n2 c, .int .i64 cn, .int .i64 wt, .bool dn]] w1 fun e w' => ∃ C2 c2, e = .returned (.tuple #[.agg #[.int .i64 z, .slice A n0 a, .slice B n1 b, .slice C2 N2 c2, .int .i64 CN, .int .i64 WT, .bool DN], .bool true, .int .i64 KP]) ∧ Sl w' 2 C2 N2 c2 (crashL (strikeF s).armed) ∧ ((C2 = C ∧ c2 = c ∧ (strikeF s).armed = s.armed) ∨ ∀ ad, C2 = some ad → w1.heap.size ≤ ad.block) ∧ Below w1.heap.size w1 w' := by
    rw [hN2, hCN, hWT, hDN, hKP, ← hst]
    exact hSt
  have HSt := Lib.hid hSt
  rw [← hKP] at hkeep
  rw [← hKP, ← hn1] at hkp
  obtain ⟨NEW, hNEW⟩ : ∃ L, L = List.replicate (keepF s) 255 ++ s.b1.drop (keepF s) := ⟨_, rfl⟩
  rw [← hNEW]
  have HNEW : Hid (NEW = List.replicate KP 255 ++ s.b1.drop KP) := Lib.hid (by rw [hNEW, hKP])
  clear hNEW
  have HE2 := Lib.hid (And.intro hN2 (And.intro hCN (And.intro hWT (And.intro hDN hKP))))
  clear hSt hN2 hCN hWT hDN hKP hst
  obtain ⟨W1, hW1⟩ : ∃ W1, W1 = (w.alloc (.cells #[.int .i64 z, .slice A n0 a, .slice B n1 b, .slice C n2 c, .int .i64 cn, .int .i64 wt, .bool dn] 37)).alloc (.cells #[.int .i64 0, .slice none 0 0, .slice none 0 0, .slice none 0 0, .int .i64 0, .int .i64 0, .bool false] 37) := ⟨_, rfl⟩
  have hb1 : Below w.heap.size w W1 := by rw [hW1]; exact below2 _ _ _
  have x0 : W1.heap[w.heap.size]? = some (.cells #[.int .i64 z, .slice A n0 a, .slice B n1 b, .slice C n2 c, .int .i64 cn, .int .i64 wt, .bool dn] 37 (0, 0)) := by rw [hW1]; exact heap_alloc1 _ _ _
  have x1 : W1.heap[w.heap.size + 1]? = some (.cells #[.int .i64 0, .slice none 0 0, .slice none 0 0, .slice none 0 0, .int .i64 0, .int .i64 0, .bool false] 37 (0, 0)) := by rw [hW1]; exact heap_alloc2 _ _ _
  have m0 : W1.cell? ⟨w.heap.size, 0, none⟩ = some (.int .i64 z) := box_cell x0 0 _ rfl
  have m1 : W1.cell? ⟨w.heap.size, 1, none⟩ = some (.slice A n0 a) := box_cell x0 1 _ rfl
  have m2 : W1.cell? ⟨w.heap.size, 2, none⟩ = some (.slice B n1 b) := box_cell x0 2 _ rfl
  have m3 : W1.cell? ⟨w.heap.size, 3, none⟩ = some (.slice C n2 c) := box_cell x0 3 _ rfl
  have m4 : W1.cell? ⟨w.heap.size, 4, none⟩ = some (.int .i64 cn) := box_cell x0 4 _ rfl
  have m5 : W1.cell? ⟨w.heap.size, 5, none⟩ = some (.int .i64 wt) := box_cell x0 5 _ rfl
  have m6 : W1.cell? ⟨w.heap.size, 6, none⟩ = some (.bool dn) := box_cell x0 6 _ rfl
  have HR := Lib.hid (hRf W1)
  have HX := Lib.hid (And.intro hb1 (And.intro x0 x1))
  have HC := Lib.hid (And.intro hA (And.intro hB hC))
  have i1 : decide ((n1 : Int) ≤ (KP : Int)) = false := decide_eq_false (by omega)
  clear hA hB hC hb1 x0 x1 h hk hRf hz hn0 hn1 hn2 hcn hwt hdn
  go_enter Try.func82, Try.ntmps82
  go_wp2_with fail
  rw [← hW1]
  clear hW1
  refine HR.out.mono ?_
  rintro e w2 ⟨rfl, hb2⟩
  have y0 := heap_below HX.out.2.1 hb2
  have HB2 := Lib.hid (And.intro (bthen HX.out.1 hb2) (And.intro y0 hb2))
  clear m0 m1 m2 m3 m4 m5 m6
  have m0 : w2.cell? ⟨w.heap.size, 0, none⟩ = some (.int .i64 z) := box_cell y0 0 _ rfl
  have m1 : w2.cell? ⟨w.heap.size, 1, none⟩ = some (.slice A n0 a) := box_cell y0 1 _ rfl
  have m2 : w2.cell? ⟨w.heap.size, 2, none⟩ = some (.slice B n1 b) := box_cell y0 2 _ rfl
  have m3 : w2.cell? ⟨w.heap.size, 3, none⟩ = some (.slice C n2 c) := box_cell y0 3 _ rfl
  have m4 : w2.cell? ⟨w.heap.size, 4, none⟩ = some (.int .i64 cn) := box_cell y0 4 _ rfl
  have m5 : w2.cell? ⟨w.heap.size, 5, none⟩ = some (.int .i64 wt) := box_cell y0 5 _ rfl
  have m6 : w2.cell? ⟨w.heap.size, 6, none⟩ = some (.bool dn) := box_cell y0 6 _ rfl
  clear y0 hb2 HR
  go_wp2_with (first | (at_builtin; refine Stopped.out ?_) | (at_make; refine Stopped.out ?_))
  refine (HSt.out _ (HC.out.2.2.below HB2.out.1)).mono ?_
  rintro e w3 ⟨C2, c2, rfl, hC2, hor, hb3⟩
  have HB3 := Lib.hid (And.intro (bthen HB2.out.1 hb3) (And.intro (bthen HB2.out.2.2 hb3) hC2))
  have hb1lt : w.heap.size + 1 < w2.heap.size := by have h1 := cell_lt (box_cell (heap_below HX.out.2.2 HB2.out.2.2) 0 _ rfl); simpa using h1
  have HOR := Lib.hid (And.intro hor hb1lt)
  clear m0 m1 m2 m3 m4 m5 m6 hC2 hb3 HSt hor hb1lt
  obtain ⟨W4, hW4⟩ : ∃ W4, W4 = w3.alloc (.cells #[.int .i64 z, .slice A n0 a, .slice B n1 b, .slice C2 N2 c2, .int .i64 CN, .int .i64 WT, .bool DN] 37) := ⟨_, rfl⟩
  have hb4 : Below w3.heap.size w3 W4 := by rw [hW4]; exact (Below.refl _ _).alloc (Nat.le_refl _) _
  have x9 : W4.heap[w3.heap.size]? = some (.cells #[.int .i64 z, .slice A n0 a, .slice B n1 b, .slice C2 N2 c2, .int .i64 CN, .int .i64 WT, .bool DN] 37 (0, 0)) := by rw [hW4]; exact heap_alloc_new _ _
  have y0 := heap_below (heap_below HX.out.2.1 HB3.out.2.1) hb4
  have y1 := heap_below (heap_below HX.out.2.2 HB3.out.2.1) hb4
  have HB4 := Lib.hid (And.intro (bthen HB3.out.1 hb4) (And.intro y0 (And.intro y1 (And.intro x9 (HB3.out.2.2.below hb4)))))
  have m0 : W4.cell? ⟨w.heap.size, 0, none⟩ = some (.int .i64 z) := box_cell y0 0 _ rfl
  have m1 : W4.cell? ⟨w.heap.size, 1, none⟩ = some (.slice A n0 a) := box_cell y0 1 _ rfl
  have m2 : W4.cell? ⟨w.heap.size, 2, none⟩ = some (.slice B n1 b) := box_cell y0 2 _ rfl
  have m3 : W4.cell? ⟨w.heap.size, 3, none⟩ = some (.slice C n2 c) := box_cell y0 3 _ rfl
  have m4 : W4.cell? ⟨w.heap.size, 4, none⟩ = some (.int .i64 cn) := box_cell y0 4 _ rfl
  have m5 : W4.cell? ⟨w.heap.size, 5, none⟩ = some (.int .i64 wt) := box_cell y0 5 _ rfl
  have m6 : W4.cell? ⟨w.heap.size, 6, none⟩ = some (.bool dn) := box_cell y0 6 _ rfl
  have cc0 : W4.cell? ⟨w3.heap.size, 0, none⟩ = some (.int .i64 z) := box_cell x9 0 _ rfl
  have cc1 : W4.cell? ⟨w3.heap.size, 1, none⟩ = some (.slice A n0 a) := box_cell x9 1 _ rfl
  have cc2 : W4.cell? ⟨w3.heap.size, 2, none⟩ = some (.slice B n1 b) := box_cell x9 2 _ rfl
  have cc3 : W4.cell? ⟨w3.heap.size, 3, none⟩ = some (.slice C2 N2 c2) := box_cell x9 3 _ rfl
  have cc4 : W4.cell? ⟨w3.heap.size, 4, none⟩ = some (.int .i64 CN) := box_cell x9 4 _ rfl
  have cc5 : W4.cell? ⟨w3.heap.size, 5, none⟩ = some (.int .i64 WT) := box_cell x9 5 _ rfl
  have cc6 : W4.cell? ⟨w3.heap.size, 6, none⟩ = some (.bool DN) := box_cell x9 6 _ rfl
  obtain ⟨g9, hg9⟩ : ∃ g, g = w3.heap.size := ⟨_, rfl⟩
  rw [← hg9] at HB4 cc0 cc1 cc2 cc3 cc4 cc5 cc6
  clear hb4 x9 y0 y1
  go_wp2_with fail
  rw [← hW4, ← hg9]
  clear hW4 hg9 HB2
  go_region_held3 (fun w' => w'.cell? ⟨w.heap.size, 0, none⟩ = some (.int .i64 z) ∧ w'.cell? ⟨w.heap.size, 1, none⟩ = some (.slice A n0 a) ∧ w'.cell? ⟨w.heap.size, 2, none⟩ = some (.slice B n1 b) ∧ w'.cell? ⟨w.heap.size, 3, none⟩ = some (.slice C n2 c) ∧ w'.cell? ⟨w.heap.size, 4, none⟩ = some (.int .i64 cn) ∧ w'.cell? ⟨w.heap.size, 5, none⟩ = some (.int .i64 wt) ∧ w'.cell? ⟨w.heap.size, 6, none⟩ = some (.bool dn))
    (first | exact ⟨m0, m1, m2, m3, m4, m5, m6⟩ | exact q7 | exact p7 | go_keep)
    (first
      | (go_at_call 81; refine (ref_upTo _ (HC.out.2.1.below (bthen HB4.out.1 (bthen ((Below.refl _ _).drew) hb5))) _ (by omega)).mono ?_; rintro e w6 ⟨u6, rfl, o6, hb6⟩; have q7 : w6.cell? ⟨w.heap.size, 0, none⟩ = some (.int .i64 z) ∧ w6.cell? ⟨w.heap.size, 1, none⟩ = some (.slice A n0 a) ∧ w6.cell? ⟨w.heap.size, 2, none⟩ = some (.slice B n1 b) ∧ w6.cell? ⟨w.heap.size, 3, none⟩ = some (.slice C n2 c) ∧ w6.cell? ⟨w.heap.size, 4, none⟩ = some (.int .i64 cn) ∧ w6.cell? ⟨w.heap.size, 5, none⟩ = some (.int .i64 wt) ∧ w6.cell? ⟨w.heap.size, 6, none⟩ = some (.bool dn) := (let y := heap_below (heap_below (w := W4.drew) HB4.out.2.1 hb5) hb6; ⟨box_cell y 0 _ rfl, box_cell y 1 _ rfl, box_cell y 2 _ rfl, box_cell y 3 _ rfl, box_cell y 4 _ rfl, box_cell y 5 _ rfl, box_cell y 6 _ rfl⟩))
      | (go_at_call 119; refine (HG.out _).mono ?_; rintro e w5 ⟨rfl, hb5⟩; have p7 : w5.cell? ⟨w.heap.size, 0, none⟩ = some (.int .i64 z) ∧ w5.cell? ⟨w.heap.size, 1, none⟩ = some (.slice A n0 a) ∧ w5.cell? ⟨w.heap.size, 2, none⟩ = some (.slice B n1 b) ∧ w5.cell? ⟨w.heap.size, 3, none⟩ = some (.slice C n2 c) ∧ w5.cell? ⟨w.heap.size, 4, none⟩ = some (.int .i64 cn) ∧ w5.cell? ⟨w.heap.size, 5, none⟩ = some (.int .i64 wt) ∧ w5.cell? ⟨w.heap.size, 6, none⟩ = some (.bool dn) := (let y := heap_below (w := W4.drew) HB4.out.2.1 hb5; ⟨box_cell y 0 _ rfl, box_cell y 1 _ rfl, box_cell y 2 _ rfl, box_cell y 3 _ rfl, box_cell y 4 _ rfl, box_cell y 5 _ rfl, box_cell y 6 _ rfl⟩)))
  have hb6' : Below W4.heap.size W4 w6 := bthen (bthen ((Below.refl _ _).drew) hb5) hb6
  rw [HTk.out] at o6
  have e6 : s.b1.length = n1 := HE.out.2.2.1.symm
  rw [e6] at o6
  have x9 := heap_below HB4.out.2.2.2.1 hb6'
  have HB6 := Lib.hid (And.intro hb6' (And.intro x9 (own_mono o6 (show W4.heap.size ≤ w5.heap.size by have := hb5.size; simpa using this))))
  obtain ⟨D6, d6, rfl, _, _⟩ := own_sl o6
  clear m0 m1 m2 m3 m4 m5 m6 p7 q7 hb5 hb6 hb6' o6 x9 e6 cc0 cc1 cc2 cc3 cc4 cc5 cc6
  go_wp2_with fail
  go_loopw [11] (fun i wr => ∃ (j : Nat), j ≤ KP ∧ i = .int .i64 j ∧ wr.ownsRow W4.heap.size 5 1 (.slice D6 n1 d6) n1 ((List.replicate j 255 ++ s.b1.drop j).map by8) ∧ Below W4.heap.size W4 wr) (fun i _ => KP - (intOf i).toNat)
  case atStart => exact ⟨0, by omega, rfl, by simpa using HB6.out.2.2, HB6.out.1⟩
  case round =>
    obtain ⟨j, hj, rfl, o7, hb7⟩ := hrel
    by_cases hlt : j < KP
    · have i3 : (j : Int) < (KP : Int) := by omega
      have i4 : (0 : Int) ≤ (j : Int) := by omega
      have i5 : (j : Int) < (n1 : Int) := by omega
      obtain ⟨g, c', e, hgb, _⟩ := own_form o7 (by omega)
      injection e with e1 e2 e3
      subst e1
      obtain ⟨v0, hc0⟩ := own_cell o7 j (by omega)
      have hf0 := o7.frozenAt j
      have elen : s.b1.length = n1 := HE.out.2.2.1.symm
      have es : ((List.replicate j (255 : UInt8) ++ s.b1.drop j).map by8).set j (.int .u8 255) = (List.replicate (j + 1) (255 : UInt8) ++ s.b1.drop (j + 1)).map by8 := by
        rw [show (Value.int .u8 255) = by8 255 from rfl, ← List.map_set, List.drop_eq_getElem_cons (show j < s.b1.length by omega), List.set_append_right _ _ (by simp), List.length_replicate, Nat.sub_self, List.set_cons_zero, List.replicate_succ']
        simp
      have hst := (o7.stored j (.int .u8 255)).1
      rw [es] at hst
      have HN := Lib.hid (And.intro hst (hb7.setCell (p := ⟨g, j, none⟩) hgb (.int .u8 255)))
      clear o7 hb7 hst es
      go_wp2
      first | go_roundw | refine ⟨?rel, ?measure⟩
      case rel => exact ⟨j + 1, by omega, by go_num, HN.out.1, HN.out.2⟩
      case measure => simp [intOf]; omega
    · have HJ := Lib.hid (show j = KP by omega)
      rw [HJ.out, ← HNEW.out] at o7
      have x9 := heap_below HB4.out.2.2.2.1 hb7
      have HP := Lib.hid (And.intro o7 hb7)
      have cc0 : wr.cell? ⟨g9, 0, none⟩ = some (.int .i64 z) := box_cell x9 0 _ rfl
      have cc1 : wr.cell? ⟨g9, 1, none⟩ = some (.slice A n0 a) := box_cell x9 1 _ rfl
      have cc2 : wr.cell? ⟨g9, 2, none⟩ = some (.slice B n1 b) := box_cell x9 2 _ rfl
      have cc3 : wr.cell? ⟨g9, 3, none⟩ = some (.slice C2 N2 c2) := box_cell x9 3 _ rfl
      have cc4 : wr.cell? ⟨g9, 4, none⟩ = some (.int .i64 CN) := box_cell x9 4 _ rfl
      have cc5 : wr.cell? ⟨g9, 5, none⟩ = some (.int .i64 WT) := box_cell x9 5 _ rfl
      have cc6 : wr.cell? ⟨g9, 6, none⟩ = some (.bool DN) := box_cell x9 6 _ rfl
      clear o7 hb7 x9
      go_wp2_with (first | (at_builtin; refine Stopped.out ?_) | (at_make; refine Stopped.out ?_))
      refine (ref_with1 _ z CN WT A B C2 n0 n1 N2 a b c2 DN D6 n1 d6 1 (by decide)).mono ?_
      rintro e w9 ⟨rfl, hb9⟩
      have hb49 := bthen HP.out.2 hb9
      have y1 := heap_below HB4.out.2.2.1 hb49
      have s7 := set7 (.int .i64 z) (.slice A n0 a) (.slice D6 n1 d6) (.slice C2 N2 c2) (.int .i64 CN) (.int .i64 WT) (.bool DN) y1
      have r0 : w9.cell? ⟨w.heap.size + 1, 0, none⟩ = some (.int .i64 0) := box_cell y1 0 _ rfl
      have r1 : w9.cell? ⟨w.heap.size + 1, 1, none⟩ = some (.slice none 0 0) := box_cell y1 1 _ rfl
      have r2 : w9.cell? ⟨w.heap.size + 1, 2, none⟩ = some (.slice none 0 0) := box_cell y1 2 _ rfl
      have r3 : w9.cell? ⟨w.heap.size + 1, 3, none⟩ = some (.slice none 0 0) := box_cell y1 3 _ rfl
      have r4 : w9.cell? ⟨w.heap.size + 1, 4, none⟩ = some (.int .i64 0) := box_cell y1 4 _ rfl
      have r5 : w9.cell? ⟨w.heap.size + 1, 5, none⟩ = some (.int .i64 0) := box_cell y1 5 _ rfl
      have r6 : w9.cell? ⟨w.heap.size + 1, 6, none⟩ = some (.bool false) := box_cell y1 6 _ rfl
      have g0 := box_free y1 0
      have g1 := box_free y1 1
      have g2 := box_free y1 2
      have g3 := box_free y1 3
      have g4 := box_free y1 4
      have g5 := box_free y1 5
      have g6 := box_free y1 6
      have HZ := Lib.hid (And.intro s7 (And.intro hb9 hb49))
      clear s7 hb9 hb49 y1 cc0 cc1 cc2 cc3 cc4 cc5 cc6
      go_wp2
      obtain ⟨s7, hb9, hb49⟩ := HZ.out
      refine bodyPost_ret (results_c2 (P := Try.prog) rfl _ _ _ _ _ _ _ (by rfl) s7.1 Try.underlying37 rfl (by kernel_rfl)) rfl ?_
      have hbz := bthen HB4.out.1 hb49
      have hb3 := s7.2.below hbz hbz.size (fun x hx => by simp at hx; omega)
      have hb1W : w.heap.size + 1 < W4.heap.size := by have h1 := cell_lt (box_cell HB4.out.2.2.1 0 _ rfl); simpa using h1
      obtain ⟨e0, e1, e2, e3, e4, e5, e6⟩ := HE.out
      obtain ⟨f0, f1, f2, f3, f4⟩ := HE2.out
      have eA : setB (strikeF s) 1 NEW = { strikeF s with b1 := NEW } := by rw [setB]; simp
      rw [eA]
      have hnl : NEW.length = n1 := by rw [HNEW.out, List.length_append, List.length_replicate, List.length_drop, ← e2]; omega
      have slA := (own_sl' (own_below HP.out.1 hb9)).2.1
      have hD8 := (own_sl' HP.out.1).2.2
      have slA2 := slA.keep s7.2 (fun ad e hx => by have h1 := (hD8 ad e).1; simp at hx; omega)
      have hnD : Ap Xs D6 NEW.length := Ap.new hXs (fun ad e => Nat.le_trans HB4.out.1.size (hD8 ad e).1)
      have hnC : Ap Xs C2 (strikeF s).armed.length := Ap.either HOR.out.1 HAp.out.2.2 (fun h => by rw [h]) (fun x hx => by have h1 := hXs x hx; have h2 := HOR.out.2; omega)
      refine ⟨_, rfl, ⟨A, D6, C2, a, d6, c2, ?_, ?_, ?_, ?_, HAp.out.1.cast (by simp only [strikeF_b0]), hnD, hnC⟩, hb3⟩
      · simp only [refV, hnl, strikeF_size, strikeF_b0, strikeF_b1, ← e0, ← e1, ← e2, ← f0, ← f1, ← f2, ← f3]
      · simp only [hnl, strikeF_b0, ← e1]
        exact HC.out.1.below hb3
      · simp only [hnl, strikeF_b1, ← e2]
        exact slA2
      · simp only [← f0]
        rcases HOR.out.1 with ⟨g0, g1, g2⟩ | g
        · have hh := HC.out.2.2.below hb3
          rw [← g0, ← g1, ← g2, show n2 = N2 by rw [f0, g2, ← e3]] at hh
          exact hh
        · refine (HB4.out.2.2.2.2.below hb49).keep s7.2 (fun ad e hx => ?_)
          have h1 := g ad e
          have h2 := HOR.out.2
          simp at hx; omega
theorem ref_Erase (w : World) {v : List Value} {s : FSt} {Xs : List Nat} (h : RFl w v s Xs) (hk : FOk s) (n : Int) (hXs : ∀ x ∈ Xs, x < w.heap.size) :
    Calls Try.prog 82 #[.agg v.toArray, .int .i64 n] w fun e w' => ∃ v', e = .returned (.tuple #[.agg v'.toArray, .int .i64 ((eraF s n).2 : Nat)]) ∧ RFl w' v' (eraF s n).1 Xs ∧ Below w.heap.size w w' := by
  by_cases hr : refusedF s n ≠ 0
  · rw [eraF, if_pos hr]
    exact ref_Erase_no w h n hr
  · have hr0 : refusedF s n = 0 := by omega
    obtain ⟨hn, hd⟩ := refused_zero hr0
    rw [eraF, if_neg hr]
    rcases hn with rfl | rfl
    · have eb : bankF s (0 : Int).toNat = s.b0 := rfl
      rw [eb]
      cases hst : struckF s
      · rw [show eraL s s.b0 = [] by rw [eraL, hst]; rfl]
        exact ref_Erase_n0 w h hk hr0 hst hXs
      · by_cases hkp : s.b0.length ≤ keepF s
        · rw [show eraL s s.b0 = [] by rw [eraL, hst, if_pos rfl, if_pos hkp]]
          exact ref_Erase_all0 w h hk hr0 hst hkp hXs
        · rw [show eraL s s.b0 = List.replicate (keepF s) 255 ++ s.b0.drop (keepF s) by rw [eraL, hst, if_pos rfl, if_neg hkp]]
          exact ref_Erase_part0 w h hk hr0 hst (by omega) hXs
    · have eb : bankF s (1 : Int).toNat = s.b1 := rfl
      rw [eb]
      cases hst : struckF s
      · rw [show eraL s s.b1 = [] by rw [eraL, hst]; rfl]
        exact ref_Erase_n1 w h hk hr0 hst hXs
      · by_cases hkp : s.b1.length ≤ keepF s
        · rw [show eraL s s.b1 = [] by rw [eraL, hst, if_pos rfl, if_pos hkp]]
          exact ref_Erase_all1 w h hk hr0 hst hkp hXs
        · rw [show eraL s s.b1 = List.replicate (keepF s) 255 ++ s.b1.drop (keepF s) by rw [eraL, hst, if_pos rfl, if_neg hkp]]
          exact ref_Erase_part1 w h hk hr0 hst (by omega) hXs
end Go.Proofs.Ytpjmbhhfpoamnaa
