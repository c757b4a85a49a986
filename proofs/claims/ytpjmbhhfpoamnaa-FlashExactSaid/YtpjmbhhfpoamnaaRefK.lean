import Derived.Test.YtpjmbhhfpoamnaaRefJ
set_option linter.unusedVariables false
set_option linter.unusedSimpArgs false
namespace Go.Proofs.Ytpjmbhhfpoamnaa
open Go.RowKit
set_option maxRecDepth 100000 in
set_option maxHeartbeats 1600000 in
theorem ref_Append_no (w : World) {v : List Value} {s : FSt} {Xs : List Nat} (h : RFl w v s Xs) (n : Int) (hr : refusedF s n ≠ 0) (D : Option Addr) (k d : Nat) :
    Calls Try.prog 78 #[.agg v.toArray, .int .i64 n, .slice D k d] w fun e w' => ∃ v', e = .returned (.tuple #[.agg v'.toArray, .int .i64 (refusedF s n : Nat)]) ∧ RFl w' v' s Xs ∧ Below w.heap.size w w' := by
  obtain ⟨A, B, C, a, b, c, rfl, hA, hB, hC, hAp⟩ := h.out
  have HAp := Lib.hid hAp
  clear hAp
  rw [refV_eq]
  have hRf := fun w1 => ref_refusedG w1 s A B C a b c n
  obtain ⟨rf, hrf⟩ : ∃ rf, rf = refusedF s n := ⟨_, rfl⟩
  rw [← hrf] at hRf hr ⊢
  have i0 : ((rf : Int) != 0) = true := by simp; omega
  clear hr hrf
  obtain ⟨z, hz⟩ : ∃ z, z = s.size := ⟨_, rfl⟩
  obtain ⟨n0, hn0⟩ : ∃ z, z = s.b0.length := ⟨_, rfl⟩
  obtain ⟨n1, hn1⟩ : ∃ z, z = s.b1.length := ⟨_, rfl⟩
  obtain ⟨n2, hn2⟩ : ∃ z, z = s.armed.length := ⟨_, rfl⟩
  obtain ⟨cn, hcn⟩ : ∃ z, z = s.count := ⟨_, rfl⟩
  obtain ⟨wt, hwt⟩ : ∃ z, z = s.writes := ⟨_, rfl⟩
  obtain ⟨dn, hdn⟩ : ∃ z, z = s.down := ⟨_, rfl⟩
  have HE := Lib.hid (And.intro hz (And.intro hn0 (And.intro hn1 (And.intro hn2 (And.intro hcn (And.intro hwt hdn))))))
  rw [← hz, ← hn0, ← hn1, ← hn2, ← hcn, ← hwt, ← hdn] at hRf
  rw [← hz, ← hn0, ← hn1, ← hn2, ← hcn, ← hwt, ← hdn]
  rw [← hn0] at hA; rw [← hn1] at hB; rw [← hn2] at hC
  obtain ⟨W1, hW1⟩ : ∃ W1, W1 = (w.alloc (.cells #[.int .i64 z, .slice A n0 a, .slice B n1 b, .slice C n2 c, .int .i64 cn, .int .i64 wt, .bool dn] 37)).alloc (.cells #[.int .i64 0, .slice none 0 0, .slice none 0 0, .slice none 0 0, .int .i64 0, .int .i64 0, .bool false] 37) := ⟨_, rfl⟩
  have hb1 : Below w.heap.size w W1 := by rw [hW1]; exact below2 _ _ _
  have x0 : W1.heap[w.heap.size]? = some (.cells #[.int .i64 z, .slice A n0 a, .slice B n1 b, .slice C n2 c, .int .i64 cn, .int .i64 wt, .bool dn] 37 (0, 0)) := by rw [hW1]; exact heap_alloc1 _ _ _
  have x1 : W1.heap[w.heap.size + 1]? = some (.cells #[.int .i64 0, .slice none 0 0, .slice none 0 0, .slice none 0 0, .int .i64 0, .int .i64 0, .bool false] 37 (0, 0)) := by rw [hW1]; exact heap_alloc2 _ _ _
  have m0 : W1.cell? ⟨w.heap.size, 0, none⟩ = some (.int .i64 z) := box_cell x0 0 _ rfl
  have m1 : W1.cell? ⟨w.heap.size, 1, none⟩ = some (.slice A n0 a) := box_cell x0 1 _ rfl
  have m2 : W1.cell? ⟨w.heap.size, 2, none⟩ = some (.slice B n1 b) := box_cell x0 2 _ rfl
  have m3 : W1.cell? ⟨w.heap.size, 3, none⟩ = some (.slice C n2 c) := box_cell x0 3 _ rfl
  have m4 : W1.cell? ⟨w.heap.size, 4, none⟩ = some (.int .i64 cn) := box_cell x0 4 _ rfl
  have m5 : W1.cell? ⟨w.heap.size, 5, none⟩ = some (.int .i64 wt) := box_cell x0 5 _ rfl
  have m6 : W1.cell? ⟨w.heap.size, 6, none⟩ = some (.bool dn) := box_cell x0 6 _ rfl
  have HR := Lib.hid (hRf W1)
  have HX := Lib.hid (And.intro hb1 (And.intro x0 x1))
  have HC := Lib.hid (And.intro hA (And.intro hB hC))
  clear hA hB hC hb1 x0 x1 h hRf hz hn0 hn1 hn2 hcn hwt hdn
  go_enter Try.func78, Try.ntmps78
  go_wp2_with fail
  rw [← hW1]
  clear hW1
  refine HR.out.mono ?_
  rintro e w1 ⟨rfl, hb1⟩
  have y0 := heap_below HX.out.2.1 hb1
  have y1 := heap_below HX.out.2.2 hb1
  have HB := Lib.hid (And.intro (bthen HX.out.1 hb1) y1)
  clear m0 m1 m2 m3 m4 m5 m6
  have m0 : w1.cell? ⟨w.heap.size, 0, none⟩ = some (.int .i64 z) := box_cell y0 0 _ rfl
  have m1 : w1.cell? ⟨w.heap.size, 1, none⟩ = some (.slice A n0 a) := box_cell y0 1 _ rfl
  have m2 : w1.cell? ⟨w.heap.size, 2, none⟩ = some (.slice B n1 b) := box_cell y0 2 _ rfl
  have m3 : w1.cell? ⟨w.heap.size, 3, none⟩ = some (.slice C n2 c) := box_cell y0 3 _ rfl
  have m4 : w1.cell? ⟨w.heap.size, 4, none⟩ = some (.int .i64 cn) := box_cell y0 4 _ rfl
  have m5 : w1.cell? ⟨w.heap.size, 5, none⟩ = some (.int .i64 wt) := box_cell y0 5 _ rfl
  have m6 : w1.cell? ⟨w.heap.size, 6, none⟩ = some (.bool dn) := box_cell y0 6 _ rfl
  have r0 : w1.cell? ⟨w.heap.size + 1, 0, none⟩ = some (.int .i64 0) := box_cell y1 0 _ rfl
  have r1 : w1.cell? ⟨w.heap.size + 1, 1, none⟩ = some (.slice none 0 0) := box_cell y1 1 _ rfl
  have r2 : w1.cell? ⟨w.heap.size + 1, 2, none⟩ = some (.slice none 0 0) := box_cell y1 2 _ rfl
  have r3 : w1.cell? ⟨w.heap.size + 1, 3, none⟩ = some (.slice none 0 0) := box_cell y1 3 _ rfl
  have r4 : w1.cell? ⟨w.heap.size + 1, 4, none⟩ = some (.int .i64 0) := box_cell y1 4 _ rfl
  have r5 : w1.cell? ⟨w.heap.size + 1, 5, none⟩ = some (.int .i64 0) := box_cell y1 5 _ rfl
  have r6 : w1.cell? ⟨w.heap.size + 1, 6, none⟩ = some (.bool false) := box_cell y1 6 _ rfl
  have g0 := box_free y1 0
  have g1 := box_free y1 1
  have g2 := box_free y1 2
  have g3 := box_free y1 3
  have g4 := box_free y1 4
  have g5 := box_free y1 5
  have g6 := box_free y1 6
  clear y0 y1 hb1 HR
  go_wp2
  have s7 := set7 (.int .i64 (z : Int)) (.slice A n0 a) (.slice B n1 b) (.slice C n2 c) (.int .i64 (cn : Int)) (.int .i64 (wt : Int)) (.bool dn) HB.out.2
  refine bodyPost_ret (results_c2 (P := Try.prog) rfl _ _ _ _ _ _ _ (by rfl) s7.1 Try.underlying37 rfl (by kernel_rfl)) rfl ?_
  have hb3 := s7.2.below HB.out.1 HB.out.1.size (fun x hx => by simp at hx; omega)
  refine ⟨_, rfl, ⟨A, B, C, a, b, c, ?_, ?_, ?_, ?_, HAp.out⟩, hb3⟩
  · obtain ⟨e0, e1, e2, e3, e4, e5, e6⟩ := HE.out
    simp only [refV, ← e0, ← e1, ← e2, ← e3, ← e4, ← e5, ← e6]
  · rw [← HE.out.2.1]; exact HC.out.1.below hb3
  · rw [← HE.out.2.2.1]; exact HC.out.2.1.below hb3
  · rw [← HE.out.2.2.2.1]; exact HC.out.2.2.below hb3
set_option maxRecDepth 100000 in
set_option maxHeartbeats 1600000 in
theorem ref_Append_full (w : World) {v : List Value} {s : FSt} {Xs : List Nat} (h : RFl w v s Xs) (hk : FOk s) (n : Int) (hr : refusedF s n = 0) (D : Option Addr) (k d : Nat) (hkm : k ≤ 140737488355328) (hf : s.size < (bankF s n.toNat).length + k) :
    Calls Try.prog 78 #[.agg v.toArray, .int .i64 n, .slice D k d] w fun e w' => ∃ v', e = .returned (.tuple #[.agg v'.toArray, .int .i64 122]) ∧ RFl w' v' s Xs ∧ Below w.heap.size w w' := by
  obtain ⟨A, B, C, a, b, c, rfl, hA, hB, hC, hAp⟩ := h.out
  have HAp := Lib.hid hAp
  clear hAp
  rw [refV_eq]
  have hRf := fun w1 => ref_refusedG w1 s A B C a b c n
  obtain ⟨hn, hd⟩ := refused_zero hr
  obtain ⟨X, x, y, hX, hx, hxl⟩ : ∃ (X : Option Addr) (x y : Nat), ((n = 0 ∧ X = A ∧ x = s.b0.length ∧ y = a) ∨ (n ≠ 0 ∧ X = B ∧ x = s.b1.length ∧ y = b)) ∧ x = (bankF s n.toNat).length ∧ x ≤ s.size := by
    rcases hn with rfl | rfl
    · exact ⟨A, _, a, .inl ⟨rfl, rfl, rfl, rfl⟩, rfl, hk.b0⟩
    · exact ⟨B, _, b, .inr ⟨by decide, rfl, rfl, rfl⟩, rfl, hk.b1⟩
  have hG := fun w1 => ref_bankG w1 s.size s.count s.writes A B C s.b0.length s.b1.length s.armed.length a b c s.down n hX
  rw [← hx] at hf
  have hzz := hk.size
  have HG := Lib.hid hG
  rw [hr] at hRf
  clear hX hx hn hd hk hr hG
  obtain ⟨z, hz⟩ : ∃ z, z = s.size := ⟨_, rfl⟩
  obtain ⟨n0, hn0⟩ : ∃ z, z = s.b0.length := ⟨_, rfl⟩
  obtain ⟨n1, hn1⟩ : ∃ z, z = s.b1.length := ⟨_, rfl⟩
  obtain ⟨n2, hn2⟩ : ∃ z, z = s.armed.length := ⟨_, rfl⟩
  obtain ⟨cn, hcn⟩ : ∃ z, z = s.count := ⟨_, rfl⟩
  obtain ⟨wt, hwt⟩ : ∃ z, z = s.writes := ⟨_, rfl⟩
  obtain ⟨dn, hdn⟩ : ∃ z, z = s.down := ⟨_, rfl⟩
  have HE := Lib.hid (And.intro hz (And.intro hn0 (And.intro hn1 (And.intro hn2 (And.intro hcn (And.intro hwt hdn))))))
  rw [← hz, ← hn0, ← hn1, ← hn2, ← hcn, ← hwt, ← hdn] at hRf
  rw [← hz, ← hn0, ← hn1, ← hn2, ← hcn, ← hwt, ← hdn]
  rw [← hn0] at hA; rw [← hn1] at hB; rw [← hn2] at hC
  rw [← hz, ← hn0, ← hn1, ← hn2, ← hcn, ← hwt, ← hdn] at HG
  rw [← hz] at hf hxl hzz
  obtain ⟨W1, hW1⟩ : ∃ W1, W1 = (w.alloc (.cells #[.int .i64 z, .slice A n0 a, .slice B n1 b, .slice C n2 c, .int .i64 cn, .int .i64 wt, .bool dn] 37)).alloc (.cells #[.int .i64 0, .slice none 0 0, .slice none 0 0, .slice none 0 0, .int .i64 0, .int .i64 0, .bool false] 37) := ⟨_, rfl⟩
  have hb1 : Below w.heap.size w W1 := by rw [hW1]; exact below2 _ _ _
  have x0 : W1.heap[w.heap.size]? = some (.cells #[.int .i64 z, .slice A n0 a, .slice B n1 b, .slice C n2 c, .int .i64 cn, .int .i64 wt, .bool dn] 37 (0, 0)) := by rw [hW1]; exact heap_alloc1 _ _ _
  have x1 : W1.heap[w.heap.size + 1]? = some (.cells #[.int .i64 0, .slice none 0 0, .slice none 0 0, .slice none 0 0, .int .i64 0, .int .i64 0, .bool false] 37 (0, 0)) := by rw [hW1]; exact heap_alloc2 _ _ _
  have m0 : W1.cell? ⟨w.heap.size, 0, none⟩ = some (.int .i64 z) := box_cell x0 0 _ rfl
  have m1 : W1.cell? ⟨w.heap.size, 1, none⟩ = some (.slice A n0 a) := box_cell x0 1 _ rfl
  have m2 : W1.cell? ⟨w.heap.size, 2, none⟩ = some (.slice B n1 b) := box_cell x0 2 _ rfl
  have m3 : W1.cell? ⟨w.heap.size, 3, none⟩ = some (.slice C n2 c) := box_cell x0 3 _ rfl
  have m4 : W1.cell? ⟨w.heap.size, 4, none⟩ = some (.int .i64 cn) := box_cell x0 4 _ rfl
  have m5 : W1.cell? ⟨w.heap.size, 5, none⟩ = some (.int .i64 wt) := box_cell x0 5 _ rfl
  have m6 : W1.cell? ⟨w.heap.size, 6, none⟩ = some (.bool dn) := box_cell x0 6 _ rfl
  have HR := Lib.hid (hRf W1)
  have HX := Lib.hid (And.intro hb1 (And.intro x0 x1))
  have HC := Lib.hid (And.intro hA (And.intro hB hC))
  have i1 : (z : Int) < (x : Int) + (k : Int) := by omega
  have i2 : IntKind.i64.wrap ((x : Int) + (k : Int)) = (x : Int) + (k : Int) := by rw [IntKind.wrap_i64]; omega
  clear hA hB hC hb1 x0 x1 h hRf hz hn0 hn1 hn2 hcn hwt hdn
  go_enter Try.func78, Try.ntmps78
  go_wp2_with fail
  rw [← hW1]
  clear hW1
  refine HR.out.mono ?_
  rintro e w1 ⟨rfl, hb1⟩
  have y0 := heap_below HX.out.2.1 hb1
  have y1 := heap_below HX.out.2.2 hb1
  have HB := Lib.hid (And.intro (bthen HX.out.1 hb1) (And.intro y0 y1))
  clear m0 m1 m2 m3 m4 m5 m6
  have m0 : w1.cell? ⟨w.heap.size, 0, none⟩ = some (.int .i64 z) := box_cell y0 0 _ rfl
  have m1 : w1.cell? ⟨w.heap.size, 1, none⟩ = some (.slice A n0 a) := box_cell y0 1 _ rfl
  have m2 : w1.cell? ⟨w.heap.size, 2, none⟩ = some (.slice B n1 b) := box_cell y0 2 _ rfl
  have m3 : w1.cell? ⟨w.heap.size, 3, none⟩ = some (.slice C n2 c) := box_cell y0 3 _ rfl
  have m4 : w1.cell? ⟨w.heap.size, 4, none⟩ = some (.int .i64 cn) := box_cell y0 4 _ rfl
  have m5 : w1.cell? ⟨w.heap.size, 5, none⟩ = some (.int .i64 wt) := box_cell y0 5 _ rfl
  have m6 : w1.cell? ⟨w.heap.size, 6, none⟩ = some (.bool dn) := box_cell y0 6 _ rfl
  clear y0 y1 hb1 HR
  go_wp2_with fail
  go_region_held3 (fun w' => w'.cell? ⟨w.heap.size, 0, none⟩ = some (.int .i64 z) ∧ w'.cell? ⟨w.heap.size, 1, none⟩ = some (.slice A n0 a) ∧ w'.cell? ⟨w.heap.size, 2, none⟩ = some (.slice B n1 b) ∧ w'.cell? ⟨w.heap.size, 3, none⟩ = some (.slice C n2 c) ∧ w'.cell? ⟨w.heap.size, 4, none⟩ = some (.int .i64 cn) ∧ w'.cell? ⟨w.heap.size, 5, none⟩ = some (.int .i64 wt) ∧ w'.cell? ⟨w.heap.size, 6, none⟩ = some (.bool dn))
    (first | exact ⟨m0, m1, m2, m3, m4, m5, m6⟩ | exact p7 | go_keep)
    (first
      | (go_at_call 119; refine (HG.out _).mono ?_; rintro e w2 ⟨rfl, hb2⟩; have p7 : w2.cell? ⟨w.heap.size, 0, none⟩ = some (.int .i64 z) ∧ w2.cell? ⟨w.heap.size, 1, none⟩ = some (.slice A n0 a) ∧ w2.cell? ⟨w.heap.size, 2, none⟩ = some (.slice B n1 b) ∧ w2.cell? ⟨w.heap.size, 3, none⟩ = some (.slice C n2 c) ∧ w2.cell? ⟨w.heap.size, 4, none⟩ = some (.int .i64 cn) ∧ w2.cell? ⟨w.heap.size, 5, none⟩ = some (.int .i64 wt) ∧ w2.cell? ⟨w.heap.size, 6, none⟩ = some (.bool dn) := (let y := heap_below (w := w1.drew) HB.out.2.1 hb2; ⟨box_cell y 0 _ rfl, box_cell y 1 _ rfl, box_cell y 2 _ rfl, box_cell y 3 _ rfl, box_cell y 4 _ rfl, box_cell y 5 _ rfl, box_cell y 6 _ rfl⟩)))
  all_goals
    have hb2' : Below w1.heap.size w1 w2 := bthen ((Below.refl _ _).drew) hb2
    have y0 := heap_below HB.out.2.1 hb2'
    have y1 := heap_below HB.out.2.2 hb2'
    have HZ := Lib.hid (And.intro (bthen HB.out.1 hb2') y1)
    clear m0 m1 m2 m3 m4 m5 m6
    have m0 : w2.cell? ⟨w.heap.size, 0, none⟩ = some (.int .i64 z) := box_cell y0 0 _ rfl
    have m1 : w2.cell? ⟨w.heap.size, 1, none⟩ = some (.slice A n0 a) := box_cell y0 1 _ rfl
    have m2 : w2.cell? ⟨w.heap.size, 2, none⟩ = some (.slice B n1 b) := box_cell y0 2 _ rfl
    have m3 : w2.cell? ⟨w.heap.size, 3, none⟩ = some (.slice C n2 c) := box_cell y0 3 _ rfl
    have m4 : w2.cell? ⟨w.heap.size, 4, none⟩ = some (.int .i64 cn) := box_cell y0 4 _ rfl
    have m5 : w2.cell? ⟨w.heap.size, 5, none⟩ = some (.int .i64 wt) := box_cell y0 5 _ rfl
    have m6 : w2.cell? ⟨w.heap.size, 6, none⟩ = some (.bool dn) := box_cell y0 6 _ rfl
    have r0 : w2.cell? ⟨w.heap.size + 1, 0, none⟩ = some (.int .i64 0) := box_cell y1 0 _ rfl
    have r1 : w2.cell? ⟨w.heap.size + 1, 1, none⟩ = some (.slice none 0 0) := box_cell y1 1 _ rfl
    have r2 : w2.cell? ⟨w.heap.size + 1, 2, none⟩ = some (.slice none 0 0) := box_cell y1 2 _ rfl
    have r3 : w2.cell? ⟨w.heap.size + 1, 3, none⟩ = some (.slice none 0 0) := box_cell y1 3 _ rfl
    have r4 : w2.cell? ⟨w.heap.size + 1, 4, none⟩ = some (.int .i64 0) := box_cell y1 4 _ rfl
    have r5 : w2.cell? ⟨w.heap.size + 1, 5, none⟩ = some (.int .i64 0) := box_cell y1 5 _ rfl
    have r6 : w2.cell? ⟨w.heap.size + 1, 6, none⟩ = some (.bool false) := box_cell y1 6 _ rfl
    have g0 := box_free y1 0
    have g1 := box_free y1 1
    have g2 := box_free y1 2
    have g3 := box_free y1 3
    have g4 := box_free y1 4
    have g5 := box_free y1 5
    have g6 := box_free y1 6
    clear y0 y1 hb2 hb2' p7
    go_wp2
    have s7 := set7 (.int .i64 (z : Int)) (.slice A n0 a) (.slice B n1 b) (.slice C n2 c) (.int .i64 (cn : Int)) (.int .i64 (wt : Int)) (.bool dn) HZ.out.2
    refine bodyPost_ret (results_c2 (P := Try.prog) rfl _ _ _ _ _ _ _ (by rfl) s7.1 Try.underlying37 rfl (by kernel_rfl)) rfl ?_
    have hb3 := s7.2.below HZ.out.1 HZ.out.1.size (fun x hx => by simp at hx; omega)
    refine ⟨_, rfl, ⟨A, B, C, a, b, c, ?_, ?_, ?_, ?_, HAp.out⟩, hb3⟩
    · obtain ⟨e0, e1, e2, e3, e4, e5, e6⟩ := HE.out
      simp only [refV, ← e0, ← e1, ← e2, ← e3, ← e4, ← e5, ← e6]
    · rw [← HE.out.2.1]; exact HC.out.1.below hb3
    · rw [← HE.out.2.2.1]; exact HC.out.2.1.below hb3
    · rw [← HE.out.2.2.2.1]; exact HC.out.2.2.below hb3
set_option maxRecDepth 100000 in
set_option maxHeartbeats 3200000 in
theorem ref_Append_ok0 (w : World) {v : List Value} {s : FSt} {Xs : List Nat} (h : RFl w v s Xs) (hk : FOk s) (hr : refusedF s 0 = 0) (hst : struckF s = false) {D : Option Addr} {k d : Nat} {l : List UInt8} (hb : Sl w 1 D k d (l.map by8)) (hkm : k ≤ 140737488355328) (hf : s.b0.length + k ≤ s.size) (hXs : ∀ x ∈ Xs, x < w.heap.size) :
    Calls Try.prog 78 #[.agg v.toArray, .int .i64 0, .slice D k d] w fun e w' => ∃ v', e = .returned (.tuple #[.agg v'.toArray, .int .i64 0]) ∧ RFl w' v' (addB (strikeF s) 0 (l)) Xs ∧ Below w.heap.size w w' := by
  have hkl : l.length = k := by simpa using hb.len
  have hd1 := hb.le; have hd2 := hb.max
  obtain ⟨A, B, C, a, b, c, rfl, hA, hB, hC, hAp⟩ := h.out
  have HAp := Lib.hid hAp
  clear hAp
  rw [refV_eq]
  have hRf := fun w1 => ref_refusedG w1 s A B C a b c 0
  have hG := fun w1 => ref_bankG0 w1 s.size s.count s.writes A B C s.b0.length s.b1.length s.armed.length a b c s.down
  have hSt := fun w1 (h1 : Sl w1 2 C s.armed.length c (crashL s.armed)) => ref_struck w1 s hk s.size A B C s.b0.length s.b1.length a b c h1
  have HG := Lib.hid hG
  have hzz := hk.size
  have HTk : Hid (s.b0.take s.size = s.b0) := Lib.hid (List.take_of_length_le hk.b0)
  rw [hr] at hRf
  clear hr hG
  obtain ⟨z, hz⟩ : ∃ z, z = s.size := ⟨_, rfl⟩
  obtain ⟨n0, hn0⟩ : ∃ z, z = s.b0.length := ⟨_, rfl⟩
  obtain ⟨n1, hn1⟩ : ∃ z, z = s.b1.length := ⟨_, rfl⟩
  obtain ⟨n2, hn2⟩ : ∃ z, z = s.armed.length := ⟨_, rfl⟩
  obtain ⟨cn, hcn⟩ : ∃ z, z = s.count := ⟨_, rfl⟩
  obtain ⟨wt, hwt⟩ : ∃ z, z = s.writes := ⟨_, rfl⟩
  obtain ⟨dn, hdn⟩ : ∃ z, z = s.down := ⟨_, rfl⟩
  have HE := Lib.hid (And.intro hz (And.intro hn0 (And.intro hn1 (And.intro hn2 (And.intro hcn (And.intro hwt hdn))))))
  rw [← hz, ← hn0, ← hn1, ← hn2, ← hcn, ← hwt, ← hdn] at hRf
  rw [← hz, ← hn0, ← hn1, ← hn2, ← hcn, ← hwt, ← hdn]
  rw [← hn0] at hA; rw [← hn1] at hB; rw [← hn2] at hC
  rw [← hz, ← hn0, ← hn1, ← hn2, ← hcn, ← hwt, ← hdn] at HG hSt
  rw [← hz] at hf hzz HTk
  rw [← hn0] at hf
  obtain ⟨N2, hN2⟩ : ∃ x, x = (strikeF s).armed.length := ⟨_, rfl⟩
  obtain ⟨CN, hCN⟩ : ∃ x, x = (strikeF s).count := ⟨_, rfl⟩
  obtain ⟨WT, hWT⟩ : ∃ x, x = (strikeF s).writes := ⟨_, rfl⟩
  obtain ⟨DN, hDN⟩ : ∃ x, x = (strikeF s).down := ⟨_, rfl⟩
  obtain ⟨KP, hKP⟩ : ∃ x, x = keepF s := ⟨_, rfl⟩
  have hSt : ∀ w1, Sl w1 2 C n2 c (crashL s.armed) → Calls Try.prog 120 #[.agg #[.int .i64 z, .slice A n0 a, .slice B n1 b, .slice C n2 c, .int .i64 cn, .int .i64 wt, .bool dn]] w1 fun e w' => ∃ C2 c2, e = .returned (.tuple #[.agg #[.int .i64 z, .slice A n0 a, .slice B n1 b, .slice C2 N2 c2, .int .i64 CN, .int .i64 WT, .bool DN], .bool false, .int .i64 KP]) ∧ Sl w' 2 C2 N2 c2 (crashL (strikeF s).armed) ∧ ((C2 = C ∧ c2 = c ∧ (strikeF s).armed = s.armed) ∨ ∀ ad, C2 = some ad → w1.heap.size ≤ ad.block) ∧ Below w1.heap.size w1 w' := by
    rw [hN2, hCN, hWT, hDN, hKP, ← hst]
    exact hSt
  have HSt := Lib.hid hSt
  have HE2 := Lib.hid (And.intro hN2 (And.intro hCN (And.intro hWT (And.intro hDN hKP))))
  clear hSt hN2 hCN hWT hDN hKP hst
  obtain ⟨W1, hW1⟩ : ∃ W1, W1 = (w.alloc (.cells #[.int .i64 z, .slice A n0 a, .slice B n1 b, .slice C n2 c, .int .i64 cn, .int .i64 wt, .bool dn] 37)).alloc (.cells #[.int .i64 0, .slice none 0 0, .slice none 0 0, .slice none 0 0, .int .i64 0, .int .i64 0, .bool false] 37) := ⟨_, rfl⟩
  have hb1 : Below w.heap.size w W1 := by rw [hW1]; exact below2 _ _ _
  have x0 : W1.heap[w.heap.size]? = some (.cells #[.int .i64 z, .slice A n0 a, .slice B n1 b, .slice C n2 c, .int .i64 cn, .int .i64 wt, .bool dn] 37 (0, 0)) := by rw [hW1]; exact heap_alloc1 _ _ _
  have x1 : W1.heap[w.heap.size + 1]? = some (.cells #[.int .i64 0, .slice none 0 0, .slice none 0 0, .slice none 0 0, .int .i64 0, .int .i64 0, .bool false] 37 (0, 0)) := by rw [hW1]; exact heap_alloc2 _ _ _
  have m0 : W1.cell? ⟨w.heap.size, 0, none⟩ = some (.int .i64 z) := box_cell x0 0 _ rfl
  have m1 : W1.cell? ⟨w.heap.size, 1, none⟩ = some (.slice A n0 a) := box_cell x0 1 _ rfl
  have m2 : W1.cell? ⟨w.heap.size, 2, none⟩ = some (.slice B n1 b) := box_cell x0 2 _ rfl
  have m3 : W1.cell? ⟨w.heap.size, 3, none⟩ = some (.slice C n2 c) := box_cell x0 3 _ rfl
  have m4 : W1.cell? ⟨w.heap.size, 4, none⟩ = some (.int .i64 cn) := box_cell x0 4 _ rfl
  have m5 : W1.cell? ⟨w.heap.size, 5, none⟩ = some (.int .i64 wt) := box_cell x0 5 _ rfl
  have m6 : W1.cell? ⟨w.heap.size, 6, none⟩ = some (.bool dn) := box_cell x0 6 _ rfl
  have HR := Lib.hid (hRf W1)
  have HX := Lib.hid (And.intro hb1 (And.intro x0 x1))
  have HC := Lib.hid (And.intro hA (And.intro hB (And.intro hC hb)))
  have i1 : decide ((z : Int) < (n0 : Int) + (k : Int)) = false := decide_eq_false (by omega)
  have i2 : IntKind.i64.wrap ((n0 : Int) + (k : Int)) = (n0 : Int) + (k : Int) := by rw [IntKind.wrap_i64]; omega
  clear hA hB hC hb1 x0 x1 h hk hRf hz hn0 hn1 hn2 hcn hwt hdn hb
  go_enter Try.func78, Try.ntmps78
  go_wp2_with fail
  rw [← hW1]
  clear hW1
  refine HR.out.mono ?_
  rintro e w1 ⟨rfl, hb1⟩
  have y0 := heap_below HX.out.2.1 hb1
  have HB := Lib.hid (And.intro (bthen HX.out.1 hb1) (And.intro y0 hb1))
  clear m0 m1 m2 m3 m4 m5 m6
  have m0 : w1.cell? ⟨w.heap.size, 0, none⟩ = some (.int .i64 z) := box_cell y0 0 _ rfl
  have m1 : w1.cell? ⟨w.heap.size, 1, none⟩ = some (.slice A n0 a) := box_cell y0 1 _ rfl
  have m2 : w1.cell? ⟨w.heap.size, 2, none⟩ = some (.slice B n1 b) := box_cell y0 2 _ rfl
  have m3 : w1.cell? ⟨w.heap.size, 3, none⟩ = some (.slice C n2 c) := box_cell y0 3 _ rfl
  have m4 : w1.cell? ⟨w.heap.size, 4, none⟩ = some (.int .i64 cn) := box_cell y0 4 _ rfl
  have m5 : w1.cell? ⟨w.heap.size, 5, none⟩ = some (.int .i64 wt) := box_cell y0 5 _ rfl
  have m6 : w1.cell? ⟨w.heap.size, 6, none⟩ = some (.bool dn) := box_cell y0 6 _ rfl
  clear y0 hb1 HR
  go_wp2_with fail
  go_region_held3 (fun w' => w'.cell? ⟨w.heap.size, 0, none⟩ = some (.int .i64 z) ∧ w'.cell? ⟨w.heap.size, 1, none⟩ = some (.slice A n0 a) ∧ w'.cell? ⟨w.heap.size, 2, none⟩ = some (.slice B n1 b) ∧ w'.cell? ⟨w.heap.size, 3, none⟩ = some (.slice C n2 c) ∧ w'.cell? ⟨w.heap.size, 4, none⟩ = some (.int .i64 cn) ∧ w'.cell? ⟨w.heap.size, 5, none⟩ = some (.int .i64 wt) ∧ w'.cell? ⟨w.heap.size, 6, none⟩ = some (.bool dn))
    (first | exact ⟨m0, m1, m2, m3, m4, m5, m6⟩ | exact p7 | go_keep)
    (first
      | (go_at_call 119; refine (HG.out _).mono ?_; rintro e w2 ⟨rfl, hb2⟩; have p7 : w2.cell? ⟨w.heap.size, 0, none⟩ = some (.int .i64 z) ∧ w2.cell? ⟨w.heap.size, 1, none⟩ = some (.slice A n0 a) ∧ w2.cell? ⟨w.heap.size, 2, none⟩ = some (.slice B n1 b) ∧ w2.cell? ⟨w.heap.size, 3, none⟩ = some (.slice C n2 c) ∧ w2.cell? ⟨w.heap.size, 4, none⟩ = some (.int .i64 cn) ∧ w2.cell? ⟨w.heap.size, 5, none⟩ = some (.int .i64 wt) ∧ w2.cell? ⟨w.heap.size, 6, none⟩ = some (.bool dn) := (let y := heap_below (w := w1.drew) HB.out.2.1 hb2; ⟨box_cell y 0 _ rfl, box_cell y 1 _ rfl, box_cell y 2 _ rfl, box_cell y 3 _ rfl, box_cell y 4 _ rfl, box_cell y 5 _ rfl, box_cell y 6 _ rfl⟩)))
  have hb2' : Below w1.heap.size w1 w2 := bthen ((Below.refl _ _).drew) hb2
  have y0 := heap_below HB.out.2.1 hb2'
  have HB2 := Lib.hid (And.intro (bthen HB.out.1 hb2') (And.intro y0 (bthen HB.out.2.2 hb2')))
  clear m0 m1 m2 m3 m4 m5 m6 HB p7
  have m0 : w2.cell? ⟨w.heap.size, 0, none⟩ = some (.int .i64 z) := box_cell y0 0 _ rfl
  have m1 : w2.cell? ⟨w.heap.size, 1, none⟩ = some (.slice A n0 a) := box_cell y0 1 _ rfl
  have m2 : w2.cell? ⟨w.heap.size, 2, none⟩ = some (.slice B n1 b) := box_cell y0 2 _ rfl
  have m3 : w2.cell? ⟨w.heap.size, 3, none⟩ = some (.slice C n2 c) := box_cell y0 3 _ rfl
  have m4 : w2.cell? ⟨w.heap.size, 4, none⟩ = some (.int .i64 cn) := box_cell y0 4 _ rfl
  have m5 : w2.cell? ⟨w.heap.size, 5, none⟩ = some (.int .i64 wt) := box_cell y0 5 _ rfl
  have m6 : w2.cell? ⟨w.heap.size, 6, none⟩ = some (.bool dn) := box_cell y0 6 _ rfl
  clear y0 hb2 hb2'
  go_wp2_with (first | (at_builtin; refine Stopped.out ?_) | (at_make; refine Stopped.out ?_))
  refine (HSt.out _ (HC.out.2.2.1.below HB2.out.1)).mono ?_
  rintro e w3 ⟨C2, c2, rfl, hC2, hor, hb3⟩
  have HB3 := Lib.hid (And.intro (bthen HB2.out.1 hb3) (And.intro (bthen HB2.out.2.2 hb3) hC2))
  have hb1lt : w.heap.size + 1 < w2.heap.size := by have h1 := cell_lt (box_cell (heap_below HX.out.2.2 HB2.out.2.2) 0 _ rfl); simpa using h1
  have HOR := Lib.hid (And.intro hor hb1lt)
  clear m0 m1 m2 m3 m4 m5 m6 hC2 hb3 HSt hor hb1lt
  obtain ⟨W4, hW4⟩ : ∃ W4, W4 = w3.alloc (.cells #[.int .i64 z, .slice A n0 a, .slice B n1 b, .slice C2 N2 c2, .int .i64 CN, .int .i64 WT, .bool DN] 37) := ⟨_, rfl⟩
  have hb4 : Below w3.heap.size w3 W4 := by rw [hW4]; exact (Below.refl _ _).alloc (Nat.le_refl _) _
  have x9 : W4.heap[w3.heap.size]? = some (.cells #[.int .i64 z, .slice A n0 a, .slice B n1 b, .slice C2 N2 c2, .int .i64 CN, .int .i64 WT, .bool DN] 37 (0, 0)) := by rw [hW4]; exact heap_alloc_new _ _
  have y0 := heap_below (heap_below HX.out.2.1 HB3.out.2.1) hb4
  have y1 := heap_below (heap_below HX.out.2.2 HB3.out.2.1) hb4
  have HB4 := Lib.hid (And.intro (bthen HB3.out.1 hb4) (And.intro y0 (And.intro y1 (And.intro x9 (HB3.out.2.2.below hb4)))))
  have m0 : W4.cell? ⟨w.heap.size, 0, none⟩ = some (.int .i64 z) := box_cell y0 0 _ rfl
  have m1 : W4.cell? ⟨w.heap.size, 1, none⟩ = some (.slice A n0 a) := box_cell y0 1 _ rfl
  have m2 : W4.cell? ⟨w.heap.size, 2, none⟩ = some (.slice B n1 b) := box_cell y0 2 _ rfl
  have m3 : W4.cell? ⟨w.heap.size, 3, none⟩ = some (.slice C n2 c) := box_cell y0 3 _ rfl
  have m4 : W4.cell? ⟨w.heap.size, 4, none⟩ = some (.int .i64 cn) := box_cell y0 4 _ rfl
  have m5 : W4.cell? ⟨w.heap.size, 5, none⟩ = some (.int .i64 wt) := box_cell y0 5 _ rfl
  have m6 : W4.cell? ⟨w.heap.size, 6, none⟩ = some (.bool dn) := box_cell y0 6 _ rfl
  have hne9 : w3.heap.size ≠ w.heap.size + 1 := fun e => by have h1 := (cell_lt (box_cell HX.out.2.2 0 _ rfl)); have h2 := HB3.out.2.1.size; simp at h1; omega
  obtain ⟨g9, hg9⟩ : ∃ g, g = w3.heap.size := ⟨_, rfl⟩
  rw [← hg9] at HB4 hne9
  clear hb4 x9 y0 y1
  go_wp2_with fail
  rw [← hW4, ← hg9]
  clear hW4 hg9 HB2
  go_region_held3 (fun w' => w'.cell? ⟨w.heap.size, 0, none⟩ = some (.int .i64 z) ∧ w'.cell? ⟨w.heap.size, 1, none⟩ = some (.slice A n0 a) ∧ w'.cell? ⟨w.heap.size, 2, none⟩ = some (.slice B n1 b) ∧ w'.cell? ⟨w.heap.size, 3, none⟩ = some (.slice C n2 c) ∧ w'.cell? ⟨w.heap.size, 4, none⟩ = some (.int .i64 cn) ∧ w'.cell? ⟨w.heap.size, 5, none⟩ = some (.int .i64 wt) ∧ w'.cell? ⟨w.heap.size, 6, none⟩ = some (.bool dn))
    (first | exact ⟨m0, m1, m2, m3, m4, m5, m6⟩ | exact q7 | exact p7 | go_keep)
    (first
      | (go_at_call 81; refine (ref_upTo _ (HC.out.1.below (bthen HB4.out.1 (bthen ((Below.refl _ _).drew) hb5))) _ (by omega)).mono ?_; rintro e w6 ⟨u6, rfl, o6, hb6⟩; have q7 : w6.cell? ⟨w.heap.size, 0, none⟩ = some (.int .i64 z) ∧ w6.cell? ⟨w.heap.size, 1, none⟩ = some (.slice A n0 a) ∧ w6.cell? ⟨w.heap.size, 2, none⟩ = some (.slice B n1 b) ∧ w6.cell? ⟨w.heap.size, 3, none⟩ = some (.slice C n2 c) ∧ w6.cell? ⟨w.heap.size, 4, none⟩ = some (.int .i64 cn) ∧ w6.cell? ⟨w.heap.size, 5, none⟩ = some (.int .i64 wt) ∧ w6.cell? ⟨w.heap.size, 6, none⟩ = some (.bool dn) := (let y := heap_below (heap_below (w := W4.drew) HB4.out.2.1 hb5) hb6; ⟨box_cell y 0 _ rfl, box_cell y 1 _ rfl, box_cell y 2 _ rfl, box_cell y 3 _ rfl, box_cell y 4 _ rfl, box_cell y 5 _ rfl, box_cell y 6 _ rfl⟩))
      | (go_at_call 119; refine (HG.out _).mono ?_; rintro e w5 ⟨rfl, hb5⟩; have p7 : w5.cell? ⟨w.heap.size, 0, none⟩ = some (.int .i64 z) ∧ w5.cell? ⟨w.heap.size, 1, none⟩ = some (.slice A n0 a) ∧ w5.cell? ⟨w.heap.size, 2, none⟩ = some (.slice B n1 b) ∧ w5.cell? ⟨w.heap.size, 3, none⟩ = some (.slice C n2 c) ∧ w5.cell? ⟨w.heap.size, 4, none⟩ = some (.int .i64 cn) ∧ w5.cell? ⟨w.heap.size, 5, none⟩ = some (.int .i64 wt) ∧ w5.cell? ⟨w.heap.size, 6, none⟩ = some (.bool dn) := (let y := heap_below (w := W4.drew) HB4.out.2.1 hb5; ⟨box_cell y 0 _ rfl, box_cell y 1 _ rfl, box_cell y 2 _ rfl, box_cell y 3 _ rfl, box_cell y 4 _ rfl, box_cell y 5 _ rfl, box_cell y 6 _ rfl⟩)))
  have hb6' : Below W4.heap.size W4 w6 := bthen (bthen ((Below.refl _ _).drew) hb5) hb6
  rw [HTk.out] at o6
  have e6 : s.b0.length = n0 := HE.out.2.1.symm
  rw [e6] at o6
  have x9 := heap_below HB4.out.2.2.2.1 hb6'
  have HB6 := Lib.hid (And.intro (bthen HB4.out.1 hb6') (And.intro hb6' (And.intro x9 (own_mono o6 (show W4.heap.size ≤ w5.heap.size by have := hb5.size; simpa using this)))))
  have c7 : w6.cell? ⟨g9, 0, none⟩ = some (.int .i64 z) ∧ w6.cell? ⟨g9, 1, none⟩ = some (.slice A n0 a) ∧ w6.cell? ⟨g9, 2, none⟩ = some (.slice B n1 b) ∧ w6.cell? ⟨g9, 3, none⟩ = some (.slice C2 N2 c2) ∧ w6.cell? ⟨g9, 4, none⟩ = some (.int .i64 CN) ∧ w6.cell? ⟨g9, 5, none⟩ = some (.int .i64 WT) ∧ w6.cell? ⟨g9, 6, none⟩ = some (.bool DN) := ⟨box_cell x9 0 _ rfl, box_cell x9 1 _ rfl, box_cell x9 2 _ rfl, box_cell x9 3 _ rfl, box_cell x9 4 _ rfl, box_cell x9 5 _ rfl, box_cell x9 6 _ rfl⟩
  clear m0 m1 m2 m3 m4 m5 m6 p7 q7 hb5 hb6 hb6' o6 x9 e6
  have hlD : Sl w6.drew 1 D k d (l.map by8) := HC.out.2.2.2.below (bthen HB6.out.1 ((Below.refl _ _).drew))
  have HlD := Lib.hid hlD
  clear hlD
  go_wp2_with fail
  go_region_held3 (fun w' => w'.cell? ⟨g9, 0, none⟩ = some (.int .i64 z) ∧ w'.cell? ⟨g9, 1, none⟩ = some (.slice A n0 a) ∧ w'.cell? ⟨g9, 2, none⟩ = some (.slice B n1 b) ∧ w'.cell? ⟨g9, 3, none⟩ = some (.slice C2 N2 c2) ∧ w'.cell? ⟨g9, 4, none⟩ = some (.int .i64 CN) ∧ w'.cell? ⟨g9, 5, none⟩ = some (.int .i64 WT) ∧ w'.cell? ⟨g9, 6, none⟩ = some (.bool DN))
    (first | with_reducible exact t7 | with_reducible exact r7 | with_reducible exact e7 | with_reducible exact c7 | exact ⟨s7.2.cell t7.1 (by simpa using hne9), s7.2.cell t7.2.1 (by simpa using hne9), s7.2.cell t7.2.2.1 (by simpa using hne9), s7.2.cell t7.2.2.2.1 (by simpa using hne9), s7.2.cell t7.2.2.2.2.1 (by simpa using hne9), s7.2.cell t7.2.2.2.2.2.1 (by simpa using hne9), s7.2.cell t7.2.2.2.2.2.2 (by simpa using hne9)⟩ | exact c7 | go_keep)
    (first
      | (go_at_call 121; refine (ref_with0 _ z CN WT A B C2 n0 n1 N2 a b c2 DN D8 _ d8).mono ?_; rintro e w9 ⟨rfl, hb9⟩; have y1 := heap_below (heap_below HB4.out.2.2.1 hb8) hb9; have s7 := set7 (.int .i64 z) (.slice D8 (n0 + k) d8) (.slice B n1 b) (.slice C2 N2 c2) (.int .i64 CN) (.int .i64 WT) (.bool DN) y1; have t7 : w9.cell? ⟨g9, 0, none⟩ = some (.int .i64 z) ∧ w9.cell? ⟨g9, 1, none⟩ = some (.slice A n0 a) ∧ w9.cell? ⟨g9, 2, none⟩ = some (.slice B n1 b) ∧ w9.cell? ⟨g9, 3, none⟩ = some (.slice C2 N2 c2) ∧ w9.cell? ⟨g9, 4, none⟩ = some (.int .i64 CN) ∧ w9.cell? ⟨g9, 5, none⟩ = some (.int .i64 WT) ∧ w9.cell? ⟨g9, 6, none⟩ = some (.bool DN) := (let y := heap_below (heap_below HB4.out.2.2.2.1 hb8) hb9; ⟨box_cell y 0 _ rfl, box_cell y 1 _ rfl, box_cell y 2 _ rfl, box_cell y 3 _ rfl, box_cell y 4 _ rfl, box_cell y 5 _ rfl, box_cell y 6 _ rfl⟩); have rr : w9.cell? ⟨w.heap.size + 1, 0, none⟩ = some (.int .i64 0) ∧ w9.cell? ⟨w.heap.size + 1, 1, none⟩ = some (.slice none 0 0) ∧ w9.cell? ⟨w.heap.size + 1, 2, none⟩ = some (.slice none 0 0) ∧ w9.cell? ⟨w.heap.size + 1, 3, none⟩ = some (.slice none 0 0) ∧ w9.cell? ⟨w.heap.size + 1, 4, none⟩ = some (.int .i64 0) ∧ w9.cell? ⟨w.heap.size + 1, 5, none⟩ = some (.int .i64 0) ∧ w9.cell? ⟨w.heap.size + 1, 6, none⟩ = some (.bool false) := ⟨box_cell y1 0 _ rfl, box_cell y1 1 _ rfl, box_cell y1 2 _ rfl, box_cell y1 3 _ rfl, box_cell y1 4 _ rfl, box_cell y1 5 _ rfl, box_cell y1 6 _ rfl⟩; obtain ⟨r0, r1, r2, r3, r4, r5, r6⟩ := rr; have g0 := box_free y1 0; have g1 := box_free y1 1; have g2 := box_free y1 2; have g3 := box_free y1 3; have g4 := box_free y1 4; have g5 := box_free y1 5; have g6 := box_free y1 6)
      | (refine ap_step EF (by rfl) _ _ (by rfl) (by rfl) (own_below HB6.out.2.2.2 ((Below.refl _ _).drew)) (by rfl) (HlD.out) (u8_one _) (by simp only [maxLen]; omega) (by omega) (HB6.out.2.1.size) ?_; intro v8 w8 o8 hg8 _; rw [← List.map_append] at o8; have hb8 : Below W4.heap.size W4 w8 := (HB6.out.2.1.drew).grown hg8 (HB6.out.2.1.size) (fun k hk => (HB6.out.2.2.2.lt k hk).1); have r7 : w8.cell? ⟨g9, 0, none⟩ = some (.int .i64 z) ∧ w8.cell? ⟨g9, 1, none⟩ = some (.slice A n0 a) ∧ w8.cell? ⟨g9, 2, none⟩ = some (.slice B n1 b) ∧ w8.cell? ⟨g9, 3, none⟩ = some (.slice C2 N2 c2) ∧ w8.cell? ⟨g9, 4, none⟩ = some (.int .i64 CN) ∧ w8.cell? ⟨g9, 5, none⟩ = some (.int .i64 WT) ∧ w8.cell? ⟨g9, 6, none⟩ = some (.bool DN) := (let y := heap_below HB4.out.2.2.2.1 hb8; ⟨box_cell y 0 _ rfl, box_cell y 1 _ rfl, box_cell y 2 _ rfl, box_cell y 3 _ rfl, box_cell y 4 _ rfl, box_cell y 5 _ rfl, box_cell y 6 _ rfl⟩); obtain ⟨D8, d8, rfl, so8, hD8⟩ := own_sl o8))
  have HZ := Lib.hid (And.intro s7 (And.intro so8 (And.intro hD8 (And.intro hb8 hb9))))
  clear s7 so8 hD8 hb8 hb9 t7 r7 c7 r0 r1 r2 r3 r4 r5 r6 g0 g1 g2 g3 g4 g5 g6 y1
  go_wp2
  obtain ⟨s7, so8, hD8, hb8, hb9⟩ := HZ.out
  refine bodyPost_ret (results_c2 (P := Try.prog) rfl _ _ _ _ _ _ _ (by rfl) s7.1 Try.underlying37 rfl (by kernel_rfl)) rfl ?_
  have hb98 := bthen hb8 hb9
  have hbz := bthen HB4.out.1 hb98
  have hb3 := s7.2.below hbz hbz.size (fun x hx => by simp at hx; omega)
  have hb1W : w.heap.size + 1 < W4.heap.size := by have h1 := cell_lt (box_cell HB4.out.2.2.1 0 _ rfl); simpa using h1
  obtain ⟨e0, e1, e2, e3, e4, e5, e6⟩ := HE.out
  obtain ⟨f0, f1, f2, f3, f4⟩ := HE2.out
  have eA : addB (strikeF s) 0 l = { strikeF s with b0 := s.b0 ++ l } := by rw [addB]; simp [strikeF_b0]
  rw [eA]
  have slA : Sl w9 1 D8 (n0 + k) d8 ((s.b0 ++ l).map by8) := so8.below hb9
  have slA2 := slA.keep s7.2 (fun ad e hx => by have h1 := (hD8 ad e).1; simp at hx; omega)
  have hnD := (fun ad e => Nat.le_trans HB4.out.1.size (hD8 ad e).1)
  have hnC : Ap Xs C2 (strikeF s).armed.length := Ap.either HOR.out.1 HAp.out.2.2 (fun h => by rw [h]) (fun x hx => by have h1 := hXs x hx; have h2 := HOR.out.2; omega)
  refine ⟨_, rfl, ⟨D8, B, C2, d8, b, c2, ?_, ?_, ?_, ?_, Ap.new hXs hnD, HAp.out.2.1.cast (by simp only [strikeF_b1]), hnC⟩, hb3⟩
  · simp only [refV, List.length_append, strikeF_size, strikeF_b0, strikeF_b1, hkl, ← e0, ← e1, ← e2, ← f0, ← f1, ← f2, ← f3]
  · simp only [List.length_append, strikeF_b0, hkl, ← e1]
    exact slA2
  · simp only [List.length_append, strikeF_b1, hkl, ← e2]
    exact HC.out.2.1.below hb3
  · simp only [← f0]
    rcases HOR.out.1 with ⟨g0, g1, g2⟩ | g
    · have hh := HC.out.2.2.1.below hb3
      rw [← g0, ← g1, ← g2, show n2 = N2 by rw [f0, g2, ← e3]] at hh
      exact hh
    · refine (HB4.out.2.2.2.2.below hb98).keep s7.2 (fun ad e hx => ?_)
      have h1 := g ad e
      have h2 := HOR.out.2
      simp at hx; omega
set_option maxRecDepth 100000 in
set_option maxHeartbeats 3200000 in
theorem ref_Append_ok0s (w : World) {v : List Value} {s : FSt} {Xs : List Nat} (h : RFl w v s Xs) (hk : FOk s) (hr : refusedF s 0 = 0) (hst : struckF s = true) {D : Option Addr} {k d : Nat} {l : List UInt8} (hb : Sl w 1 D k d (l.map by8)) (hkm : k ≤ 140737488355328) (hf : s.b0.length + k ≤ s.size) (hXs : ∀ x ∈ Xs, x < w.heap.size) :
    Calls Try.prog 78 #[.agg v.toArray, .int .i64 0, .slice D k d] w fun e w' => ∃ v', e = .returned (.tuple #[.agg v'.toArray, .int .i64 121]) ∧ RFl w' v' (addB (strikeF s) 0 (l.take (keepF s))) Xs ∧ Below w.heap.size w w' := by
  have hkl : l.length = k := by simpa using hb.len
  have hd1 := hb.le; have hd2 := hb.max
  obtain ⟨A, B, C, a, b, c, rfl, hA, hB, hC, hAp⟩ := h.out
  have HAp := Lib.hid hAp
  clear hAp
  rw [refV_eq]
  have hRf := fun w1 => ref_refusedG w1 s A B C a b c 0
  have hG := fun w1 => ref_bankG0 w1 s.size s.count s.writes A B C s.b0.length s.b1.length s.armed.length a b c s.down
  have hSt := fun w1 (h1 : Sl w1 2 C s.armed.length c (crashL s.armed)) => ref_struck w1 s hk s.size A B C s.b0.length s.b1.length a b c h1
  have HG := Lib.hid hG
  have hzz := hk.size
  have HTk : Hid (s.b0.take s.size = s.b0) := Lib.hid (List.take_of_length_le hk.b0)
  rw [hr] at hRf
  clear hr hG
  obtain ⟨z, hz⟩ : ∃ z, z = s.size := ⟨_, rfl⟩
  obtain ⟨n0, hn0⟩ : ∃ z, z = s.b0.length := ⟨_, rfl⟩
  obtain ⟨n1, hn1⟩ : ∃ z, z = s.b1.length := ⟨_, rfl⟩
  obtain ⟨n2, hn2⟩ : ∃ z, z = s.armed.length := ⟨_, rfl⟩
  obtain ⟨cn, hcn⟩ : ∃ z, z = s.count := ⟨_, rfl⟩
  obtain ⟨wt, hwt⟩ : ∃ z, z = s.writes := ⟨_, rfl⟩
  obtain ⟨dn, hdn⟩ : ∃ z, z = s.down := ⟨_, rfl⟩
  have HE := Lib.hid (And.intro hz (And.intro hn0 (And.intro hn1 (And.intro hn2 (And.intro hcn (And.intro hwt hdn))))))
  rw [← hz, ← hn0, ← hn1, ← hn2, ← hcn, ← hwt, ← hdn] at hRf
  rw [← hz, ← hn0, ← hn1, ← hn2, ← hcn, ← hwt, ← hdn]
  rw [← hn0] at hA; rw [← hn1] at hB; rw [← hn2] at hC
  rw [← hz, ← hn0, ← hn1, ← hn2, ← hcn, ← hwt, ← hdn] at HG hSt
  rw [← hz] at hf hzz HTk
  rw [← hn0] at hf
  obtain ⟨N2, hN2⟩ : ∃ x, x = (strikeF s).armed.length := ⟨_, rfl⟩
  obtain ⟨CN, hCN⟩ : ∃ x, x = (strikeF s).count := ⟨_, rfl⟩
  obtain ⟨WT, hWT⟩ : ∃ x, x = (strikeF s).writes := ⟨_, rfl⟩
  obtain ⟨DN, hDN⟩ : ∃ x, x = (strikeF s).down := ⟨_, rfl⟩
  obtain ⟨KP, hKP⟩ : ∃ x, x = keepF s := ⟨_, rfl⟩
  have hSt : ∀ w1, Sl w1 2 C n2 c (crashL s.armed) → Calls Try.prog 120 #[.agg #[.int .i64 z, .slice A n0 a, .slice B n1 b, .slice C n2 c, .int .i64 cn, .int .i64 wt, .bool dn]] w1 fun e w' => ∃ C2 c2, e = .returned (.tuple #[.agg #[.int .i64 z, .slice A n0 a, .slice B n1 b, .slice C2 N2 c2, .int .i64 CN, .int .i64 WT, .bool DN], .bool true, .int .i64 KP]) ∧ Sl w' 2 C2 N2 c2 (crashL (strikeF s).armed) ∧ ((C2 = C ∧ c2 = c ∧ (strikeF s).armed = s.armed) ∨ ∀ ad, C2 = some ad → w1.heap.size ≤ ad.block) ∧ Below w1.heap.size w1 w' := by
    rw [hN2, hCN, hWT, hDN, hKP, ← hst]
    exact hSt
  have HSt := Lib.hid hSt
  have HE2 := Lib.hid (And.intro hN2 (And.intro hCN (And.intro hWT (And.intro hDN hKP))))
  clear hSt hN2 hCN hWT hDN hKP hst
  obtain ⟨LQ, hLQ⟩ : ∃ L, L = l.take (keepF s) := ⟨_, rfl⟩
  have hKP : KP = keepF s := HE2.out.2.2.2.2
  have hLQ' : l.take KP = LQ := by rw [hLQ, hKP]
  have hkq : LQ.length ≤ k := by rw [← hLQ', List.length_take]; omega
  rw [← hLQ]
  obtain ⟨kq, hkq2⟩ : ∃ x, x = LQ.length := ⟨_, rfl⟩
  rw [← hkq2] at hkq
  have HQ := Lib.hid (And.intro hLQ' hkq2)
  clear hLQ hKP hLQ' hkq2
  obtain ⟨W1, hW1⟩ : ∃ W1, W1 = (w.alloc (.cells #[.int .i64 z, .slice A n0 a, .slice B n1 b, .slice C n2 c, .int .i64 cn, .int .i64 wt, .bool dn] 37)).alloc (.cells #[.int .i64 0, .slice none 0 0, .slice none 0 0, .slice none 0 0, .int .i64 0, .int .i64 0, .bool false] 37) := ⟨_, rfl⟩
  have hb1 : Below w.heap.size w W1 := by rw [hW1]; exact below2 _ _ _
  have x0 : W1.heap[w.heap.size]? = some (.cells #[.int .i64 z, .slice A n0 a, .slice B n1 b, .slice C n2 c, .int .i64 cn, .int .i64 wt, .bool dn] 37 (0, 0)) := by rw [hW1]; exact heap_alloc1 _ _ _
  have x1 : W1.heap[w.heap.size + 1]? = some (.cells #[.int .i64 0, .slice none 0 0, .slice none 0 0, .slice none 0 0, .int .i64 0, .int .i64 0, .bool false] 37 (0, 0)) := by rw [hW1]; exact heap_alloc2 _ _ _
  have m0 : W1.cell? ⟨w.heap.size, 0, none⟩ = some (.int .i64 z) := box_cell x0 0 _ rfl
  have m1 : W1.cell? ⟨w.heap.size, 1, none⟩ = some (.slice A n0 a) := box_cell x0 1 _ rfl
  have m2 : W1.cell? ⟨w.heap.size, 2, none⟩ = some (.slice B n1 b) := box_cell x0 2 _ rfl
  have m3 : W1.cell? ⟨w.heap.size, 3, none⟩ = some (.slice C n2 c) := box_cell x0 3 _ rfl
  have m4 : W1.cell? ⟨w.heap.size, 4, none⟩ = some (.int .i64 cn) := box_cell x0 4 _ rfl
  have m5 : W1.cell? ⟨w.heap.size, 5, none⟩ = some (.int .i64 wt) := box_cell x0 5 _ rfl
  have m6 : W1.cell? ⟨w.heap.size, 6, none⟩ = some (.bool dn) := box_cell x0 6 _ rfl
  have HR := Lib.hid (hRf W1)
  have HX := Lib.hid (And.intro hb1 (And.intro x0 x1))
  have HC := Lib.hid (And.intro hA (And.intro hB (And.intro hC hb)))
  have i1 : decide ((z : Int) < (n0 : Int) + (k : Int)) = false := decide_eq_false (by omega)
  have i2 : IntKind.i64.wrap ((n0 : Int) + (k : Int)) = (n0 : Int) + (k : Int) := by rw [IntKind.wrap_i64]; omega
  clear hA hB hC hb1 x0 x1 h hk hRf hz hn0 hn1 hn2 hcn hwt hdn hb
  go_enter Try.func78, Try.ntmps78
  go_wp2_with fail
  rw [← hW1]
  clear hW1
  refine HR.out.mono ?_
  rintro e w1 ⟨rfl, hb1⟩
  have y0 := heap_below HX.out.2.1 hb1
  have HB := Lib.hid (And.intro (bthen HX.out.1 hb1) (And.intro y0 hb1))
  clear m0 m1 m2 m3 m4 m5 m6
  have m0 : w1.cell? ⟨w.heap.size, 0, none⟩ = some (.int .i64 z) := box_cell y0 0 _ rfl
  have m1 : w1.cell? ⟨w.heap.size, 1, none⟩ = some (.slice A n0 a) := box_cell y0 1 _ rfl
  have m2 : w1.cell? ⟨w.heap.size, 2, none⟩ = some (.slice B n1 b) := box_cell y0 2 _ rfl
  have m3 : w1.cell? ⟨w.heap.size, 3, none⟩ = some (.slice C n2 c) := box_cell y0 3 _ rfl
  have m4 : w1.cell? ⟨w.heap.size, 4, none⟩ = some (.int .i64 cn) := box_cell y0 4 _ rfl
  have m5 : w1.cell? ⟨w.heap.size, 5, none⟩ = some (.int .i64 wt) := box_cell y0 5 _ rfl
  have m6 : w1.cell? ⟨w.heap.size, 6, none⟩ = some (.bool dn) := box_cell y0 6 _ rfl
  clear y0 hb1 HR
  go_wp2_with fail
  go_region_held3 (fun w' => w'.cell? ⟨w.heap.size, 0, none⟩ = some (.int .i64 z) ∧ w'.cell? ⟨w.heap.size, 1, none⟩ = some (.slice A n0 a) ∧ w'.cell? ⟨w.heap.size, 2, none⟩ = some (.slice B n1 b) ∧ w'.cell? ⟨w.heap.size, 3, none⟩ = some (.slice C n2 c) ∧ w'.cell? ⟨w.heap.size, 4, none⟩ = some (.int .i64 cn) ∧ w'.cell? ⟨w.heap.size, 5, none⟩ = some (.int .i64 wt) ∧ w'.cell? ⟨w.heap.size, 6, none⟩ = some (.bool dn))
    (first | exact ⟨m0, m1, m2, m3, m4, m5, m6⟩ | exact p7 | go_keep)
    (first
      | (go_at_call 119; refine (HG.out _).mono ?_; rintro e w2 ⟨rfl, hb2⟩; have p7 : w2.cell? ⟨w.heap.size, 0, none⟩ = some (.int .i64 z) ∧ w2.cell? ⟨w.heap.size, 1, none⟩ = some (.slice A n0 a) ∧ w2.cell? ⟨w.heap.size, 2, none⟩ = some (.slice B n1 b) ∧ w2.cell? ⟨w.heap.size, 3, none⟩ = some (.slice C n2 c) ∧ w2.cell? ⟨w.heap.size, 4, none⟩ = some (.int .i64 cn) ∧ w2.cell? ⟨w.heap.size, 5, none⟩ = some (.int .i64 wt) ∧ w2.cell? ⟨w.heap.size, 6, none⟩ = some (.bool dn) := (let y := heap_below (w := w1.drew) HB.out.2.1 hb2; ⟨box_cell y 0 _ rfl, box_cell y 1 _ rfl, box_cell y 2 _ rfl, box_cell y 3 _ rfl, box_cell y 4 _ rfl, box_cell y 5 _ rfl, box_cell y 6 _ rfl⟩)))
  have hb2' : Below w1.heap.size w1 w2 := bthen ((Below.refl _ _).drew) hb2
  have y0 := heap_below HB.out.2.1 hb2'
  have HB2 := Lib.hid (And.intro (bthen HB.out.1 hb2') (And.intro y0 (bthen HB.out.2.2 hb2')))
  clear m0 m1 m2 m3 m4 m5 m6 HB p7
  have m0 : w2.cell? ⟨w.heap.size, 0, none⟩ = some (.int .i64 z) := box_cell y0 0 _ rfl
  have m1 : w2.cell? ⟨w.heap.size, 1, none⟩ = some (.slice A n0 a) := box_cell y0 1 _ rfl
  have m2 : w2.cell? ⟨w.heap.size, 2, none⟩ = some (.slice B n1 b) := box_cell y0 2 _ rfl
  have m3 : w2.cell? ⟨w.heap.size, 3, none⟩ = some (.slice C n2 c) := box_cell y0 3 _ rfl
  have m4 : w2.cell? ⟨w.heap.size, 4, none⟩ = some (.int .i64 cn) := box_cell y0 4 _ rfl
  have m5 : w2.cell? ⟨w.heap.size, 5, none⟩ = some (.int .i64 wt) := box_cell y0 5 _ rfl
  have m6 : w2.cell? ⟨w.heap.size, 6, none⟩ = some (.bool dn) := box_cell y0 6 _ rfl
  clear y0 hb2 hb2'
  go_wp2_with (first | (at_builtin; refine Stopped.out ?_) | (at_make; refine Stopped.out ?_))
  refine (HSt.out _ (HC.out.2.2.1.below HB2.out.1)).mono ?_
  rintro e w3 ⟨C2, c2, rfl, hC2, hor, hb3⟩
  have HB3 := Lib.hid (And.intro (bthen HB2.out.1 hb3) (And.intro (bthen HB2.out.2.2 hb3) hC2))
  have hb1lt : w.heap.size + 1 < w2.heap.size := by have h1 := cell_lt (box_cell (heap_below HX.out.2.2 HB2.out.2.2) 0 _ rfl); simpa using h1
  have HOR := Lib.hid (And.intro hor hb1lt)
  clear m0 m1 m2 m3 m4 m5 m6 hC2 hb3 HSt hor hb1lt
  obtain ⟨W4, hW4⟩ : ∃ W4, W4 = w3.alloc (.cells #[.int .i64 z, .slice A n0 a, .slice B n1 b, .slice C2 N2 c2, .int .i64 CN, .int .i64 WT, .bool DN] 37) := ⟨_, rfl⟩
  have hb4 : Below w3.heap.size w3 W4 := by rw [hW4]; exact (Below.refl _ _).alloc (Nat.le_refl _) _
  have x9 : W4.heap[w3.heap.size]? = some (.cells #[.int .i64 z, .slice A n0 a, .slice B n1 b, .slice C2 N2 c2, .int .i64 CN, .int .i64 WT, .bool DN] 37 (0, 0)) := by rw [hW4]; exact heap_alloc_new _ _
  have y0 := heap_below (heap_below HX.out.2.1 HB3.out.2.1) hb4
  have y1 := heap_below (heap_below HX.out.2.2 HB3.out.2.1) hb4
  have HB4 := Lib.hid (And.intro (bthen HB3.out.1 hb4) (And.intro y0 (And.intro y1 (And.intro x9 (HB3.out.2.2.below hb4)))))
  have m0 : W4.cell? ⟨w.heap.size, 0, none⟩ = some (.int .i64 z) := box_cell y0 0 _ rfl
  have m1 : W4.cell? ⟨w.heap.size, 1, none⟩ = some (.slice A n0 a) := box_cell y0 1 _ rfl
  have m2 : W4.cell? ⟨w.heap.size, 2, none⟩ = some (.slice B n1 b) := box_cell y0 2 _ rfl
  have m3 : W4.cell? ⟨w.heap.size, 3, none⟩ = some (.slice C n2 c) := box_cell y0 3 _ rfl
  have m4 : W4.cell? ⟨w.heap.size, 4, none⟩ = some (.int .i64 cn) := box_cell y0 4 _ rfl
  have m5 : W4.cell? ⟨w.heap.size, 5, none⟩ = some (.int .i64 wt) := box_cell y0 5 _ rfl
  have m6 : W4.cell? ⟨w.heap.size, 6, none⟩ = some (.bool dn) := box_cell y0 6 _ rfl
  have hne9 : w3.heap.size ≠ w.heap.size + 1 := fun e => by have h1 := (cell_lt (box_cell HX.out.2.2 0 _ rfl)); have h2 := HB3.out.2.1.size; simp at h1; omega
  obtain ⟨g9, hg9⟩ : ∃ g, g = w3.heap.size := ⟨_, rfl⟩
  rw [← hg9] at HB4 hne9
  clear hb4 x9 y0 y1
  go_wp2_with fail
  rw [← hW4, ← hg9]
  clear hW4 hg9 HB2
  go_region_held3 (fun w' => w'.cell? ⟨w.heap.size, 0, none⟩ = some (.int .i64 z) ∧ w'.cell? ⟨w.heap.size, 1, none⟩ = some (.slice A n0 a) ∧ w'.cell? ⟨w.heap.size, 2, none⟩ = some (.slice B n1 b) ∧ w'.cell? ⟨w.heap.size, 3, none⟩ = some (.slice C n2 c) ∧ w'.cell? ⟨w.heap.size, 4, none⟩ = some (.int .i64 cn) ∧ w'.cell? ⟨w.heap.size, 5, none⟩ = some (.int .i64 wt) ∧ w'.cell? ⟨w.heap.size, 6, none⟩ = some (.bool dn))
    (first | exact ⟨m0, m1, m2, m3, m4, m5, m6⟩ | exact q7 | exact p7 | go_keep)
    (first
      | (go_at_call 81; refine (ref_upTo _ (HC.out.1.below (bthen HB4.out.1 (bthen ((Below.refl _ _).drew) hb5))) _ (by omega)).mono ?_; rintro e w6 ⟨u6, rfl, o6, hb6⟩; have q7 : w6.cell? ⟨w.heap.size, 0, none⟩ = some (.int .i64 z) ∧ w6.cell? ⟨w.heap.size, 1, none⟩ = some (.slice A n0 a) ∧ w6.cell? ⟨w.heap.size, 2, none⟩ = some (.slice B n1 b) ∧ w6.cell? ⟨w.heap.size, 3, none⟩ = some (.slice C n2 c) ∧ w6.cell? ⟨w.heap.size, 4, none⟩ = some (.int .i64 cn) ∧ w6.cell? ⟨w.heap.size, 5, none⟩ = some (.int .i64 wt) ∧ w6.cell? ⟨w.heap.size, 6, none⟩ = some (.bool dn) := (let y := heap_below (heap_below (w := W4.drew) HB4.out.2.1 hb5) hb6; ⟨box_cell y 0 _ rfl, box_cell y 1 _ rfl, box_cell y 2 _ rfl, box_cell y 3 _ rfl, box_cell y 4 _ rfl, box_cell y 5 _ rfl, box_cell y 6 _ rfl⟩))
      | (go_at_call 119; refine (HG.out _).mono ?_; rintro e w5 ⟨rfl, hb5⟩; have p7 : w5.cell? ⟨w.heap.size, 0, none⟩ = some (.int .i64 z) ∧ w5.cell? ⟨w.heap.size, 1, none⟩ = some (.slice A n0 a) ∧ w5.cell? ⟨w.heap.size, 2, none⟩ = some (.slice B n1 b) ∧ w5.cell? ⟨w.heap.size, 3, none⟩ = some (.slice C n2 c) ∧ w5.cell? ⟨w.heap.size, 4, none⟩ = some (.int .i64 cn) ∧ w5.cell? ⟨w.heap.size, 5, none⟩ = some (.int .i64 wt) ∧ w5.cell? ⟨w.heap.size, 6, none⟩ = some (.bool dn) := (let y := heap_below (w := W4.drew) HB4.out.2.1 hb5; ⟨box_cell y 0 _ rfl, box_cell y 1 _ rfl, box_cell y 2 _ rfl, box_cell y 3 _ rfl, box_cell y 4 _ rfl, box_cell y 5 _ rfl, box_cell y 6 _ rfl⟩)))
  have hb6' : Below W4.heap.size W4 w6 := bthen (bthen ((Below.refl _ _).drew) hb5) hb6
  rw [HTk.out] at o6
  have e6 : s.b0.length = n0 := HE.out.2.1.symm
  rw [e6] at o6
  have x9 := heap_below HB4.out.2.2.2.1 hb6'
  have HB6 := Lib.hid (And.intro (bthen HB4.out.1 hb6') (And.intro hb6' (And.intro x9 (own_mono o6 (show W4.heap.size ≤ w5.heap.size by have := hb5.size; simpa using this)))))
  have c7 : w6.cell? ⟨g9, 0, none⟩ = some (.int .i64 z) ∧ w6.cell? ⟨g9, 1, none⟩ = some (.slice A n0 a) ∧ w6.cell? ⟨g9, 2, none⟩ = some (.slice B n1 b) ∧ w6.cell? ⟨g9, 3, none⟩ = some (.slice C2 N2 c2) ∧ w6.cell? ⟨g9, 4, none⟩ = some (.int .i64 CN) ∧ w6.cell? ⟨g9, 5, none⟩ = some (.int .i64 WT) ∧ w6.cell? ⟨g9, 6, none⟩ = some (.bool DN) := ⟨box_cell x9 0 _ rfl, box_cell x9 1 _ rfl, box_cell x9 2 _ rfl, box_cell x9 3 _ rfl, box_cell x9 4 _ rfl, box_cell x9 5 _ rfl, box_cell x9 6 _ rfl⟩
  clear m0 m1 m2 m3 m4 m5 m6 p7 q7 hb5 hb6 hb6' o6 x9 e6
  have hlD : Sl w6.drew 1 D k d (l.map by8) := HC.out.2.2.2.below (bthen HB6.out.1 ((Below.refl _ _).drew))
  have HlD := Lib.hid hlD
  clear hlD
  go_wp2_with fail
  go_region_held3 (fun w' => w'.cell? ⟨g9, 0, none⟩ = some (.int .i64 z) ∧ w'.cell? ⟨g9, 1, none⟩ = some (.slice A n0 a) ∧ w'.cell? ⟨g9, 2, none⟩ = some (.slice B n1 b) ∧ w'.cell? ⟨g9, 3, none⟩ = some (.slice C2 N2 c2) ∧ w'.cell? ⟨g9, 4, none⟩ = some (.int .i64 CN) ∧ w'.cell? ⟨g9, 5, none⟩ = some (.int .i64 WT) ∧ w'.cell? ⟨g9, 6, none⟩ = some (.bool DN))
    (first | with_reducible exact t7 | with_reducible exact r7 | with_reducible exact e7 | with_reducible exact c7 | exact ⟨s7.2.cell t7.1 (by simpa using hne9), s7.2.cell t7.2.1 (by simpa using hne9), s7.2.cell t7.2.2.1 (by simpa using hne9), s7.2.cell t7.2.2.2.1 (by simpa using hne9), s7.2.cell t7.2.2.2.2.1 (by simpa using hne9), s7.2.cell t7.2.2.2.2.2.1 (by simpa using hne9), s7.2.cell t7.2.2.2.2.2.2 (by simpa using hne9)⟩ | exact c7 | go_keep)
    (first
      | (go_at_call 121; refine (ref_with0 _ z CN WT A B C2 n0 n1 N2 a b c2 DN D8 _ d8).mono ?_; rintro e w9 ⟨rfl, hb9⟩; have y1 := heap_below (heap_below HB4.out.2.2.1 hb8) hb9; have s7 := set7 (.int .i64 z) (.slice D8 (n0 + kq) d8) (.slice B n1 b) (.slice C2 N2 c2) (.int .i64 CN) (.int .i64 WT) (.bool DN) y1; have t7 : w9.cell? ⟨g9, 0, none⟩ = some (.int .i64 z) ∧ w9.cell? ⟨g9, 1, none⟩ = some (.slice A n0 a) ∧ w9.cell? ⟨g9, 2, none⟩ = some (.slice B n1 b) ∧ w9.cell? ⟨g9, 3, none⟩ = some (.slice C2 N2 c2) ∧ w9.cell? ⟨g9, 4, none⟩ = some (.int .i64 CN) ∧ w9.cell? ⟨g9, 5, none⟩ = some (.int .i64 WT) ∧ w9.cell? ⟨g9, 6, none⟩ = some (.bool DN) := (let y := heap_below (heap_below HB4.out.2.2.2.1 hb8) hb9; ⟨box_cell y 0 _ rfl, box_cell y 1 _ rfl, box_cell y 2 _ rfl, box_cell y 3 _ rfl, box_cell y 4 _ rfl, box_cell y 5 _ rfl, box_cell y 6 _ rfl⟩); have rr : w9.cell? ⟨w.heap.size + 1, 0, none⟩ = some (.int .i64 0) ∧ w9.cell? ⟨w.heap.size + 1, 1, none⟩ = some (.slice none 0 0) ∧ w9.cell? ⟨w.heap.size + 1, 2, none⟩ = some (.slice none 0 0) ∧ w9.cell? ⟨w.heap.size + 1, 3, none⟩ = some (.slice none 0 0) ∧ w9.cell? ⟨w.heap.size + 1, 4, none⟩ = some (.int .i64 0) ∧ w9.cell? ⟨w.heap.size + 1, 5, none⟩ = some (.int .i64 0) ∧ w9.cell? ⟨w.heap.size + 1, 6, none⟩ = some (.bool false) := ⟨box_cell y1 0 _ rfl, box_cell y1 1 _ rfl, box_cell y1 2 _ rfl, box_cell y1 3 _ rfl, box_cell y1 4 _ rfl, box_cell y1 5 _ rfl, box_cell y1 6 _ rfl⟩; obtain ⟨r0, r1, r2, r3, r4, r5, r6⟩ := rr; have g0 := box_free y1 0; have g1 := box_free y1 1; have g2 := box_free y1 2; have g3 := box_free y1 3; have g4 := box_free y1 4; have g5 := box_free y1 5; have g6 := box_free y1 6)
      | (refine ap_step EF (by rfl) _ _ (by rfl) (by rfl) (ow7) (by rfl) (so7) (u8_one _) (by simp only [maxLen]; omega) (by omega) (hb67.size) ?_; intro v8 w8 o8 hg8 _; rw [← List.map_append] at o8; have hb8 : Below W4.heap.size W4 w8 := (hb67).grown hg8 (hb67.size) (fun k hk => (HB6.out.2.2.2.lt k hk).1); have r7 : w8.cell? ⟨g9, 0, none⟩ = some (.int .i64 z) ∧ w8.cell? ⟨g9, 1, none⟩ = some (.slice A n0 a) ∧ w8.cell? ⟨g9, 2, none⟩ = some (.slice B n1 b) ∧ w8.cell? ⟨g9, 3, none⟩ = some (.slice C2 N2 c2) ∧ w8.cell? ⟨g9, 4, none⟩ = some (.int .i64 CN) ∧ w8.cell? ⟨g9, 5, none⟩ = some (.int .i64 WT) ∧ w8.cell? ⟨g9, 6, none⟩ = some (.bool DN) := (let y := heap_below HB4.out.2.2.2.1 hb8; ⟨box_cell y 0 _ rfl, box_cell y 1 _ rfl, box_cell y 2 _ rfl, box_cell y 3 _ rfl, box_cell y 4 _ rfl, box_cell y 5 _ rfl, box_cell y 6 _ rfl⟩); obtain ⟨D8, d8, rfl, so8, hD8⟩ := own_sl o8)
      | (go_at_call 81; refine (ref_upTo _ HlD.out _ (by omega)).mono ?_; rintro e w7 ⟨u7, rfl, o7, hb7⟩; rw [HQ.out.1, ← HQ.out.2] at o7; have e7 : w7.cell? ⟨g9, 0, none⟩ = some (.int .i64 z) ∧ w7.cell? ⟨g9, 1, none⟩ = some (.slice A n0 a) ∧ w7.cell? ⟨g9, 2, none⟩ = some (.slice B n1 b) ∧ w7.cell? ⟨g9, 3, none⟩ = some (.slice C2 N2 c2) ∧ w7.cell? ⟨g9, 4, none⟩ = some (.int .i64 CN) ∧ w7.cell? ⟨g9, 5, none⟩ = some (.int .i64 WT) ∧ w7.cell? ⟨g9, 6, none⟩ = some (.bool DN) := (let y := heap_below (w := w6.drew) HB6.out.2.2.1 hb7; ⟨box_cell y 0 _ rfl, box_cell y 1 _ rfl, box_cell y 2 _ rfl, box_cell y 3 _ rfl, box_cell y 4 _ rfl, box_cell y 5 _ rfl, box_cell y 6 _ rfl⟩); obtain ⟨D7, d7, rfl, so7, hD7⟩ := own_sl o7; have hb67 : Below W4.heap.size W4 w7 := bthen HB6.out.2.1 (bthen ((Below.refl _ _).drew) hb7); have ow7 := own_below (w := w6.drew) (own_below HB6.out.2.2.2 ((Below.refl _ _).drew)) hb7))
  have HZ := Lib.hid (And.intro s7 (And.intro so8 (And.intro hD8 (And.intro hb8 hb9))))
  clear s7 so8 hD8 hb8 hb9 t7 r7 c7 r0 r1 r2 r3 r4 r5 r6 g0 g1 g2 g3 g4 g5 g6 y1
  go_wp2
  obtain ⟨s7, so8, hD8, hb8, hb9⟩ := HZ.out
  refine bodyPost_ret (results_c2 (P := Try.prog) rfl _ _ _ _ _ _ _ (by rfl) s7.1 Try.underlying37 rfl (by kernel_rfl)) rfl ?_
  have hb98 := bthen hb8 hb9
  have hbz := bthen HB4.out.1 hb98
  have hb3 := s7.2.below hbz hbz.size (fun x hx => by simp at hx; omega)
  have hb1W : w.heap.size + 1 < W4.heap.size := by have h1 := cell_lt (box_cell HB4.out.2.2.1 0 _ rfl); simpa using h1
  obtain ⟨e0, e1, e2, e3, e4, e5, e6⟩ := HE.out
  obtain ⟨f0, f1, f2, f3, f4⟩ := HE2.out
  have eA : addB (strikeF s) 0 LQ = { strikeF s with b0 := s.b0 ++ LQ } := by rw [addB]; simp [strikeF_b0]
  rw [eA]
  have slA : Sl w9 1 D8 (n0 + kq) d8 ((s.b0 ++ LQ).map by8) := so8.below hb9
  have slA2 := slA.keep s7.2 (fun ad e hx => by have h1 := (hD8 ad e).1; simp at hx; omega)
  have hnD := (fun ad e => Nat.le_trans HB4.out.1.size (hD8 ad e).1)
  have hnC : Ap Xs C2 (strikeF s).armed.length := Ap.either HOR.out.1 HAp.out.2.2 (fun h => by rw [h]) (fun x hx => by have h1 := hXs x hx; have h2 := HOR.out.2; omega)
  refine ⟨_, rfl, ⟨D8, B, C2, d8, b, c2, ?_, ?_, ?_, ?_, Ap.new hXs hnD, HAp.out.2.1.cast (by simp only [strikeF_b1]), hnC⟩, hb3⟩
  · simp only [refV, List.length_append, strikeF_size, strikeF_b0, strikeF_b1, ← HQ.out.2, ← e0, ← e1, ← e2, ← f0, ← f1, ← f2, ← f3]
  · simp only [List.length_append, strikeF_b0, ← HQ.out.2, ← e1]
    exact slA2
  · simp only [List.length_append, strikeF_b1, ← HQ.out.2, ← e2]
    exact HC.out.2.1.below hb3
  · simp only [← f0]
    rcases HOR.out.1 with ⟨g0, g1, g2⟩ | g
    · have hh := HC.out.2.2.1.below hb3
      rw [← g0, ← g1, ← g2, show n2 = N2 by rw [f0, g2, ← e3]] at hh
      exact hh
    · refine (HB4.out.2.2.2.2.below hb98).keep s7.2 (fun ad e hx => ?_)
      have h1 := g ad e
      have h2 := HOR.out.2
      simp at hx; omega
set_option maxRecDepth 100000 in
set_option maxHeartbeats 3200000 in
theorem ref_Append_ok1 (w : World) {v : List Value} {s : FSt} {Xs : List Nat} (h : RFl w v s Xs) (hk : FOk s) (hr : refusedF s 1 = 0) (hst : struckF s = false) {D : Option Addr} {k d : Nat} {l : List UInt8} (hb : Sl w 1 D k d (l.map by8)) (hkm : k ≤ 140737488355328) (hf : s.b1.length + k ≤ s.size) (hXs : ∀ x ∈ Xs, x < w.heap.size) :
    Calls Try.prog 78 #[.agg v.toArray, .int .i64 1, .slice D k d] w fun e w' => ∃ v', e = .returned (.tuple #[.agg v'.toArray, .int .i64 0]) ∧ RFl w' v' (addB (strikeF s) 1 (l)) Xs ∧ Below w.heap.size w w' := by
  have hkl : l.length = k := by simpa using hb.len
  have hd1 := hb.le; have hd2 := hb.max
  obtain ⟨A, B, C, a, b, c, rfl, hA, hB, hC, hAp⟩ := h.out
  have HAp := Lib.hid hAp
  clear hAp
  rw [refV_eq]
  have hRf := fun w1 => ref_refusedG w1 s A B C a b c 1
  have hG := fun w1 => ref_bankG1 w1 s.size s.count s.writes A B C s.b0.length s.b1.length s.armed.length a b c s.down 1 (by decide)
  have hSt := fun w1 (h1 : Sl w1 2 C s.armed.length c (crashL s.armed)) => ref_struck w1 s hk s.size A B C s.b0.length s.b1.length a b c h1
  have HG := Lib.hid hG
  have hzz := hk.size
  have HTk : Hid (s.b1.take s.size = s.b1) := Lib.hid (List.take_of_length_le hk.b1)
  rw [hr] at hRf
  clear hr hG
  obtain ⟨z, hz⟩ : ∃ z, z = s.size := ⟨_, rfl⟩
  obtain ⟨n0, hn0⟩ : ∃ z, z = s.b0.length := ⟨_, rfl⟩
  obtain ⟨n1, hn1⟩ : ∃ z, z = s.b1.length := ⟨_, rfl⟩
  obtain ⟨n2, hn2⟩ : ∃ z, z = s.armed.length := ⟨_, rfl⟩
  obtain ⟨cn, hcn⟩ : ∃ z, z = s.count := ⟨_, rfl⟩
  obtain ⟨wt, hwt⟩ : ∃ z, z = s.writes := ⟨_, rfl⟩
  obtain ⟨dn, hdn⟩ : ∃ z, z = s.down := ⟨_, rfl⟩
  have HE := Lib.hid (And.intro hz (And.intro hn0 (And.intro hn1 (And.intro hn2 (And.intro hcn (And.intro hwt hdn))))))
  rw [← hz, ← hn0, ← hn1, ← hn2, ← hcn, ← hwt, ← hdn] at hRf
  rw [← hz, ← hn0, ← hn1, ← hn2, ← hcn, ← hwt, ← hdn]
  rw [← hn0] at hA; rw [← hn1] at hB; rw [← hn2] at hC
  rw [← hz, ← hn0, ← hn1, ← hn2, ← hcn, ← hwt, ← hdn] at HG hSt
  rw [← hz] at hf hzz HTk
  rw [← hn1] at hf
  obtain ⟨N2, hN2⟩ : ∃ x, x = (strikeF s).armed.length := ⟨_, rfl⟩
  obtain ⟨CN, hCN⟩ : ∃ x, x = (strikeF s).count := ⟨_, rfl⟩
  obtain ⟨WT, hWT⟩ : ∃ x, x = (strikeF s).writes := ⟨_, rfl⟩
  obtain ⟨DN, hDN⟩ : ∃ x, x = (strikeF s).down := ⟨_, rfl⟩
  obtain ⟨KP, hKP⟩ : ∃ x, x = keepF s := ⟨_, rfl⟩
  have hSt : ∀ w1, Sl w1 2 C n2 c (crashL s.armed) → Calls Try.prog 120 #[.agg #[.int .i64 z, .slice A n0 a, .slice B n1 b, .slice C n2 c, .int .i64 cn, .int .i64 wt, .bool dn]] w1 fun e w' => ∃ C2 c2, e = .returned (.tuple #[.agg #[.int .i64 z, .slice A n0 a, .slice B n1 b, .slice C2 N2 c2, .int .i64 CN, .int .i64 WT, .bool DN], .bool false, .int .i64 KP]) ∧ Sl w' 2 C2 N2 c2 (crashL (strikeF s).armed) ∧ ((C2 = C ∧ c2 = c ∧ (strikeF s).armed = s.armed) ∨ ∀ ad, C2 = some ad → w1.heap.size ≤ ad.block) ∧ Below w1.heap.size w1 w' := by
    rw [hN2, hCN, hWT, hDN, hKP, ← hst]
    exact hSt
  have HSt := Lib.hid hSt
  have HE2 := Lib.hid (And.intro hN2 (And.intro hCN (And.intro hWT (And.intro hDN hKP))))
  clear hSt hN2 hCN hWT hDN hKP hst
  obtain ⟨W1, hW1⟩ : ∃ W1, W1 = (w.alloc (.cells #[.int .i64 z, .slice A n0 a, .slice B n1 b, .slice C n2 c, .int .i64 cn, .int .i64 wt, .bool dn] 37)).alloc (.cells #[.int .i64 0, .slice none 0 0, .slice none 0 0, .slice none 0 0, .int .i64 0, .int .i64 0, .bool false] 37) := ⟨_, rfl⟩
  have hb1 : Below w.heap.size w W1 := by rw [hW1]; exact below2 _ _ _
  have x0 : W1.heap[w.heap.size]? = some (.cells #[.int .i64 z, .slice A n0 a, .slice B n1 b, .slice C n2 c, .int .i64 cn, .int .i64 wt, .bool dn] 37 (0, 0)) := by rw [hW1]; exact heap_alloc1 _ _ _
  have x1 : W1.heap[w.heap.size + 1]? = some (.cells #[.int .i64 0, .slice none 0 0, .slice none 0 0, .slice none 0 0, .int .i64 0, .int .i64 0, .bool false] 37 (0, 0)) := by rw [hW1]; exact heap_alloc2 _ _ _
  have m0 : W1.cell? ⟨w.heap.size, 0, none⟩ = some (.int .i64 z) := box_cell x0 0 _ rfl
  have m1 : W1.cell? ⟨w.heap.size, 1, none⟩ = some (.slice A n0 a) := box_cell x0 1 _ rfl
  have m2 : W1.cell? ⟨w.heap.size, 2, none⟩ = some (.slice B n1 b) := box_cell x0 2 _ rfl
  have m3 : W1.cell? ⟨w.heap.size, 3, none⟩ = some (.slice C n2 c) := box_cell x0 3 _ rfl
  have m4 : W1.cell? ⟨w.heap.size, 4, none⟩ = some (.int .i64 cn) := box_cell x0 4 _ rfl
  have m5 : W1.cell? ⟨w.heap.size, 5, none⟩ = some (.int .i64 wt) := box_cell x0 5 _ rfl
  have m6 : W1.cell? ⟨w.heap.size, 6, none⟩ = some (.bool dn) := box_cell x0 6 _ rfl
  have HR := Lib.hid (hRf W1)
  have HX := Lib.hid (And.intro hb1 (And.intro x0 x1))
  have HC := Lib.hid (And.intro hA (And.intro hB (And.intro hC hb)))
  have i1 : decide ((z : Int) < (n1 : Int) + (k : Int)) = false := decide_eq_false (by omega)
  have i2 : IntKind.i64.wrap ((n1 : Int) + (k : Int)) = (n1 : Int) + (k : Int) := by rw [IntKind.wrap_i64]; omega
  clear hA hB hC hb1 x0 x1 h hk hRf hz hn0 hn1 hn2 hcn hwt hdn hb
  go_enter Try.func78, Try.ntmps78
  go_wp2_with fail
  rw [← hW1]
  clear hW1
  refine HR.out.mono ?_
  rintro e w1 ⟨rfl, hb1⟩
  have y0 := heap_below HX.out.2.1 hb1
  have HB := Lib.hid (And.intro (bthen HX.out.1 hb1) (And.intro y0 hb1))
  clear m0 m1 m2 m3 m4 m5 m6
  have m0 : w1.cell? ⟨w.heap.size, 0, none⟩ = some (.int .i64 z) := box_cell y0 0 _ rfl
  have m1 : w1.cell? ⟨w.heap.size, 1, none⟩ = some (.slice A n0 a) := box_cell y0 1 _ rfl
  have m2 : w1.cell? ⟨w.heap.size, 2, none⟩ = some (.slice B n1 b) := box_cell y0 2 _ rfl
  have m3 : w1.cell? ⟨w.heap.size, 3, none⟩ = some (.slice C n2 c) := box_cell y0 3 _ rfl
  have m4 : w1.cell? ⟨w.heap.size, 4, none⟩ = some (.int .i64 cn) := box_cell y0 4 _ rfl
  have m5 : w1.cell? ⟨w.heap.size, 5, none⟩ = some (.int .i64 wt) := box_cell y0 5 _ rfl
  have m6 : w1.cell? ⟨w.heap.size, 6, none⟩ = some (.bool dn) := box_cell y0 6 _ rfl
  clear y0 hb1 HR
  go_wp2_with fail
  go_region_held3 (fun w' => w'.cell? ⟨w.heap.size, 0, none⟩ = some (.int .i64 z) ∧ w'.cell? ⟨w.heap.size, 1, none⟩ = some (.slice A n0 a) ∧ w'.cell? ⟨w.heap.size, 2, none⟩ = some (.slice B n1 b) ∧ w'.cell? ⟨w.heap.size, 3, none⟩ = some (.slice C n2 c) ∧ w'.cell? ⟨w.heap.size, 4, none⟩ = some (.int .i64 cn) ∧ w'.cell? ⟨w.heap.size, 5, none⟩ = some (.int .i64 wt) ∧ w'.cell? ⟨w.heap.size, 6, none⟩ = some (.bool dn))
    (first | exact ⟨m0, m1, m2, m3, m4, m5, m6⟩ | exact p7 | go_keep)
    (first
      | (go_at_call 119; refine (HG.out _).mono ?_; rintro e w2 ⟨rfl, hb2⟩; have p7 : w2.cell? ⟨w.heap.size, 0, none⟩ = some (.int .i64 z) ∧ w2.cell? ⟨w.heap.size, 1, none⟩ = some (.slice A n0 a) ∧ w2.cell? ⟨w.heap.size, 2, none⟩ = some (.slice B n1 b) ∧ w2.cell? ⟨w.heap.size, 3, none⟩ = some (.slice C n2 c) ∧ w2.cell? ⟨w.heap.size, 4, none⟩ = some (.int .i64 cn) ∧ w2.cell? ⟨w.heap.size, 5, none⟩ = some (.int .i64 wt) ∧ w2.cell? ⟨w.heap.size, 6, none⟩ = some (.bool dn) := (let y := heap_below (w := w1.drew) HB.out.2.1 hb2; ⟨box_cell y 0 _ rfl, box_cell y 1 _ rfl, box_cell y 2 _ rfl, box_cell y 3 _ rfl, box_cell y 4 _ rfl, box_cell y 5 _ rfl, box_cell y 6 _ rfl⟩)))
  have hb2' : Below w1.heap.size w1 w2 := bthen ((Below.refl _ _).drew) hb2
  have y0 := heap_below HB.out.2.1 hb2'
  have HB2 := Lib.hid (And.intro (bthen HB.out.1 hb2') (And.intro y0 (bthen HB.out.2.2 hb2')))
  clear m0 m1 m2 m3 m4 m5 m6 HB p7
  have m0 : w2.cell? ⟨w.heap.size, 0, none⟩ = some (.int .i64 z) := box_cell y0 0 _ rfl
  have m1 : w2.cell? ⟨w.heap.size, 1, none⟩ = some (.slice A n0 a) := box_cell y0 1 _ rfl
  have m2 : w2.cell? ⟨w.heap.size, 2, none⟩ = some (.slice B n1 b) := box_cell y0 2 _ rfl
  have m3 : w2.cell? ⟨w.heap.size, 3, none⟩ = some (.slice C n2 c) := box_cell y0 3 _ rfl
  have m4 : w2.cell? ⟨w.heap.size, 4, none⟩ = some (.int .i64 cn) := box_cell y0 4 _ rfl
  have m5 : w2.cell? ⟨w.heap.size, 5, none⟩ = some (.int .i64 wt) := box_cell y0 5 _ rfl
  have m6 : w2.cell? ⟨w.heap.size, 6, none⟩ = some (.bool dn) := box_cell y0 6 _ rfl
  clear y0 hb2 hb2'
  go_wp2_with (first | (at_builtin; refine Stopped.out ?_) | (at_make; refine Stopped.out ?_))
  refine (HSt.out _ (HC.out.2.2.1.below HB2.out.1)).mono ?_
  rintro e w3 ⟨C2, c2, rfl, hC2, hor, hb3⟩
  have HB3 := Lib.hid (And.intro (bthen HB2.out.1 hb3) (And.intro (bthen HB2.out.2.2 hb3) hC2))
  have hb1lt : w.heap.size + 1 < w2.heap.size := by have h1 := cell_lt (box_cell (heap_below HX.out.2.2 HB2.out.2.2) 0 _ rfl); simpa using h1
  have HOR := Lib.hid (And.intro hor hb1lt)
  clear m0 m1 m2 m3 m4 m5 m6 hC2 hb3 HSt hor hb1lt
  obtain ⟨W4, hW4⟩ : ∃ W4, W4 = w3.alloc (.cells #[.int .i64 z, .slice A n0 a, .slice B n1 b, .slice C2 N2 c2, .int .i64 CN, .int .i64 WT, .bool DN] 37) := ⟨_, rfl⟩
  have hb4 : Below w3.heap.size w3 W4 := by rw [hW4]; exact (Below.refl _ _).alloc (Nat.le_refl _) _
  have x9 : W4.heap[w3.heap.size]? = some (.cells #[.int .i64 z, .slice A n0 a, .slice B n1 b, .slice C2 N2 c2, .int .i64 CN, .int .i64 WT, .bool DN] 37 (0, 0)) := by rw [hW4]; exact heap_alloc_new _ _
  have y0 := heap_below (heap_below HX.out.2.1 HB3.out.2.1) hb4
  have y1 := heap_below (heap_below HX.out.2.2 HB3.out.2.1) hb4
  have HB4 := Lib.hid (And.intro (bthen HB3.out.1 hb4) (And.intro y0 (And.intro y1 (And.intro x9 (HB3.out.2.2.below hb4)))))
  have m0 : W4.cell? ⟨w.heap.size, 0, none⟩ = some (.int .i64 z) := box_cell y0 0 _ rfl
  have m1 : W4.cell? ⟨w.heap.size, 1, none⟩ = some (.slice A n0 a) := box_cell y0 1 _ rfl
  have m2 : W4.cell? ⟨w.heap.size, 2, none⟩ = some (.slice B n1 b) := box_cell y0 2 _ rfl
  have m3 : W4.cell? ⟨w.heap.size, 3, none⟩ = some (.slice C n2 c) := box_cell y0 3 _ rfl
  have m4 : W4.cell? ⟨w.heap.size, 4, none⟩ = some (.int .i64 cn) := box_cell y0 4 _ rfl
  have m5 : W4.cell? ⟨w.heap.size, 5, none⟩ = some (.int .i64 wt) := box_cell y0 5 _ rfl
  have m6 : W4.cell? ⟨w.heap.size, 6, none⟩ = some (.bool dn) := box_cell y0 6 _ rfl
  have hne9 : w3.heap.size ≠ w.heap.size + 1 := fun e => by have h1 := (cell_lt (box_cell HX.out.2.2 0 _ rfl)); have h2 := HB3.out.2.1.size; simp at h1; omega
  obtain ⟨g9, hg9⟩ : ∃ g, g = w3.heap.size := ⟨_, rfl⟩
  rw [← hg9] at HB4 hne9
  clear hb4 x9 y0 y1
  go_wp2_with fail
  rw [← hW4, ← hg9]
  clear hW4 hg9 HB2
  go_region_held3 (fun w' => w'.cell? ⟨w.heap.size, 0, none⟩ = some (.int .i64 z) ∧ w'.cell? ⟨w.heap.size, 1, none⟩ = some (.slice A n0 a) ∧ w'.cell? ⟨w.heap.size, 2, none⟩ = some (.slice B n1 b) ∧ w'.cell? ⟨w.heap.size, 3, none⟩ = some (.slice C n2 c) ∧ w'.cell? ⟨w.heap.size, 4, none⟩ = some (.int .i64 cn) ∧ w'.cell? ⟨w.heap.size, 5, none⟩ = some (.int .i64 wt) ∧ w'.cell? ⟨w.heap.size, 6, none⟩ = some (.bool dn))
    (first | exact ⟨m0, m1, m2, m3, m4, m5, m6⟩ | exact q7 | exact p7 | go_keep)
    (first
      | (go_at_call 81; refine (ref_upTo _ (HC.out.2.1.below (bthen HB4.out.1 (bthen ((Below.refl _ _).drew) hb5))) _ (by omega)).mono ?_; rintro e w6 ⟨u6, rfl, o6, hb6⟩; have q7 : w6.cell? ⟨w.heap.size, 0, none⟩ = some (.int .i64 z) ∧ w6.cell? ⟨w.heap.size, 1, none⟩ = some (.slice A n0 a) ∧ w6.cell? ⟨w.heap.size, 2, none⟩ = some (.slice B n1 b) ∧ w6.cell? ⟨w.heap.size, 3, none⟩ = some (.slice C n2 c) ∧ w6.cell? ⟨w.heap.size, 4, none⟩ = some (.int .i64 cn) ∧ w6.cell? ⟨w.heap.size, 5, none⟩ = some (.int .i64 wt) ∧ w6.cell? ⟨w.heap.size, 6, none⟩ = some (.bool dn) := (let y := heap_below (heap_below (w := W4.drew) HB4.out.2.1 hb5) hb6; ⟨box_cell y 0 _ rfl, box_cell y 1 _ rfl, box_cell y 2 _ rfl, box_cell y 3 _ rfl, box_cell y 4 _ rfl, box_cell y 5 _ rfl, box_cell y 6 _ rfl⟩))
      | (go_at_call 119; refine (HG.out _).mono ?_; rintro e w5 ⟨rfl, hb5⟩; have p7 : w5.cell? ⟨w.heap.size, 0, none⟩ = some (.int .i64 z) ∧ w5.cell? ⟨w.heap.size, 1, none⟩ = some (.slice A n0 a) ∧ w5.cell? ⟨w.heap.size, 2, none⟩ = some (.slice B n1 b) ∧ w5.cell? ⟨w.heap.size, 3, none⟩ = some (.slice C n2 c) ∧ w5.cell? ⟨w.heap.size, 4, none⟩ = some (.int .i64 cn) ∧ w5.cell? ⟨w.heap.size, 5, none⟩ = some (.int .i64 wt) ∧ w5.cell? ⟨w.heap.size, 6, none⟩ = some (.bool dn) := (let y := heap_below (w := W4.drew) HB4.out.2.1 hb5; ⟨box_cell y 0 _ rfl, box_cell y 1 _ rfl, box_cell y 2 _ rfl, box_cell y 3 _ rfl, box_cell y 4 _ rfl, box_cell y 5 _ rfl, box_cell y 6 _ rfl⟩)))
  have hb6' : Below W4.heap.size W4 w6 := bthen (bthen ((Below.refl _ _).drew) hb5) hb6
  rw [HTk.out] at o6
  have e6 : s.b1.length = n1 := HE.out.2.2.1.symm
  rw [e6] at o6
  have x9 := heap_below HB4.out.2.2.2.1 hb6'
  have HB6 := Lib.hid (And.intro (bthen HB4.out.1 hb6') (And.intro hb6' (And.intro x9 (own_mono o6 (show W4.heap.size ≤ w5.heap.size by have := hb5.size; simpa using this)))))
  have c7 : w6.cell? ⟨g9, 0, none⟩ = some (.int .i64 z) ∧ w6.cell? ⟨g9, 1, none⟩ = some (.slice A n0 a) ∧ w6.cell? ⟨g9, 2, none⟩ = some (.slice B n1 b) ∧ w6.cell? ⟨g9, 3, none⟩ = some (.slice C2 N2 c2) ∧ w6.cell? ⟨g9, 4, none⟩ = some (.int .i64 CN) ∧ w6.cell? ⟨g9, 5, none⟩ = some (.int .i64 WT) ∧ w6.cell? ⟨g9, 6, none⟩ = some (.bool DN) := ⟨box_cell x9 0 _ rfl, box_cell x9 1 _ rfl, box_cell x9 2 _ rfl, box_cell x9 3 _ rfl, box_cell x9 4 _ rfl, box_cell x9 5 _ rfl, box_cell x9 6 _ rfl⟩
  clear m0 m1 m2 m3 m4 m5 m6 p7 q7 hb5 hb6 hb6' o6 x9 e6
  have hlD : Sl w6.drew 1 D k d (l.map by8) := HC.out.2.2.2.below (bthen HB6.out.1 ((Below.refl _ _).drew))
  have HlD := Lib.hid hlD
  clear hlD
  go_wp2_with fail
  go_region_held3 (fun w' => w'.cell? ⟨g9, 0, none⟩ = some (.int .i64 z) ∧ w'.cell? ⟨g9, 1, none⟩ = some (.slice A n0 a) ∧ w'.cell? ⟨g9, 2, none⟩ = some (.slice B n1 b) ∧ w'.cell? ⟨g9, 3, none⟩ = some (.slice C2 N2 c2) ∧ w'.cell? ⟨g9, 4, none⟩ = some (.int .i64 CN) ∧ w'.cell? ⟨g9, 5, none⟩ = some (.int .i64 WT) ∧ w'.cell? ⟨g9, 6, none⟩ = some (.bool DN))
    (first | with_reducible exact t7 | with_reducible exact r7 | with_reducible exact e7 | with_reducible exact c7 | exact ⟨s7.2.cell t7.1 (by simpa using hne9), s7.2.cell t7.2.1 (by simpa using hne9), s7.2.cell t7.2.2.1 (by simpa using hne9), s7.2.cell t7.2.2.2.1 (by simpa using hne9), s7.2.cell t7.2.2.2.2.1 (by simpa using hne9), s7.2.cell t7.2.2.2.2.2.1 (by simpa using hne9), s7.2.cell t7.2.2.2.2.2.2 (by simpa using hne9)⟩ | exact c7 | go_keep)
    (first
      | (go_at_call 121; refine (ref_with1 _ z CN WT A B C2 n0 n1 N2 a b c2 DN D8 _ d8 1 (by decide)).mono ?_; rintro e w9 ⟨rfl, hb9⟩; have y1 := heap_below (heap_below HB4.out.2.2.1 hb8) hb9; have s7 := set7 (.int .i64 z) (.slice A n0 a) (.slice D8 (n1 + k) d8) (.slice C2 N2 c2) (.int .i64 CN) (.int .i64 WT) (.bool DN) y1; have t7 : w9.cell? ⟨g9, 0, none⟩ = some (.int .i64 z) ∧ w9.cell? ⟨g9, 1, none⟩ = some (.slice A n0 a) ∧ w9.cell? ⟨g9, 2, none⟩ = some (.slice B n1 b) ∧ w9.cell? ⟨g9, 3, none⟩ = some (.slice C2 N2 c2) ∧ w9.cell? ⟨g9, 4, none⟩ = some (.int .i64 CN) ∧ w9.cell? ⟨g9, 5, none⟩ = some (.int .i64 WT) ∧ w9.cell? ⟨g9, 6, none⟩ = some (.bool DN) := (let y := heap_below (heap_below HB4.out.2.2.2.1 hb8) hb9; ⟨box_cell y 0 _ rfl, box_cell y 1 _ rfl, box_cell y 2 _ rfl, box_cell y 3 _ rfl, box_cell y 4 _ rfl, box_cell y 5 _ rfl, box_cell y 6 _ rfl⟩); have rr : w9.cell? ⟨w.heap.size + 1, 0, none⟩ = some (.int .i64 0) ∧ w9.cell? ⟨w.heap.size + 1, 1, none⟩ = some (.slice none 0 0) ∧ w9.cell? ⟨w.heap.size + 1, 2, none⟩ = some (.slice none 0 0) ∧ w9.cell? ⟨w.heap.size + 1, 3, none⟩ = some (.slice none 0 0) ∧ w9.cell? ⟨w.heap.size + 1, 4, none⟩ = some (.int .i64 0) ∧ w9.cell? ⟨w.heap.size + 1, 5, none⟩ = some (.int .i64 0) ∧ w9.cell? ⟨w.heap.size + 1, 6, none⟩ = some (.bool false) := ⟨box_cell y1 0 _ rfl, box_cell y1 1 _ rfl, box_cell y1 2 _ rfl, box_cell y1 3 _ rfl, box_cell y1 4 _ rfl, box_cell y1 5 _ rfl, box_cell y1 6 _ rfl⟩; obtain ⟨r0, r1, r2, r3, r4, r5, r6⟩ := rr; have g0 := box_free y1 0; have g1 := box_free y1 1; have g2 := box_free y1 2; have g3 := box_free y1 3; have g4 := box_free y1 4; have g5 := box_free y1 5; have g6 := box_free y1 6)
      | (refine ap_step EF (by rfl) _ _ (by rfl) (by rfl) (own_below HB6.out.2.2.2 ((Below.refl _ _).drew)) (by rfl) (HlD.out) (u8_one _) (by simp only [maxLen]; omega) (by omega) (HB6.out.2.1.size) ?_; intro v8 w8 o8 hg8 _; rw [← List.map_append] at o8; have hb8 : Below W4.heap.size W4 w8 := (HB6.out.2.1.drew).grown hg8 (HB6.out.2.1.size) (fun k hk => (HB6.out.2.2.2.lt k hk).1); have r7 : w8.cell? ⟨g9, 0, none⟩ = some (.int .i64 z) ∧ w8.cell? ⟨g9, 1, none⟩ = some (.slice A n0 a) ∧ w8.cell? ⟨g9, 2, none⟩ = some (.slice B n1 b) ∧ w8.cell? ⟨g9, 3, none⟩ = some (.slice C2 N2 c2) ∧ w8.cell? ⟨g9, 4, none⟩ = some (.int .i64 CN) ∧ w8.cell? ⟨g9, 5, none⟩ = some (.int .i64 WT) ∧ w8.cell? ⟨g9, 6, none⟩ = some (.bool DN) := (let y := heap_below HB4.out.2.2.2.1 hb8; ⟨box_cell y 0 _ rfl, box_cell y 1 _ rfl, box_cell y 2 _ rfl, box_cell y 3 _ rfl, box_cell y 4 _ rfl, box_cell y 5 _ rfl, box_cell y 6 _ rfl⟩); obtain ⟨D8, d8, rfl, so8, hD8⟩ := own_sl o8))
  have HZ := Lib.hid (And.intro s7 (And.intro so8 (And.intro hD8 (And.intro hb8 hb9))))
  clear s7 so8 hD8 hb8 hb9 t7 r7 c7 r0 r1 r2 r3 r4 r5 r6 g0 g1 g2 g3 g4 g5 g6 y1
  go_wp2
  obtain ⟨s7, so8, hD8, hb8, hb9⟩ := HZ.out
  refine bodyPost_ret (results_c2 (P := Try.prog) rfl _ _ _ _ _ _ _ (by rfl) s7.1 Try.underlying37 rfl (by kernel_rfl)) rfl ?_
  have hb98 := bthen hb8 hb9
  have hbz := bthen HB4.out.1 hb98
  have hb3 := s7.2.below hbz hbz.size (fun x hx => by simp at hx; omega)
  have hb1W : w.heap.size + 1 < W4.heap.size := by have h1 := cell_lt (box_cell HB4.out.2.2.1 0 _ rfl); simpa using h1
  obtain ⟨e0, e1, e2, e3, e4, e5, e6⟩ := HE.out
  obtain ⟨f0, f1, f2, f3, f4⟩ := HE2.out
  have eA : addB (strikeF s) 1 l = { strikeF s with b1 := s.b1 ++ l } := by rw [addB]; simp [strikeF_b1]
  rw [eA]
  have slA : Sl w9 1 D8 (n1 + k) d8 ((s.b1 ++ l).map by8) := so8.below hb9
  have slA2 := slA.keep s7.2 (fun ad e hx => by have h1 := (hD8 ad e).1; simp at hx; omega)
  have hnD := (fun ad e => Nat.le_trans HB4.out.1.size (hD8 ad e).1)
  have hnC : Ap Xs C2 (strikeF s).armed.length := Ap.either HOR.out.1 HAp.out.2.2 (fun h => by rw [h]) (fun x hx => by have h1 := hXs x hx; have h2 := HOR.out.2; omega)
  refine ⟨_, rfl, ⟨A, D8, C2, a, d8, c2, ?_, ?_, ?_, ?_, HAp.out.1.cast (by simp only [strikeF_b0]), Ap.new hXs hnD, hnC⟩, hb3⟩
  · simp only [refV, List.length_append, strikeF_size, strikeF_b0, strikeF_b1, hkl, ← e0, ← e1, ← e2, ← f0, ← f1, ← f2, ← f3]
  · simp only [List.length_append, strikeF_b0, hkl, ← e1]
    exact HC.out.1.below hb3
  · simp only [List.length_append, strikeF_b1, hkl, ← e2]
    exact slA2
  · simp only [← f0]
    rcases HOR.out.1 with ⟨g0, g1, g2⟩ | g
    · have hh := HC.out.2.2.1.below hb3
      rw [← g0, ← g1, ← g2, show n2 = N2 by rw [f0, g2, ← e3]] at hh
      exact hh
    · refine (HB4.out.2.2.2.2.below hb98).keep s7.2 (fun ad e hx => ?_)
      have h1 := g ad e
      have h2 := HOR.out.2
      simp at hx; omega
set_option maxRecDepth 100000 in
set_option maxHeartbeats 3200000 in
theorem ref_Append_ok1s (w : World) {v : List Value} {s : FSt} {Xs : List Nat} (h : RFl w v s Xs) (hk : FOk s) (hr : refusedF s 1 = 0) (hst : struckF s = true) {D : Option Addr} {k d : Nat} {l : List UInt8} (hb : Sl w 1 D k d (l.map by8)) (hkm : k ≤ 140737488355328) (hf : s.b1.length + k ≤ s.size) (hXs : ∀ x ∈ Xs, x < w.heap.size) :
    Calls Try.prog 78 #[.agg v.toArray, .int .i64 1, .slice D k d] w fun e w' => ∃ v', e = .returned (.tuple #[.agg v'.toArray, .int .i64 121]) ∧ RFl w' v' (addB (strikeF s) 1 (l.take (keepF s))) Xs ∧ Below w.heap.size w w' := by
  have hkl : l.length = k := by simpa using hb.len
  have hd1 := hb.le; have hd2 := hb.max
  obtain ⟨A, B, C, a, b, c, rfl, hA, hB, hC, hAp⟩ := h.out
  have HAp := Lib.hid hAp
  clear hAp
  rw [refV_eq]
  have hRf := fun w1 => ref_refusedG w1 s A B C a b c 1
  have hG := fun w1 => ref_bankG1 w1 s.size s.count s.writes A B C s.b0.length s.b1.length s.armed.length a b c s.down 1 (by decide)
  have hSt := fun w1 (h1 : Sl w1 2 C s.armed.length c (crashL s.armed)) => ref_struck w1 s hk s.size A B C s.b0.length s.b1.length a b c h1
  have HG := Lib.hid hG
  have hzz := hk.size
  have HTk : Hid (s.b1.take s.size = s.b1) := Lib.hid (List.take_of_length_le hk.b1)
  rw [hr] at hRf
  clear hr hG
  obtain ⟨z, hz⟩ : ∃ z, z = s.size := ⟨_, rfl⟩
  obtain ⟨n0, hn0⟩ : ∃ z, z = s.b0.length := ⟨_, rfl⟩
  obtain ⟨n1, hn1⟩ : ∃ z, z = s.b1.length := ⟨_, rfl⟩
  obtain ⟨n2, hn2⟩ : ∃ z, z = s.armed.length := ⟨_, rfl⟩
  obtain ⟨cn, hcn⟩ : ∃ z, z = s.count := ⟨_, rfl⟩
  obtain ⟨wt, hwt⟩ : ∃ z, z = s.writes := ⟨_, rfl⟩
  obtain ⟨dn, hdn⟩ : ∃ z, z = s.down := ⟨_, rfl⟩
  have HE := Lib.hid (And.intro hz (And.intro hn0 (And.intro hn1 (And.intro hn2 (And.intro hcn (And.intro hwt hdn))))))
  rw [← hz, ← hn0, ← hn1, ← hn2, ← hcn, ← hwt, ← hdn] at hRf
  rw [← hz, ← hn0, ← hn1, ← hn2, ← hcn, ← hwt, ← hdn]
  rw [← hn0] at hA; rw [← hn1] at hB; rw [← hn2] at hC
  rw [← hz, ← hn0, ← hn1, ← hn2, ← hcn, ← hwt, ← hdn] at HG hSt
  rw [← hz] at hf hzz HTk
  rw [← hn1] at hf
  obtain ⟨N2, hN2⟩ : ∃ x, x = (strikeF s).armed.length := ⟨_, rfl⟩
  obtain ⟨CN, hCN⟩ : ∃ x, x = (strikeF s).count := ⟨_, rfl⟩
  obtain ⟨WT, hWT⟩ : ∃ x, x = (strikeF s).writes := ⟨_, rfl⟩
  obtain ⟨DN, hDN⟩ : ∃ x, x = (strikeF s).down := ⟨_, rfl⟩
  obtain ⟨KP, hKP⟩ : ∃ x, x = keepF s := ⟨_, rfl⟩
  have hSt : ∀ w1, Sl w1 2 C n2 c (crashL s.armed) → Calls Try.prog 120 #[.agg #[.int .i64 z, .slice A n0 a, .slice B n1 b, .slice C n2 c, .int .i64 cn, .int .i64 wt, .bool dn]] w1 fun e w' => ∃ C2 c2, e = .returned (.tuple #[.agg #[.int .i64 z, .slice A n0 a, .slice B n1 b, .slice C2 N2 c2, .int .i64 CN, .int .i64 WT, .bool DN], .bool true, .int .i64 KP]) ∧ Sl w' 2 C2 N2 c2 (crashL (strikeF s).armed) ∧ ((C2 = C ∧ c2 = c ∧ (strikeF s).armed = s.armed) ∨ ∀ ad, C2 = some ad → w1.heap.size ≤ ad.block) ∧ Below w1.heap.size w1 w' := by
    rw [hN2, hCN, hWT, hDN, hKP, ← hst]
    exact hSt
  have HSt := Lib.hid hSt
  have HE2 := Lib.hid (And.intro hN2 (And.intro hCN (And.intro hWT (And.intro hDN hKP))))
  clear hSt hN2 hCN hWT hDN hKP hst
  obtain ⟨LQ, hLQ⟩ : ∃ L, L = l.take (keepF s) := ⟨_, rfl⟩
  have hKP : KP = keepF s := HE2.out.2.2.2.2
  have hLQ' : l.take KP = LQ := by rw [hLQ, hKP]
  have hkq : LQ.length ≤ k := by rw [← hLQ', List.length_take]; omega
  rw [← hLQ]
  obtain ⟨kq, hkq2⟩ : ∃ x, x = LQ.length := ⟨_, rfl⟩
  rw [← hkq2] at hkq
  have HQ := Lib.hid (And.intro hLQ' hkq2)
  clear hLQ hKP hLQ' hkq2
  obtain ⟨W1, hW1⟩ : ∃ W1, W1 = (w.alloc (.cells #[.int .i64 z, .slice A n0 a, .slice B n1 b, .slice C n2 c, .int .i64 cn, .int .i64 wt, .bool dn] 37)).alloc (.cells #[.int .i64 0, .slice none 0 0, .slice none 0 0, .slice none 0 0, .int .i64 0, .int .i64 0, .bool false] 37) := ⟨_, rfl⟩
  have hb1 : Below w.heap.size w W1 := by rw [hW1]; exact below2 _ _ _
  have x0 : W1.heap[w.heap.size]? = some (.cells #[.int .i64 z, .slice A n0 a, .slice B n1 b, .slice C n2 c, .int .i64 cn, .int .i64 wt, .bool dn] 37 (0, 0)) := by rw [hW1]; exact heap_alloc1 _ _ _
  have x1 : W1.heap[w.heap.size + 1]? = some (.cells #[.int .i64 0, .slice none 0 0, .slice none 0 0, .slice none 0 0, .int .i64 0, .int .i64 0, .bool false] 37 (0, 0)) := by rw [hW1]; exact heap_alloc2 _ _ _
  have m0 : W1.cell? ⟨w.heap.size, 0, none⟩ = some (.int .i64 z) := box_cell x0 0 _ rfl
  have m1 : W1.cell? ⟨w.heap.size, 1, none⟩ = some (.slice A n0 a) := box_cell x0 1 _ rfl
  have m2 : W1.cell? ⟨w.heap.size, 2, none⟩ = some (.slice B n1 b) := box_cell x0 2 _ rfl
  have m3 : W1.cell? ⟨w.heap.size, 3, none⟩ = some (.slice C n2 c) := box_cell x0 3 _ rfl
  have m4 : W1.cell? ⟨w.heap.size, 4, none⟩ = some (.int .i64 cn) := box_cell x0 4 _ rfl
  have m5 : W1.cell? ⟨w.heap.size, 5, none⟩ = some (.int .i64 wt) := box_cell x0 5 _ rfl
  have m6 : W1.cell? ⟨w.heap.size, 6, none⟩ = some (.bool dn) := box_cell x0 6 _ rfl
  have HR := Lib.hid (hRf W1)
  have HX := Lib.hid (And.intro hb1 (And.intro x0 x1))
  have HC := Lib.hid (And.intro hA (And.intro hB (And.intro hC hb)))
  have i1 : decide ((z : Int) < (n1 : Int) + (k : Int)) = false := decide_eq_false (by omega)
  have i2 : IntKind.i64.wrap ((n1 : Int) + (k : Int)) = (n1 : Int) + (k : Int) := by rw [IntKind.wrap_i64]; omega
  clear hA hB hC hb1 x0 x1 h hk hRf hz hn0 hn1 hn2 hcn hwt hdn hb
  go_enter Try.func78, Try.ntmps78
  go_wp2_with fail
  rw [← hW1]
  clear hW1
  refine HR.out.mono ?_
  rintro e w1 ⟨rfl, hb1⟩
  have y0 := heap_below HX.out.2.1 hb1
  have HB := Lib.hid (And.intro (bthen HX.out.1 hb1) (And.intro y0 hb1))
  clear m0 m1 m2 m3 m4 m5 m6
  have m0 : w1.cell? ⟨w.heap.size, 0, none⟩ = some (.int .i64 z) := box_cell y0 0 _ rfl
  have m1 : w1.cell? ⟨w.heap.size, 1, none⟩ = some (.slice A n0 a) := box_cell y0 1 _ rfl
  have m2 : w1.cell? ⟨w.heap.size, 2, none⟩ = some (.slice B n1 b) := box_cell y0 2 _ rfl
  have m3 : w1.cell? ⟨w.heap.size, 3, none⟩ = some (.slice C n2 c) := box_cell y0 3 _ rfl
  have m4 : w1.cell? ⟨w.heap.size, 4, none⟩ = some (.int .i64 cn) := box_cell y0 4 _ rfl
  have m5 : w1.cell? ⟨w.heap.size, 5, none⟩ = some (.int .i64 wt) := box_cell y0 5 _ rfl
  have m6 : w1.cell? ⟨w.heap.size, 6, none⟩ = some (.bool dn) := box_cell y0 6 _ rfl
  clear y0 hb1 HR
  go_wp2_with fail
  go_region_held3 (fun w' => w'.cell? ⟨w.heap.size, 0, none⟩ = some (.int .i64 z) ∧ w'.cell? ⟨w.heap.size, 1, none⟩ = some (.slice A n0 a) ∧ w'.cell? ⟨w.heap.size, 2, none⟩ = some (.slice B n1 b) ∧ w'.cell? ⟨w.heap.size, 3, none⟩ = some (.slice C n2 c) ∧ w'.cell? ⟨w.heap.size, 4, none⟩ = some (.int .i64 cn) ∧ w'.cell? ⟨w.heap.size, 5, none⟩ = some (.int .i64 wt) ∧ w'.cell? ⟨w.heap.size, 6, none⟩ = some (.bool dn))
    (first | exact ⟨m0, m1, m2, m3, m4, m5, m6⟩ | exact p7 | go_keep)
    (first
      | (go_at_call 119; refine (HG.out _).mono ?_; rintro e w2 ⟨rfl, hb2⟩; have p7 : w2.cell? ⟨w.heap.size, 0, none⟩ = some (.int .i64 z) ∧ w2.cell? ⟨w.heap.size, 1, none⟩ = some (.slice A n0 a) ∧ w2.cell? ⟨w.heap.size, 2, none⟩ = some (.slice B n1 b) ∧ w2.cell? ⟨w.heap.size, 3, none⟩ = some (.slice C n2 c) ∧ w2.cell? ⟨w.heap.size, 4, none⟩ = some (.int .i64 cn) ∧ w2.cell? ⟨w.heap.size, 5, none⟩ = some (.int .i64 wt) ∧ w2.cell? ⟨w.heap.size, 6, none⟩ = some (.bool dn) := (let y := heap_below (w := w1.drew) HB.out.2.1 hb2; ⟨box_cell y 0 _ rfl, box_cell y 1 _ rfl, box_cell y 2 _ rfl, box_cell y 3 _ rfl, box_cell y 4 _ rfl, box_cell y 5 _ rfl, box_cell y 6 _ rfl⟩)))
  have hb2' : Below w1.heap.size w1 w2 := bthen ((Below.refl _ _).drew) hb2
  have y0 := heap_below HB.out.2.1 hb2'
  have HB2 := Lib.hid (And.intro (bthen HB.out.1 hb2') (And.intro y0 (bthen HB.out.2.2 hb2')))
  clear m0 m1 m2 m3 m4 m5 m6 HB p7
  have m0 : w2.cell? ⟨w.heap.size, 0, none⟩ = some (.int .i64 z) := box_cell y0 0 _ rfl
  have m1 : w2.cell? ⟨w.heap.size, 1, none⟩ = some (.slice A n0 a) := box_cell y0 1 _ rfl
  have m2 : w2.cell? ⟨w.heap.size, 2, none⟩ = some (.slice B n1 b) := box_cell y0 2 _ rfl
  have m3 : w2.cell? ⟨w.heap.size, 3, none⟩ = some (.slice C n2 c) := box_cell y0 3 _ rfl
  have m4 : w2.cell? ⟨w.heap.size, 4, none⟩ = some (.int .i64 cn) := box_cell y0 4 _ rfl
  have m5 : w2.cell? ⟨w.heap.size, 5, none⟩ = some (.int .i64 wt) := box_cell y0 5 _ rfl
  have m6 : w2.cell? ⟨w.heap.size, 6, none⟩ = some (.bool dn) := box_cell y0 6 _ rfl
  clear y0 hb2 hb2'
  go_wp2_with (first | (at_builtin; refine Stopped.out ?_) | (at_make; refine Stopped.out ?_))
  refine (HSt.out _ (HC.out.2.2.1.below HB2.out.1)).mono ?_
  rintro e w3 ⟨C2, c2, rfl, hC2, hor, hb3⟩
  have HB3 := Lib.hid (And.intro (bthen HB2.out.1 hb3) (And.intro (bthen HB2.out.2.2 hb3) hC2))
  have hb1lt : w.heap.size + 1 < w2.heap.size := by have h1 := cell_lt (box_cell (heap_below HX.out.2.2 HB2.out.2.2) 0 _ rfl); simpa using h1
  have HOR := Lib.hid (And.intro hor hb1lt)
  clear m0 m1 m2 m3 m4 m5 m6 hC2 hb3 HSt hor hb1lt
  obtain ⟨W4, hW4⟩ : ∃ W4, W4 = w3.alloc (.cells #[.int .i64 z, .slice A n0 a, .slice B n1 b, .slice C2 N2 c2, .int .i64 CN, .int .i64 WT, .bool DN] 37) := ⟨_, rfl⟩
  have hb4 : Below w3.heap.size w3 W4 := by rw [hW4]; exact (Below.refl _ _).alloc (Nat.le_refl _) _
  have x9 : W4.heap[w3.heap.size]? = some (.cells #[.int .i64 z, .slice A n0 a, .slice B n1 b, .slice C2 N2 c2, .int .i64 CN, .int .i64 WT, .bool DN] 37 (0, 0)) := by rw [hW4]; exact heap_alloc_new _ _
  have y0 := heap_below (heap_below HX.out.2.1 HB3.out.2.1) hb4
  have y1 := heap_below (heap_below HX.out.2.2 HB3.out.2.1) hb4
  have HB4 := Lib.hid (And.intro (bthen HB3.out.1 hb4) (And.intro y0 (And.intro y1 (And.intro x9 (HB3.out.2.2.below hb4)))))
  have m0 : W4.cell? ⟨w.heap.size, 0, none⟩ = some (.int .i64 z) := box_cell y0 0 _ rfl
  have m1 : W4.cell? ⟨w.heap.size, 1, none⟩ = some (.slice A n0 a) := box_cell y0 1 _ rfl
  have m2 : W4.cell? ⟨w.heap.size, 2, none⟩ = some (.slice B n1 b) := box_cell y0 2 _ rfl
  have m3 : W4.cell? ⟨w.heap.size, 3, none⟩ = some (.slice C n2 c) := box_cell y0 3 _ rfl
  have m4 : W4.cell? ⟨w.heap.size, 4, none⟩ = some (.int .i64 cn) := box_cell y0 4 _ rfl
  have m5 : W4.cell? ⟨w.heap.size, 5, none⟩ = some (.int .i64 wt) := box_cell y0 5 _ rfl
  have m6 : W4.cell? ⟨w.heap.size, 6, none⟩ = some (.bool dn) := box_cell y0 6 _ rfl
  have hne9 : w3.heap.size ≠ w.heap.size + 1 := fun e => by have h1 := (cell_lt (box_cell HX.out.2.2 0 _ rfl)); have h2 := HB3.out.2.1.size; simp at h1; omega
  obtain ⟨g9, hg9⟩ : ∃ g, g = w3.heap.size := ⟨_, rfl⟩
  rw [← hg9] at HB4 hne9
  clear hb4 x9 y0 y1
  go_wp2_with fail
  rw [← hW4, ← hg9]
  clear hW4 hg9 HB2
  go_region_held3 (fun w' => w'.cell? ⟨w.heap.size, 0, none⟩ = some (.int .i64 z) ∧ w'.cell? ⟨w.heap.size, 1, none⟩ = some (.slice A n0 a) ∧ w'.cell? ⟨w.heap.size, 2, none⟩ = some (.slice B n1 b) ∧ w'.cell? ⟨w.heap.size, 3, none⟩ = some (.slice C n2 c) ∧ w'.cell? ⟨w.heap.size, 4, none⟩ = some (.int .i64 cn) ∧ w'.cell? ⟨w.heap.size, 5, none⟩ = some (.int .i64 wt) ∧ w'.cell? ⟨w.heap.size, 6, none⟩ = some (.bool dn))
    (first | exact ⟨m0, m1, m2, m3, m4, m5, m6⟩ | exact q7 | exact p7 | go_keep)
    (first
      | (go_at_call 81; refine (ref_upTo _ (HC.out.2.1.below (bthen HB4.out.1 (bthen ((Below.refl _ _).drew) hb5))) _ (by omega)).mono ?_; rintro e w6 ⟨u6, rfl, o6, hb6⟩; have q7 : w6.cell? ⟨w.heap.size, 0, none⟩ = some (.int .i64 z) ∧ w6.cell? ⟨w.heap.size, 1, none⟩ = some (.slice A n0 a) ∧ w6.cell? ⟨w.heap.size, 2, none⟩ = some (.slice B n1 b) ∧ w6.cell? ⟨w.heap.size, 3, none⟩ = some (.slice C n2 c) ∧ w6.cell? ⟨w.heap.size, 4, none⟩ = some (.int .i64 cn) ∧ w6.cell? ⟨w.heap.size, 5, none⟩ = some (.int .i64 wt) ∧ w6.cell? ⟨w.heap.size, 6, none⟩ = some (.bool dn) := (let y := heap_below (heap_below (w := W4.drew) HB4.out.2.1 hb5) hb6; ⟨box_cell y 0 _ rfl, box_cell y 1 _ rfl, box_cell y 2 _ rfl, box_cell y 3 _ rfl, box_cell y 4 _ rfl, box_cell y 5 _ rfl, box_cell y 6 _ rfl⟩))
      | (go_at_call 119; refine (HG.out _).mono ?_; rintro e w5 ⟨rfl, hb5⟩; have p7 : w5.cell? ⟨w.heap.size, 0, none⟩ = some (.int .i64 z) ∧ w5.cell? ⟨w.heap.size, 1, none⟩ = some (.slice A n0 a) ∧ w5.cell? ⟨w.heap.size, 2, none⟩ = some (.slice B n1 b) ∧ w5.cell? ⟨w.heap.size, 3, none⟩ = some (.slice C n2 c) ∧ w5.cell? ⟨w.heap.size, 4, none⟩ = some (.int .i64 cn) ∧ w5.cell? ⟨w.heap.size, 5, none⟩ = some (.int .i64 wt) ∧ w5.cell? ⟨w.heap.size, 6, none⟩ = some (.bool dn) := (let y := heap_below (w := W4.drew) HB4.out.2.1 hb5; ⟨box_cell y 0 _ rfl, box_cell y 1 _ rfl, box_cell y 2 _ rfl, box_cell y 3 _ rfl, box_cell y 4 _ rfl, box_cell y 5 _ rfl, box_cell y 6 _ rfl⟩)))
  have hb6' : Below W4.heap.size W4 w6 := bthen (bthen ((Below.refl _ _).drew) hb5) hb6
  rw [HTk.out] at o6
  have e6 : s.b1.length = n1 := HE.out.2.2.1.symm
  rw [e6] at o6
  have x9 := heap_below HB4.out.2.2.2.1 hb6'
  have HB6 := Lib.hid (And.intro (bthen HB4.out.1 hb6') (And.intro hb6' (And.intro x9 (own_mono o6 (show W4.heap.size ≤ w5.heap.size by have := hb5.size; simpa using this)))))
  have c7 : w6.cell? ⟨g9, 0, none⟩ = some (.int .i64 z) ∧ w6.cell? ⟨g9, 1, none⟩ = some (.slice A n0 a) ∧ w6.cell? ⟨g9, 2, none⟩ = some (.slice B n1 b) ∧ w6.cell? ⟨g9, 3, none⟩ = some (.slice C2 N2 c2) ∧ w6.cell? ⟨g9, 4, none⟩ = some (.int .i64 CN) ∧ w6.cell? ⟨g9, 5, none⟩ = some (.int .i64 WT) ∧ w6.cell? ⟨g9, 6, none⟩ = some (.bool DN) := ⟨box_cell x9 0 _ rfl, box_cell x9 1 _ rfl, box_cell x9 2 _ rfl, box_cell x9 3 _ rfl, box_cell x9 4 _ rfl, box_cell x9 5 _ rfl, box_cell x9 6 _ rfl⟩
  clear m0 m1 m2 m3 m4 m5 m6 p7 q7 hb5 hb6 hb6' o6 x9 e6
  have hlD : Sl w6.drew 1 D k d (l.map by8) := HC.out.2.2.2.below (bthen HB6.out.1 ((Below.refl _ _).drew))
  have HlD := Lib.hid hlD
  clear hlD
  go_wp2_with fail
  go_region_held3 (fun w' => w'.cell? ⟨g9, 0, none⟩ = some (.int .i64 z) ∧ w'.cell? ⟨g9, 1, none⟩ = some (.slice A n0 a) ∧ w'.cell? ⟨g9, 2, none⟩ = some (.slice B n1 b) ∧ w'.cell? ⟨g9, 3, none⟩ = some (.slice C2 N2 c2) ∧ w'.cell? ⟨g9, 4, none⟩ = some (.int .i64 CN) ∧ w'.cell? ⟨g9, 5, none⟩ = some (.int .i64 WT) ∧ w'.cell? ⟨g9, 6, none⟩ = some (.bool DN))
    (first | with_reducible exact t7 | with_reducible exact r7 | with_reducible exact e7 | with_reducible exact c7 | exact ⟨s7.2.cell t7.1 (by simpa using hne9), s7.2.cell t7.2.1 (by simpa using hne9), s7.2.cell t7.2.2.1 (by simpa using hne9), s7.2.cell t7.2.2.2.1 (by simpa using hne9), s7.2.cell t7.2.2.2.2.1 (by simpa using hne9), s7.2.cell t7.2.2.2.2.2.1 (by simpa using hne9), s7.2.cell t7.2.2.2.2.2.2 (by simpa using hne9)⟩ | exact c7 | go_keep)
    (first
      | (go_at_call 121; refine (ref_with1 _ z CN WT A B C2 n0 n1 N2 a b c2 DN D8 _ d8 1 (by decide)).mono ?_; rintro e w9 ⟨rfl, hb9⟩; have y1 := heap_below (heap_below HB4.out.2.2.1 hb8) hb9; have s7 := set7 (.int .i64 z) (.slice A n0 a) (.slice D8 (n1 + kq) d8) (.slice C2 N2 c2) (.int .i64 CN) (.int .i64 WT) (.bool DN) y1; have t7 : w9.cell? ⟨g9, 0, none⟩ = some (.int .i64 z) ∧ w9.cell? ⟨g9, 1, none⟩ = some (.slice A n0 a) ∧ w9.cell? ⟨g9, 2, none⟩ = some (.slice B n1 b) ∧ w9.cell? ⟨g9, 3, none⟩ = some (.slice C2 N2 c2) ∧ w9.cell? ⟨g9, 4, none⟩ = some (.int .i64 CN) ∧ w9.cell? ⟨g9, 5, none⟩ = some (.int .i64 WT) ∧ w9.cell? ⟨g9, 6, none⟩ = some (.bool DN) := (let y := heap_below (heap_below HB4.out.2.2.2.1 hb8) hb9; ⟨box_cell y 0 _ rfl, box_cell y 1 _ rfl, box_cell y 2 _ rfl, box_cell y 3 _ rfl, box_cell y 4 _ rfl, box_cell y 5 _ rfl, box_cell y 6 _ rfl⟩); have rr : w9.cell? ⟨w.heap.size + 1, 0, none⟩ = some (.int .i64 0) ∧ w9.cell? ⟨w.heap.size + 1, 1, none⟩ = some (.slice none 0 0) ∧ w9.cell? ⟨w.heap.size + 1, 2, none⟩ = some (.slice none 0 0) ∧ w9.cell? ⟨w.heap.size + 1, 3, none⟩ = some (.slice none 0 0) ∧ w9.cell? ⟨w.heap.size + 1, 4, none⟩ = some (.int .i64 0) ∧ w9.cell? ⟨w.heap.size + 1, 5, none⟩ = some (.int .i64 0) ∧ w9.cell? ⟨w.heap.size + 1, 6, none⟩ = some (.bool false) := ⟨box_cell y1 0 _ rfl, box_cell y1 1 _ rfl, box_cell y1 2 _ rfl, box_cell y1 3 _ rfl, box_cell y1 4 _ rfl, box_cell y1 5 _ rfl, box_cell y1 6 _ rfl⟩; obtain ⟨r0, r1, r2, r3, r4, r5, r6⟩ := rr; have g0 := box_free y1 0; have g1 := box_free y1 1; have g2 := box_free y1 2; have g3 := box_free y1 3; have g4 := box_free y1 4; have g5 := box_free y1 5; have g6 := box_free y1 6)
      | (refine ap_step EF (by rfl) _ _ (by rfl) (by rfl) (ow7) (by rfl) (so7) (u8_one _) (by simp only [maxLen]; omega) (by omega) (hb67.size) ?_; intro v8 w8 o8 hg8 _; rw [← List.map_append] at o8; have hb8 : Below W4.heap.size W4 w8 := (hb67).grown hg8 (hb67.size) (fun k hk => (HB6.out.2.2.2.lt k hk).1); have r7 : w8.cell? ⟨g9, 0, none⟩ = some (.int .i64 z) ∧ w8.cell? ⟨g9, 1, none⟩ = some (.slice A n0 a) ∧ w8.cell? ⟨g9, 2, none⟩ = some (.slice B n1 b) ∧ w8.cell? ⟨g9, 3, none⟩ = some (.slice C2 N2 c2) ∧ w8.cell? ⟨g9, 4, none⟩ = some (.int .i64 CN) ∧ w8.cell? ⟨g9, 5, none⟩ = some (.int .i64 WT) ∧ w8.cell? ⟨g9, 6, none⟩ = some (.bool DN) := (let y := heap_below HB4.out.2.2.2.1 hb8; ⟨box_cell y 0 _ rfl, box_cell y 1 _ rfl, box_cell y 2 _ rfl, box_cell y 3 _ rfl, box_cell y 4 _ rfl, box_cell y 5 _ rfl, box_cell y 6 _ rfl⟩); obtain ⟨D8, d8, rfl, so8, hD8⟩ := own_sl o8)
      | (go_at_call 81; refine (ref_upTo _ HlD.out _ (by omega)).mono ?_; rintro e w7 ⟨u7, rfl, o7, hb7⟩; rw [HQ.out.1, ← HQ.out.2] at o7; have e7 : w7.cell? ⟨g9, 0, none⟩ = some (.int .i64 z) ∧ w7.cell? ⟨g9, 1, none⟩ = some (.slice A n0 a) ∧ w7.cell? ⟨g9, 2, none⟩ = some (.slice B n1 b) ∧ w7.cell? ⟨g9, 3, none⟩ = some (.slice C2 N2 c2) ∧ w7.cell? ⟨g9, 4, none⟩ = some (.int .i64 CN) ∧ w7.cell? ⟨g9, 5, none⟩ = some (.int .i64 WT) ∧ w7.cell? ⟨g9, 6, none⟩ = some (.bool DN) := (let y := heap_below (w := w6.drew) HB6.out.2.2.1 hb7; ⟨box_cell y 0 _ rfl, box_cell y 1 _ rfl, box_cell y 2 _ rfl, box_cell y 3 _ rfl, box_cell y 4 _ rfl, box_cell y 5 _ rfl, box_cell y 6 _ rfl⟩); obtain ⟨D7, d7, rfl, so7, hD7⟩ := own_sl o7; have hb67 : Below W4.heap.size W4 w7 := bthen HB6.out.2.1 (bthen ((Below.refl _ _).drew) hb7); have ow7 := own_below (w := w6.drew) (own_below HB6.out.2.2.2 ((Below.refl _ _).drew)) hb7))
  have HZ := Lib.hid (And.intro s7 (And.intro so8 (And.intro hD8 (And.intro hb8 hb9))))
  clear s7 so8 hD8 hb8 hb9 t7 r7 c7 r0 r1 r2 r3 r4 r5 r6 g0 g1 g2 g3 g4 g5 g6 y1
  go_wp2
  obtain ⟨s7, so8, hD8, hb8, hb9⟩ := HZ.out
  refine bodyPost_ret (results_c2 (P := Try.prog) rfl _ _ _ _ _ _ _ (by rfl) s7.1 Try.underlying37 rfl (by kernel_rfl)) rfl ?_
  have hb98 := bthen hb8 hb9
  have hbz := bthen HB4.out.1 hb98
  have hb3 := s7.2.below hbz hbz.size (fun x hx => by simp at hx; omega)
  have hb1W : w.heap.size + 1 < W4.heap.size := by have h1 := cell_lt (box_cell HB4.out.2.2.1 0 _ rfl); simpa using h1
  obtain ⟨e0, e1, e2, e3, e4, e5, e6⟩ := HE.out
  obtain ⟨f0, f1, f2, f3, f4⟩ := HE2.out
  have eA : addB (strikeF s) 1 LQ = { strikeF s with b1 := s.b1 ++ LQ } := by rw [addB]; simp [strikeF_b1]
  rw [eA]
  have slA : Sl w9 1 D8 (n1 + kq) d8 ((s.b1 ++ LQ).map by8) := so8.below hb9
  have slA2 := slA.keep s7.2 (fun ad e hx => by have h1 := (hD8 ad e).1; simp at hx; omega)
  have hnD := (fun ad e => Nat.le_trans HB4.out.1.size (hD8 ad e).1)
  have hnC : Ap Xs C2 (strikeF s).armed.length := Ap.either HOR.out.1 HAp.out.2.2 (fun h => by rw [h]) (fun x hx => by have h1 := hXs x hx; have h2 := HOR.out.2; omega)
  refine ⟨_, rfl, ⟨A, D8, C2, a, d8, c2, ?_, ?_, ?_, ?_, HAp.out.1.cast (by simp only [strikeF_b0]), Ap.new hXs hnD, hnC⟩, hb3⟩
  · simp only [refV, List.length_append, strikeF_size, strikeF_b0, strikeF_b1, ← HQ.out.2, ← e0, ← e1, ← e2, ← f0, ← f1, ← f2, ← f3]
  · simp only [List.length_append, strikeF_b0, ← HQ.out.2, ← e1]
    exact HC.out.1.below hb3
  · simp only [List.length_append, strikeF_b1, ← HQ.out.2, ← e2]
    exact slA2
  · simp only [← f0]
    rcases HOR.out.1 with ⟨g0, g1, g2⟩ | g
    · have hh := HC.out.2.2.1.below hb3
      rw [← g0, ← g1, ← g2, show n2 = N2 by rw [f0, g2, ← e3]] at hh
      exact hh
    · refine (HB4.out.2.2.2.2.below hb98).keep s7.2 (fun ad e hx => ?_)
      have h1 := g ad e
      have h2 := HOR.out.2
      simp at hx; omega
end Go.Proofs.Ytpjmbhhfpoamnaa
