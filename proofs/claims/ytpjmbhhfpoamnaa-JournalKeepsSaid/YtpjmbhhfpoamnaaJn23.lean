import Derived.Test.YtpjmbhhfpoamnaaJn22
set_option linter.unusedVariables false
set_option linter.unusedSimpArgs false
namespace Go.Proofs.Ytpjmbhhfpoamnaa
open Go.RowKit
set_option maxRecDepth 100000 in
set_option maxHeartbeats 3200000 in
/-- reopened, of a flash that holds h -/
theorem reopened_any (w : World) {K p B tries : Nat} {G : List Nat} {s : FSt} {h : Hd} (hf : Fl w p G s) (S : SI K s h) (ho : ∃ N, FOkN N s ∧ N + 3 * s.armed.length ≤ B) (hB : B ≤ 4611686018427387890) (ha : s.armed.length + (if s.down then 1 else 0) ≤ tries) (ht : tries ≤ 4611686018427387890) :
    Calls Try.prog 56 #[.pointer (some ⟨p, 0, none⟩), .int .i64 (tries : Nat)] w fun e w' =>
      ∃ q j s' G' v0 v1 cut, e = .returned (.tuple #[.pointer (some ⟨q, 0, none⟩), .agg #[.int .i64 (j.epoch : Nat), v0, v1, .int .i64 (cut : Nat)], .int .i64 0]) ∧ Opnd K w w' p q G G' j s' h v0 v1 ∧ ∃ N, FOkN N s' ∧ N + 3 * s'.armed.length ≤ B + 3 ∧ s'.armed.length ≤ tries := by
  obtain ⟨W1, hW1⟩ : ∃ W1, W1 = w.alloc (.cells #[.int .i64 0, .slice none 0 0, .slice none 0 0, .int .i64 0] 100) := ⟨_, rfl⟩
  have hz1 : W1.heap.size = w.heap.size + 1 := by rw [hW1]; simp
  have hb1 : Below w.heap.size w W1 := by rw [hW1]; exact (Below.refl _ _).alloc (Nat.le_refl _) _
  have x1 : W1.heap[w.heap.size]? = some (.cells #[.int .i64 0, .slice none 0 0, .slice none 0 0, .int .i64 0] 100 (0, 0)) := by rw [hW1]; exact heap_alloc_new _ _
  have P1 : PreO K w W1 p G G s h B 0 tries [] := ⟨hf.below hb1, Keep.of_below hb1 G, fun x hx => .inl hx, S, ho, by simp, by omega⟩
  have HC1 := Lib.hid (Open_reo P1 hB)
  have HX := Lib.hid (And.intro hz1 (And.intro hb1 (And.intro x1 hf.lts)))
  clear P1 hz1 hb1 x1 hf S ho ha
  go_enter Try.func56, Try.ntmps56
  go_wp2_with fail
  rw [← hW1]
  refine HC1.out.mono ?_
  rintro e w2 ⟨jv, ev, ep, A, a, b, Av, c, d, cut, rfl, ⟨hj1, he1⟩, hz2, hR⟩
  have HR := Lib.hid hR
  have hzz := hz2.size
  have HZ := Lib.hid (And.intro hzz (And.intro hj1 he1))
  have HX2 := Lib.hid (And.intro (hz2.heap HX.out.2.2.1 (fun hm => by have := HX.out.2.2.2 _ hm; omega)) hzz)
  clear hR hW1 HC1 hz2 hj1 he1 hzz
  go_wp2_with fail
  obtain ⟨W3, hW3⟩ : ∃ W3, W3 = w2.alloc (.cells #[.int .i64 ep, .slice A a b, .slice Av c d, .int .i64 cut] 100) := ⟨_, rfl⟩
  have hb3 : Below w2.heap.size w2 W3 := by rw [hW3]; exact (Below.refl _ _).alloc (Nat.le_refl _) _
  have y3 : W3.heap[w2.heap.size]? = some (.cells #[.int .i64 ep, .slice A a b, .slice Av c d, .int .i64 cut] 100 (0, 0)) := by rw [hW3]; exact heap_alloc_new _ _
  have z3 := heap_below HX2.out.1 hb3
  rw [← hW3]
  obtain ⟨B5, hB5⟩ : ∃ x, x = w.heap.size := ⟨_, rfl⟩
  obtain ⟨B8, hB8⟩ : ∃ x, x = w2.heap.size := ⟨_, rfl⟩
  have r3 := HR.out W3 [B5, B8] (Keep.of_below hb3 _) (fun m hm => by
    have e1 := HX.out.1; have e2 := HX2.out.2
    rcases List.mem_cons.1 hm with h | h
    · exact ⟨by omega, .inl ⟨by omega, fun hx => by have := HX.out.2.2.2 _ hx; omega⟩⟩
    · have h := List.mem_singleton.1 h
      exact ⟨by omega, .inr (by omega)⟩)
  rw [← hB8] at y3 ⊢
  rw [← hB5] at z3 ⊢
  have HBB : Hid (B5 = w.heap.size ∧ B5 < B8) := Lib.hid ⟨hB5, by have e1 := HX.out.1; have e2 := HX2.out.2; omega⟩
  clear hB5 hB8 hW3 HR hb3
  go_loopw [7, 9, 10] (fun jv' ev' nv wr => ∃ (n : Nat) (jv : Value) (ev : Nat) (ep : Int) (A : Option Addr) (a b : Nat) (Av : Option Addr) (c d : Nat) (cut : Int), n ≤ tries ∧ jv' = jv ∧ ev' = .int .i64 (ev : Nat) ∧ nv = .int .i64 (n : Nat) ∧
      Hid (wr.heap[B8]? = some (.cells #[.int .i64 ep, .slice A a b, .slice Av c d, .int .i64 cut] 100 (0, 0)) ∧ wr.heap[B5]? = some (.cells #[.int .i64 0, .slice none 0 0, .slice none 0 0, .int .i64 0] 100 (0, 0)) ∧ ReoSt K w wr p G h B n tries [B5, B8] jv ev ep A a b Av c d cut)) (fun _ _ nv _ => tries + 2 - (intOf nv).toNat)
  case atStart => exact ⟨0, jv, ev, ep, A, a, b, Av, c, d, cut, by omega, rfl, rfl, rfl, Lib.hid ⟨y3, z3, r3⟩⟩
  case round =>
    clear y3 z3 r3 HZ HX2
    obtain ⟨n, jv, ev, ep, A, a, b, Av, c, d, cut, hn, rfl, rfl, rfl, HI⟩ := hrel
    rcases HI.out.2.2 with ⟨rfl, rfl, Gr, s1, P, hd⟩ | ⟨rfl, q, j, s1, G', rfl, rfl, ⟨ct, rfl⟩, O, hO⟩
    · have hb8 : B8 < wr.heap.size := (Array.getElem?_eq_some_iff.1 HI.out.1).1
      have hb5 : B5 < wr.heap.size := (Array.getElem?_eq_some_iff.1 HI.out.2.1).1
      have g5 : B5 ∉ Gr := P.gm B5 (by simp)
      have g8 : B8 ∉ Gr := P.gm B8 (by simp)
      have HP := Lib.hid (And.intro P hd)
      have n1 : (n : Int) ≤ (tries : Int) := by omega
      have hn1 : n + 1 ≤ tries := by have := P.arm; rw [hd, if_pos rfl] at this; omega
      have HRs := Lib.hid (flash_Restart wr P.fl)
      rw [hd] at HRs
      have HG := Lib.hid (And.intro g5 (And.intro g8 (And.intro hb5 hb8)))
      clear P hd g5 g8 hb5 hb8
      go_wp2_with fail
      refine HRs.out.mono ?_
      rintro e w4 ⟨rfl, k4⟩
      obtain ⟨Gr', P'⟩ := HP.out.1.restart HP.out.2 k4 (fun m hm => by
        rcases List.mem_cons.1 hm with h | h
        · rw [h]; exact HG.out.2.2.1
        · rw [List.mem_singleton.1 h]; exact HG.out.2.2.2)
      have kk4 := k4.keep
      have y4 := kk4.heap HI.out.1 HG.out.2.1
      have z4 := kk4.heap HI.out.2.1 HG.out.1
      have hz4 := kk4.size
      have HP4 := Lib.hid (And.intro P' (And.intro y4 (And.intro z4 hz4)))
      clear P' kk4 y4 z4 hz4 k4 HRs
      go_wp2_with fail
      refine (Open_reo HP4.out.1 hB).mono ?_
      rintro e w5 ⟨jv, ev, ep, A, a, b, Av, c, d, cut, rfl, ⟨hj1, he1⟩, hk5, hR5⟩
      have y5 := hk5.heap HP4.out.2.1 (HP4.out.1.gm B8 (by simp))
      have z5 := hk5.heap HP4.out.2.2.1 (HP4.out.1.gm B5 (by simp))
      have HR5 := Lib.hid (And.intro hR5 (And.intro y5 z5))
      have f0 := box_free y5 0
      have f1 := box_free y5 1
      have f2 := box_free y5 2
      have f3 := box_free y5 3
      have m0 := box_cell y5 0 _ rfl
      have m1 := box_cell y5 1 _ rfl
      have m2 := box_cell y5 2 _ rfl
      have m3 := box_cell y5 3 _ rfl
      have hn5 := hk5.size
      clear hR5 hk5 y5 z5 he1
      go_wp2_with fail
      clear m0 m1 m2 m3 f0 f1 f2 f3
      have s4 := set4 (.int .i64 ep) (.slice A a b) (.slice Av c d) (.int .i64 cut) HR5.out.2.1
      first | go_roundw | refine ⟨?rel, ?measure⟩
      case rel =>
        have kM := s4.2
        refine ⟨n + 1, jv, ev, ep, A, a, b, Av, c, d, cut, hn1, rfl, rfl, by go_num, Lib.hid ⟨s4.1, kM.heap HR5.out.2.2 (by simp; have := HBB.out.2; omega), ?_⟩⟩
        refine HR5.out.1 _ [B5, B8] (kM.mono (by simp)) (fun m hm => ?_)
        have e1 := HBB.out.1; have e2 := HBB.out.2
        have e3 := HG.out.2.2.2; have e4 := HP4.out.2.2.2
        rcases List.mem_cons.1 hm with h | h
        · exact ⟨by omega, .inl ⟨by omega, fun hx => HP4.out.1.gm m hm hx⟩⟩
        · have h' := List.mem_singleton.1 h
          exact ⟨by omega, .inl ⟨by omega, fun hx => HP4.out.1.gm m hm hx⟩⟩
      case measure => simp [intOf]; omega
    · have y8 := HI.out.1
      have y5 := HI.out.2.1
      have HO := Lib.hid (And.intro O hO)
      have e2 := HBB.out.2
      have HJ : Hid (B5 ≠ B8) := Lib.hid (by omega)
      have f0 := box_free y5 0
      have f1 := box_free y5 1
      have f2 := box_free y5 2
      have f3 := box_free y5 3
      have m0 : wr.cell? ⟨B5, 0, none⟩ = some (.int .i64 0) := box_cell y5 0 _ rfl
      have m1 : wr.cell? ⟨B5, 1, none⟩ = some (.slice none 0 0) := box_cell y5 1 _ rfl
      have m2 : wr.cell? ⟨B5, 2, none⟩ = some (.slice none 0 0) := box_cell y5 2 _ rfl
      have m3 : wr.cell? ⟨B5, 3, none⟩ = some (.int .i64 0) := box_cell y5 3 _ rfl
      have o0 : wr.cell? ⟨B8, 0, none⟩ = some (.int .i64 (j.epoch : Nat)) := box_cell y8 0 _ rfl
      have o1 : wr.cell? ⟨B8, 1, none⟩ = some (.slice A a b) := box_cell y8 1 _ rfl
      have o2 : wr.cell? ⟨B8, 2, none⟩ = some (.slice Av c d) := box_cell y8 2 _ rfl
      have o3 : wr.cell? ⟨B8, 3, none⟩ = some (.int .i64 (ct : Nat)) := box_cell y8 3 _ rfl
      have S0 := And.intro o0 (And.intro o1 (And.intro o2 o3))
      have HSS := Lib.hid (set4 (.int .i64 (j.epoch : Nat)) (.slice A a b) (.slice Av c d) (.int .i64 (ct : Nat)) y5)
      have kS := HSS.out.2
      have S1 := And.intro (kS.cell o0 (by simp; omega)) (And.intro (kS.cell o1 (by simp; omega)) (And.intro (kS.cell o2 (by simp; omega)) (kS.cell o3 (by simp; omega))))
      have HS1 := Lib.hid S1
      clear O hO y8 y5 kS S1
      go_wp2_with fail
      refine wp_region_held_drew (S := (fun w' => w'.cell? ⟨B8, 0, none⟩ = some (.int .i64 (j.epoch : Nat)) ∧ w'.cell? ⟨B8, 1, none⟩ = some (.slice A a b) ∧ w'.cell? ⟨B8, 2, none⟩ = some (.slice Av c d) ∧ w'.cell? ⟨B8, 3, none⟩ = some (.int .i64 (ct : Nat)))) (by kernel_rfl) (by (first | exact S0 | exact HS1.out)) (fun hHeld => ?_)
      refine wpAnyH_take (i := 0) (v := ?_) (by simp only [List.getElem?_toArray, List.getElem?_cons_succ, List.getElem?_cons_zero]; rfl) (by kernel_rfl) (by kernel_rfl) (by kernel_rfl) (by exact fun _ _ _ h => h) (Or.inl ⟨by rfl, ?_⟩) (by assumption) ?_
      rotate_left
      · (intro w hSw; (try dsimp only at hSw); go_simp; try with_reducible rfl)
      try simp only [Act.put, List.setIfInBounds_toArray, List.set_cons_zero, List.set_cons_succ]
      refine wpAnyH_take (i := 1) (v := ?_) (by simp only [List.getElem?_toArray, List.getElem?_cons_succ, List.getElem?_cons_zero]; rfl) (by kernel_rfl) (by kernel_rfl) (by kernel_rfl) (by exact fun _ _ _ h => h) (Or.inl ⟨by rfl, ?_⟩) (by assumption) ?_
      rotate_left
      · (intro w hSw; (try dsimp only at hSw); go_simp; try with_reducible rfl)
      try simp only [Act.put, List.setIfInBounds_toArray, List.set_cons_zero, List.set_cons_succ]
      refine wpAnyH_take (i := 2) (v := ?_) (by simp only [List.getElem?_toArray, List.getElem?_cons_succ, List.getElem?_cons_zero]; rfl) (by kernel_rfl) (by kernel_rfl) (by kernel_rfl) (by exact fun _ _ _ h => h) (Or.inl ⟨by rfl, ?_⟩) (by assumption) ?_
      rotate_left
      · (intro w hSw; (try dsimp only at hSw); go_simp; try with_reducible rfl)
      try simp only [Act.put, List.setIfInBounds_toArray, List.set_cons_zero, List.set_cons_succ]
      refine wpAnyH_take (i := 3) (v := ?_) (by simp only [List.getElem?_toArray, List.getElem?_cons_succ, List.getElem?_cons_zero]; rfl) (by kernel_rfl) (by kernel_rfl) (by kernel_rfl) (by exact fun _ _ _ h => h) (Or.inl ⟨by rfl, ?_⟩) (by assumption) ?_
      rotate_left
      · (intro w hSw; (try dsimp only at hSw); go_simp; try with_reducible rfl)
      try simp only [Act.put, List.setIfInBounds_toArray, List.set_cons_zero, List.set_cons_succ]
      refine wpAnyH_ready (rs := [4]) (by kernel_rfl) (by simp) ?_
      refine AllReadyH.cons rfl (fun K hK => ?_) AllReadyH.nil
      rw [if_pos (by rfl)]
      (go_wp2_with fail)
      refine hK.out _ _ (by (first | exact S0 | exact HS1.out)) (fun hHeld => ?_)
      clear hK K
      try simp only [Act.put, List.setIfInBounds_toArray, List.set_cons_zero, List.set_cons_succ]
      refine wpAnyH_take (i := 5) (v := ?_) (by simp only [List.getElem?_toArray, List.getElem?_cons_succ, List.getElem?_cons_zero]; rfl) (by kernel_rfl) (by kernel_rfl) (by kernel_rfl) (by exact fun _ _ _ h => h) (Or.inl ⟨by rfl, ?_⟩) (by assumption) ?_
      rotate_left
      · (intro w hSw; (try dsimp only at hSw); go_simp; try with_reducible rfl)
      try simp only [Act.put, List.setIfInBounds_toArray, List.set_cons_zero, List.set_cons_succ]
      refine wpAnyH_done (by kernel_rfl) ?_ _
      go_wp2
      refine bodyPost_ret (results_tct (P := Try.prog) rfl _ _ _ _ _ _ _ (by rfl) HSS.out.1 Try.underlying100 rfl (by kernel_rfl)) rfl ?_
      have kM := HSS.out.2
      have eB := HBB.out.1
      have O2 := HO.out.1.step ((kM.mono (by simp)).drew) (fun m hm => by
        rcases List.mem_cons.1 hm with h | h
        · omega
        · have h' := List.mem_singleton.1 h
          omega)
      exact ⟨q, j, s1, G', _, _, ct, rfl, O2.o, HO.out.2⟩
end Go.Proofs.Ytpjmbhhfpoamnaa
