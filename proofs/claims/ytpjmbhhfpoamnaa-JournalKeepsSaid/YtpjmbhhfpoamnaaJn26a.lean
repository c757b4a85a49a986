import Derived.Test.YtpjmbhhfpoamnaaJn24
set_option linter.unusedVariables false
set_option linter.unusedSimpArgs false
namespace Go.Proofs.Ytpjmbhhfpoamnaa
open Go.RowKit
theorem armF_ok {N : Nat} {s : FSt} (h : FOkN N s) (a k : Int) : FOkN N (armF s a k).1 ∧ (armF s a k).1.b0 = s.b0 ∧ (armF s a k).1.b1 = s.b1 ∧ (armF s a k).1.down = s.down ∧ (armF s a k).1.armed.length ≤ s.armed.length + 1 ∧ (armF s a k).1.writes = s.writes := by
  unfold armF
  split
  · exact ⟨h, rfl, rfl, rfl, Nat.le_succ _, rfl⟩
  · split
    · exact ⟨h, rfl, rfl, rfl, Nat.le_succ _, rfl⟩
    · rename_i h1 h2
      refine ⟨⟨h.size, h.b0, h.b1, h.writes, h.count, by simp; omega, fun c hc => ?_⟩, rfl, rfl, rfl, by simp, rfl⟩
      simp at hc
      rcases hc with hc | rfl
      · exact h.vals c hc
      · exact ⟨by simp only; omega, by simp only; omega⟩
/-- two flashes of the same bytes, up -/
theorem openF_two {s t : FSt} (hd : s.down = false) (hd2 : t.down = false) (h0 : t.b0 = s.b0) (h1 : t.b1 = s.b1) : (∃ h, SI 9223372036854775807 s h ∧ SI 9223372036854775807 t h) ∨ ∃ E, E ≠ 0 ∧ E ≠ 121 ∧ openF s = (none, s, E) ∧ openF t = (none, t, E) := by
  have hbk : ∀ n, bankF t n = bankF s n := fun n => by unfold bankF; rw [h0, h1]
  cases hch : chosenF (readB s.b0) (readB s.b1) with
  | none => exact .inr ⟨140, by decide, by decide, by unfold openF; rw [if_neg (by rw [hd]; decide), hch], by unfold openF; rw [if_neg (by rw [hd2]; decide), h0, h1, hch]⟩
  | some x =>
    obtain ⟨n, c⟩ := x
    have hr := chosen_read hch
    have co := readB_ok hr
    by_cases hx : c.epoch = 9223372036854775807 ∧ c.good < (bankF s n).length
    · have hc : ∀ u : FSt, c.good < (bankF u n).length → openC u n c = (jOf n c, u, 3) := fun u hu => by
        unfold openC
        rw [if_pos hu]
        unfold mvF
        rw [if_pos (show (jOf n c).epoch = _ from hx.1)]
        rfl
      refine .inr ⟨3, by decide, by decide, ?_, ?_⟩
      · unfold openF
        rw [if_neg (by rw [hd]; decide), hch]
        simp only
        rw [hc s hx.2]
        rfl
      · unfold openF
        rw [if_neg (by rw [hd2]; decide), h0, h1, hch]
        simp only
        rw [hc t (by rw [hbk]; exact hx.2)]
        rfl
    · have hg := co.good
      have he := co.ep2
      refine .inl ⟨⟨c.snap, c.recs⟩, ⟨n, c, hch, rfl, rfl, by omega, fun e => by omega⟩, ⟨n, c, by rw [h0, h1]; exact hch, rfl, rfl, by omega, fun e => by rw [hbk]; omega⟩⟩
set_option maxRecDepth 100000 in
set_option maxHeartbeats 1600000 in
/-- reopened, of a flash that Open refuses -/
theorem reopened_err (w : World) {p N E tries : Nat} {G : List Nat} {s : FSt} (hf : Fl w p G s) (hN : FOkN N s) (hNN : N ≤ 4611686018427387900) (he : openF s = (none, s, E)) (hE : E ≠ 121) (ht : tries ≤ 4611686018427387890) :
    Calls Try.prog 56 #[.pointer (some ⟨p, 0, none⟩), .int .i64 (tries : Nat)] w fun e w' =>
      e = .returned (.tuple #[.pointer none, .agg #[.int .i64 0, .slice none 0 0, .slice none 0 0, .int .i64 0], .int .i64 (E : Nat)]) ∧ FStep w w' p G s := by
  obtain ⟨W1, hW1⟩ : ∃ W1, W1 = w.alloc (.cells #[.int .i64 0, .slice none 0 0, .slice none 0 0, .int .i64 0] 100) := ⟨_, rfl⟩
  have hz1 : W1.heap.size = w.heap.size + 1 := by rw [hW1]; simp
  have hb1 : Below w.heap.size w W1 := by rw [hW1]; exact (Below.refl _ _).alloc (Nat.le_refl _) _
  have x1 : W1.heap[w.heap.size]? = some (.cells #[.int .i64 0, .slice none 0 0, .slice none 0 0, .int .i64 0] 100 (0, 0)) := by rw [hW1]; exact heap_alloc_new _ _
  have HC1 := Lib.hid (Open_err W1 (hf.below hb1) hN hNN he)
  have HX := Lib.hid (And.intro hz1 (And.intro hb1 (And.intro x1 hf.lts)))
  have q1 : ((E : Int) == 121) = false := by simp; omega
  have q2 : (0 : Int) ≤ (tries : Int) := by omega
  clear hz1 hb1 x1 hf hN hNN he hE
  go_enter Try.func56, Try.ntmps56
  go_wp2_with fail
  rw [← hW1]
  refine HC1.out.mono ?_
  rintro e w2 ⟨rfl, k2⟩
  have kk := k2.keep
  obtain ⟨G2, f2, _, o2⟩ := k2.out
  have y2 := kk.heap HX.out.2.2.1 (fun hm => by have := HX.out.2.2.2 _ hm; omega)
  have hz2 := kk.size
  have HR := Lib.hid (And.intro k2 (And.intro y2 hz2))
  clear hW1 HC1 k2 kk f2 o2 y2 hz2
  go_wp2_with fail
  obtain ⟨W3, hW3⟩ : ∃ W3, W3 = w2.alloc (.cells #[.int .i64 0, .slice none 0 0, .slice none 0 0, .int .i64 0] 100) := ⟨_, rfl⟩
  have hb3 : Below w2.heap.size w2 W3 := by rw [hW3]; exact (Below.refl _ _).alloc (Nat.le_refl _) _
  have y3 : W3.heap[w2.heap.size]? = some (.cells #[.int .i64 0, .slice none 0 0, .slice none 0 0, .int .i64 0] 100 (0, 0)) := by rw [hW3]; exact heap_alloc_new _ _
  have z3 := heap_below HR.out.2.1 hb3
  rw [← hW3]
  obtain ⟨B5, hB5⟩ : ∃ x, x = w.heap.size := ⟨_, rfl⟩
  obtain ⟨B8, hB8⟩ : ∃ x, x = w2.heap.size := ⟨_, rfl⟩
  rw [← hB8] at y3 ⊢
  rw [← hB5] at z3 ⊢
  have HBB : Hid (B5 = w.heap.size ∧ B8 = w2.heap.size) := Lib.hid ⟨hB5, hB8⟩
  have HJ : Hid (B5 ≠ B8) := Lib.hid (by have := HX.out.1; have := HR.out.2.2; omega)
  clear hB5 hB8 hW3
  go_loopw [7, 9, 10] (fun jv' ev' nv wr => jv' = .pointer none ∧ ev' = .int .i64 (E : Nat) ∧ nv = .int .i64 0 ∧ wr = W3) (fun _ _ _ _ => 0)
  case atStart => exact ⟨rfl, rfl, rfl, rfl⟩
  case round =>
    obtain ⟨rfl, rfl, rfl, rfl⟩ := hrel
    have f0 := box_free z3 0
    have f1 := box_free z3 1
    have f2 := box_free z3 2
    have f3 := box_free z3 3
    have m0 : wr.cell? ⟨B5, 0, none⟩ = some (.int .i64 0) := box_cell z3 0 _ rfl
    have m1 : wr.cell? ⟨B5, 1, none⟩ = some (.slice none 0 0) := box_cell z3 1 _ rfl
    have m2 : wr.cell? ⟨B5, 2, none⟩ = some (.slice none 0 0) := box_cell z3 2 _ rfl
    have m3 : wr.cell? ⟨B5, 3, none⟩ = some (.int .i64 0) := box_cell z3 3 _ rfl
    have o0 : wr.cell? ⟨B8, 0, none⟩ = some (.int .i64 0) := box_cell y3 0 _ rfl
    have o1 : wr.cell? ⟨B8, 1, none⟩ = some (.slice none 0 0) := box_cell y3 1 _ rfl
    have o2 : wr.cell? ⟨B8, 2, none⟩ = some (.slice none 0 0) := box_cell y3 2 _ rfl
    have o3 : wr.cell? ⟨B8, 3, none⟩ = some (.int .i64 0) := box_cell y3 3 _ rfl
    have S0 := And.intro o0 (And.intro o1 (And.intro o2 o3))
    have HSS := Lib.hid (set4 (.int .i64 0) (.slice none 0 0) (.slice none 0 0) (.int .i64 0) z3)
    have kS := HSS.out.2
    have hj := HJ.out
    have S1 := And.intro (kS.cell o0 (by simp; omega)) (And.intro (kS.cell o1 (by simp; omega)) (And.intro (kS.cell o2 (by simp; omega)) (kS.cell o3 (by simp; omega))))
    have HS1 := Lib.hid S1
    have HB3 := Lib.hid hb3
    clear y3 z3 kS S1 hb3 hj
    go_wp2_with fail
    refine wp_region_held_drew (S := (fun w' => w'.cell? ⟨B8, 0, none⟩ = some (.int .i64 0) ∧ w'.cell? ⟨B8, 1, none⟩ = some (.slice none 0 0) ∧ w'.cell? ⟨B8, 2, none⟩ = some (.slice none 0 0) ∧ w'.cell? ⟨B8, 3, none⟩ = some (.int .i64 0))) (by kernel_rfl) (by (first | exact S0 | exact HS1.out)) (fun hHeld => ?_)
    refine wpAnyH_take (i := 0) (v := ?_) (by simp only [List.getElem?_toArray, List.getElem?_cons_succ, List.getElem?_cons_zero]; rfl) (by kernel_rfl) (by kernel_rfl) (by kernel_rfl) (by exact fun _ _ _ h => h) (Or.inl ⟨by rfl, ?_⟩) (by assumption) ?_
    rotate_left
    · (intro w hSw; (try dsimp only at hSw); go_simp; try with_reducible rfl)
    try simp only [Act.put, List.setIfInBounds_toArray, List.set_cons_zero, List.set_cons_succ]
    refine wpAnyH_take (i := 1) (v := ?_) (by simp only [List.getElem?_toArray, List.getElem?_cons_succ, List.getElem?_cons_zero]; rfl) (by kernel_rfl) (by kernel_rfl) (by kernel_rfl) (by exact fun _ _ _ h => h) (Or.inl ⟨by rfl, ?_⟩) (by assumption) ?_
    rotate_left
    · (intro w hSw; (try dsimp only at hSw); go_simp; try with_reducible rfl)
    try simp only [Act.put, List.setIfInBounds_toArray, List.set_cons_zero, List.set_cons_succ]
    refine wpAnyH_take (i := 2) (v := ?_) (by simp only [List.getElem?_toArray, List.getElem?_cons_succ, List.getElem?_cons_zero]; rfl) (by kernel_rfl) (by kernel_rfl) (by kernel_rfl) (by exact fun _ _ _ h => h) (Or.inl ⟨by rfl, ?_⟩) (by assumption) ?_
    rotate_left
    · (intro w hSw; (try dsimp only at hSw); go_simp; try with_reducible rfl)
    try simp only [Act.put, List.setIfInBounds_toArray, List.set_cons_zero, List.set_cons_succ]
    refine wpAnyH_take (i := 3) (v := ?_) (by simp only [List.getElem?_toArray, List.getElem?_cons_succ, List.getElem?_cons_zero]; rfl) (by kernel_rfl) (by kernel_rfl) (by kernel_rfl) (by exact fun _ _ _ h => h) (Or.inl ⟨by rfl, ?_⟩) (by assumption) ?_
    rotate_left
    · (intro w hSw; (try dsimp only at hSw); go_simp; try with_reducible rfl)
    try simp only [Act.put, List.setIfInBounds_toArray, List.set_cons_zero, List.set_cons_succ]
    refine wpAnyH_ready (rs := [4]) (by kernel_rfl) (by simp) ?_
    refine AllReadyH.cons rfl (fun K hK => ?_) AllReadyH.nil
    rw [if_pos (by rfl)]
    (go_wp2_with fail)
    refine hK.out _ _ (by (first | exact S0 | exact HS1.out)) (fun hHeld => ?_)
    clear hK K
    try simp only [Act.put, List.setIfInBounds_toArray, List.set_cons_zero, List.set_cons_succ]
    refine wpAnyH_take (i := 5) (v := ?_) (by simp only [List.getElem?_toArray, List.getElem?_cons_succ, List.getElem?_cons_zero]; rfl) (by kernel_rfl) (by kernel_rfl) (by kernel_rfl) (by exact fun _ _ _ h => h) (Or.inl ⟨by rfl, ?_⟩) (by assumption) ?_
    rotate_left
    · (intro w hSw; (try dsimp only at hSw); go_simp; try with_reducible rfl)
    try simp only [Act.put, List.setIfInBounds_toArray, List.set_cons_zero, List.set_cons_succ]
    refine wpAnyH_done (by kernel_rfl) ?_ _
    go_wp2
    refine bodyPost_ret (results_tct (P := Try.prog) rfl _ _ _ _ _ _ _ (by rfl) HSS.out.1 Try.underlying100 rfl (by kernel_rfl)) rfl ?_
    have kM := HSS.out.2
    have eB := HBB.out.1
    obtain ⟨G2, f2, k2, o2⟩ := HR.out.1.out
    have hz := HX.out.1
    have hB5 : B5 ∉ G2 := fun hx => by
      rcases o2 _ hx with h | h
      · have := HX.out.2.2.2 _ h; omega
      · omega
    refine ⟨rfl, G2, (f2.below HB3.out).keep kM.drew (fun x hx hm => hB5 (by simp at hm; subst hm; exact hx)), ?_, fun x hx => ?_⟩
    · refine (((Keep.of_below HX.out.2.1 G).trans k2).trans (Keep.of_below HB3.out G)).trans' kM.drew (fun x hx => .inr (by simp at hx; omega))
    · rcases o2 x hx with h | h
      · exact .inl h
      · exact .inr (by omega)
end Go.Proofs.Ytpjmbhhfpoamnaa
