import Derived.Test.YtpjmbhhfpoamnaaFlNew
set_option linter.unusedVariables false
set_option linter.unusedSimpArgs false
namespace Go.Proofs.Ytpjmbhhfpoamnaa
open Go.RowKit
theorem heap_alloc3 (w : World) (o1 o2 o3 : Obj) : (((w.alloc o1).alloc o2).alloc o3).heap[w.heap.size + 1 + 1]? = some o3 := by
  have := heap_alloc_new ((w.alloc o1).alloc o2) o3
  simpa using this
/-- the program steps: the document's flash beside it -/
theorem RFl.step {w w' : World} {v : List Value} {s : FSt} {G G' : List Nat} (h : RFl w v s G) (k : Keep G w w') (hG : ∀ y ∈ G', y ∈ G ∨ w.heap.size ≤ y) : RFl w' v s G' :=
  let ⟨A, B, C, a, b, c, e, h1, h2, h3, h4⟩ := h.out
  ⟨A, B, C, a, b, c, e, h1.keepAp k h4.1, h2.keepAp k h4.2.1, h3.keepAp k h4.2.2, h4.1.grow h1 (by decide) hG, h4.2.1.grow h2 (by decide) hG, h4.2.2.grow h3 (by decide) hG⟩
/-- the two flashes behind a step -/
structure BothS (w w' : World) (p : Nat) (Us G : List Nat) (v' : List Value) (s' : FSt) : Prop where
  out : ∃ G', Fl w' p G' s' ∧ RFl w' v' s' (Us ++ G') ∧ Keep G w w' ∧ ∀ x ∈ G', x ∈ G ∨ w.heap.size ≤ x
/-- a program's step, then the document's, then a store into the result -/
theorem BothS.mk' {w w1 w2 w3 w4 : World} {p b2 : Nat} {Us G G2 : List Nat} {v' : List Value} {s' : FSt} (hb1 : Below w.heap.size w w1) (k2 : Keep G w1 w2) (hG2 : ∀ x ∈ G2, x ∈ G ∨ w1.heap.size ≤ x) (hb3 : Below w2.heap.size w2 w3) (f2 : Fl w2 p G2 s') (r3 : RFl w3 v' s' (b2 :: (Us ++ G2))) (k4 : Keep [b2] w3 w4) (hb2 : w.heap.size ≤ b2 ∧ b2 < w1.heap.size) (hG : ∀ x ∈ G, x < w.heap.size) : BothS w w4 p Us G v' s' := by
  have hn : b2 ∉ G2 := fun hx => by
    rcases hG2 _ hx with h | h
    · have := hG _ h; omega
    · omega
  refine ⟨G2, (f2.below hb3).keep k4 (fun x hx hy => by simp at hy; subst hy; exact hn hx), (r3.keep (k4.mono (by intro x hx; simp at hx; simp [hx]))).less (by intro y hy; simp at hy; rcases hy with h | h <;> simp [h]), ?_, fun x hx => ?_⟩
  · exact (((Keep.of_below hb1 G).trans k2).trans (Keep.of_below hb3 G)).trans' k4 (fun x hx => by simp at hx; subst hx; exact .inr hb2.1)
  · rcases hG2 x hx with h | h
    · exact .inl h
    · exact .inr (Nat.le_trans hb1.size h)
theorem flash_RestartT (w : World) {p : Nat} {G : List Nat} {s : FSt} (h : Fl w p G s) :
    Calls Try.prog 34 #[.pointer (some ⟨p, 0, none⟩)] w fun e w' => e = .returned (.int .i64 ((rstF s).2 : Nat)) ∧ FStep w w' p G (rstF s).1 := by
  refine (flash_Restart w h).mono fun e w' ⟨he, hw⟩ => ⟨?_, hw⟩
  rw [he]
  unfold rstF
  split <;> simp_all
theorem flash_RoomT (w : World) {p : Nat} {G : List Nat} {s : FSt} (h : Fl w p G s) (hk : FOk s) (n : Int) :
    Calls Try.prog 28 #[.pointer (some ⟨p, 0, none⟩), .int .i64 n] w fun e w' => e = .returned (.tuple #[.int .i64 (if refusedF s n = 0 then s.size - (bankF s n.toNat).length else 0 : Nat), .int .i64 (refusedF s n : Nat)]) ∧ FStep w w' p G s := by
  by_cases hr : refusedF s n = 0
  · obtain ⟨hn, hd⟩ := refused_zero hr
    rw [if_pos hr, hr]
    have hbl : (bankF s n.toNat).length ≤ s.size := by unfold bankF; split; exact hk.b0; exact hk.b1
    have := flash_Room_yes w h n.toNat (by omega) hd hk.size hbl
    rw [show ((n.toNat : Nat) : Int) = n by omega] at this
    exact this.mono fun e w' ⟨he, hw⟩ => ⟨he, G, h.below hw.below, hw.keep G, fun x hx => .inl hx⟩
  · rw [if_neg hr]
    refine (flash_Room_no w h n hr).mono fun e w' ⟨he, hw⟩ => ?_
    subst hw
    exact ⟨he, G, h, Keep.refl _ _, fun x hx => .inl hx⟩
/-- what Read tells -/
def readF (s : FSt) (n : Int) : List UInt8 := if refusedF s n = 0 then bankF s n.toNat else []
theorem flash_ReadT (w : World) {p : Nat} {G : List Nat} {s : FSt} (h : Fl w p G s) (hk : FOk s) (n : Int) :
    Calls Try.prog 24 #[.pointer (some ⟨p, 0, none⟩), .int .i64 n] w fun e w' => ∃ A, e = .returned (.tuple #[.slice A (readF s n).length (readF s n).length, .int .i64 (refusedF s n : Nat)]) ∧ w'.ownsRow w.heap.size 5 1 (.slice A (readF s n).length (readF s n).length) (readF s n).length ((readF s n).map by8) ∧ Below w.heap.size w w' := by
  by_cases hr : refusedF s n = 0
  · obtain ⟨hn, hd⟩ := refused_zero hr
    rw [readF, if_pos hr, hr]
    have hbl : (bankF s n.toNat).length ≤ s.size := by unfold bankF; split; exact hk.b0; exact hk.b1
    have := flash_Read_yes w h n.toNat (by omega) hd (by have := hk.size; omega)
    rw [show ((n.toNat : Nat) : Int) = n by omega] at this
    exact this.mono fun e w' ⟨he, ho, hw⟩ => ⟨_, he, ho, hw⟩
  · rw [readF, if_neg hr]
    refine (flash_Read_no w h n hr).mono fun e w' ⟨he, hw⟩ => ?_
    subst hw
    exact ⟨none, he, World.ownsRow_nil .., Below.refl _ _⟩
theorem ref_ReadT (w : World) {v : List Value} {s : FSt} {Xs : List Nat} (h : RFl w v s Xs) (hk : FOk s) (n : Int) :
    Calls Try.prog 83 #[.agg v.toArray, .int .i64 n] w fun e w' => ∃ u, e = .returned (.tuple #[u, .int .i64 (refusedF s n : Nat)]) ∧ w'.ownsRow w.heap.size 5 1 u (readF s n).length ((readF s n).map by8) ∧ Below w.heap.size w w' := by
  refine (ref_Read w h hk n).mono fun e w' ⟨u, l, he, h1, h2, ho, hw⟩ => ⟨u, he, ?_, hw⟩
  have e1 : l = readF s n := by
    unfold readF
    split
    · exact h1 (by assumption)
    · exact h2 (by assumption)
  rwa [← e1]
set_option maxRecDepth 100000 in
set_option maxHeartbeats 3200000 in
theorem both7 (w : World) {p : Nat} {G : List Nat} {s : FSt} {v : List Value} {Us : List Nat} (hf : Fl w p G s) (hr : RFl w v s (Us ++ G)) (hU : ∀ x ∈ Us, x < w.heap.size) (hk : FOk s) (bank x y : Int) (l : List UInt8) {D : Option Addr} {m d : Nat} (hb : Sl w 1 D m d (l.map by8)) (hm : m ≤ 2097152) (hDG : Ap G D m) :
    Calls Try.prog 43 #[.pointer (some ⟨p, 0, none⟩), .agg v.toArray, .agg #[.int .i64 7, .int .i64 bank, .slice D m d, .int .i64 x, .int .i64 y]] w fun e w' => ∃ v', e = .returned (.tuple #[.agg v'.toArray, .bool true]) ∧ BothS w w' p Us G v' ((rstF s).1) := by
  have hG := hf.lts
  have hmd := hb.le; have hmd2 := hb.max
  have hr' := hr.grow (Ys := (w.heap.size + 2) :: (Us ++ G)) (fun y hy => by rcases List.mem_cons.1 hy with h | h; exact .inr (by omega); exact .inl h)
  obtain ⟨A, B, C, a, b, c, rfl, _⟩ := hr.out
  rw [refV_eq]
  have hDoc := fun w1 Xs (h1 : RFl w1 (refV s A B C a b c) s Xs) (_ : ∀ x ∈ Xs, x < w1.heap.size) => ref_Restart w1 h1
  rw [refV_eq] at hDoc
  have hProg := fun w1 (h1 : Fl w1 p G s) => flash_RestartT w1 h1
  obtain ⟨s2, hs2⟩ : ∃ s2, s2 = (rstF s).1 := ⟨_, rfl⟩
  obtain ⟨r, hre⟩ : ∃ r, r = (rstF s).2 := ⟨_, rfl⟩
  rw [← hs2, ← hre] at hDoc hProg
  rw [← hs2]
  have HProg := Lib.hid hProg
  have k0 : ((r : Int) == (r : Int)) = true := by simp
  clear hs2 hre hProg
  obtain ⟨z, hz⟩ : ∃ z, z = s.size := ⟨_, rfl⟩
  obtain ⟨n0, hn0⟩ : ∃ z, z = s.b0.length := ⟨_, rfl⟩
  obtain ⟨n1, hn1⟩ : ∃ z, z = s.b1.length := ⟨_, rfl⟩
  obtain ⟨n2, hn2⟩ : ∃ z, z = s.armed.length := ⟨_, rfl⟩
  obtain ⟨cn, hcn⟩ : ∃ z, z = s.count := ⟨_, rfl⟩
  obtain ⟨wt, hwt⟩ : ∃ z, z = s.writes := ⟨_, rfl⟩
  obtain ⟨dn, hdn⟩ : ∃ z, z = s.down := ⟨_, rfl⟩
  rw [← hz, ← hn0, ← hn1, ← hn2, ← hcn, ← hwt, ← hdn] at hDoc
  have HDoc := Lib.hid hDoc
  clear hDoc
  rw [← hz, ← hn0, ← hn1, ← hn2, ← hcn, ← hwt, ← hdn]
  obtain ⟨W1, hW1⟩ : ∃ W1, W1 = ((w.alloc (.cells #[.int .i64 z, .slice A n0 a, .slice B n1 b, .slice C n2 c, .int .i64 cn, .int .i64 wt, .bool dn] 37)).alloc (.cells #[.int .i64 7, .int .i64 bank, .slice D m d, .int .i64 x, .int .i64 y] 53)).alloc (.cells #[.int .i64 0, .slice none 0 0, .slice none 0 0, .slice none 0 0, .int .i64 0, .int .i64 0, .bool false] 37) := ⟨_, rfl⟩
  have hb1 : Below w.heap.size w W1 := by rw [hW1]; exact (below2 _ _ _).alloc (by simp; omega) _
  have hs1 : w.heap.size + 2 < W1.heap.size := by rw [hW1]; simp
  have x0 : W1.heap[w.heap.size]? = some (.cells #[.int .i64 z, .slice A n0 a, .slice B n1 b, .slice C n2 c, .int .i64 cn, .int .i64 wt, .bool dn] 37 (0, 0)) := by rw [hW1]; exact heap_below (heap_alloc1 _ _ _) ((Below.refl _ _).alloc (Nat.le_refl _) _)
  have x1 : W1.heap[w.heap.size + 1]? = some (.cells #[.int .i64 7, .int .i64 bank, .slice D m d, .int .i64 x, .int .i64 y] 53 (0, 0)) := by rw [hW1]; exact heap_below (heap_alloc2 _ _ _) ((Below.refl _ _).alloc (Nat.le_refl _) _)
  have x2 : W1.heap[w.heap.size + 2]? = some (.cells #[.int .i64 0, .slice none 0 0, .slice none 0 0, .slice none 0 0, .int .i64 0, .int .i64 0, .bool false] 37 (0, 0)) := by
    have := heap_alloc_new ((w.alloc (.cells #[.int .i64 z, .slice A n0 a, .slice B n1 b, .slice C n2 c, .int .i64 cn, .int .i64 wt, .bool dn] 37)).alloc (.cells #[.int .i64 7, .int .i64 bank, .slice D m d, .int .i64 x, .int .i64 y] 53)) (.cells #[.int .i64 0, .slice none 0 0, .slice none 0 0, .slice none 0 0, .int .i64 0, .int .i64 0, .bool false] 37)
    rw [hW1]; simpa using this
  have m0 : W1.cell? ⟨w.heap.size, 0, none⟩ = some (.int .i64 z) := box_cell x0 0 _ rfl
  have m1 : W1.cell? ⟨w.heap.size, 1, none⟩ = some (.slice A n0 a) := box_cell x0 1 _ rfl
  have m2 : W1.cell? ⟨w.heap.size, 2, none⟩ = some (.slice B n1 b) := box_cell x0 2 _ rfl
  have m3 : W1.cell? ⟨w.heap.size, 3, none⟩ = some (.slice C n2 c) := box_cell x0 3 _ rfl
  have m4 : W1.cell? ⟨w.heap.size, 4, none⟩ = some (.int .i64 cn) := box_cell x0 4 _ rfl
  have m5 : W1.cell? ⟨w.heap.size, 5, none⟩ = some (.int .i64 wt) := box_cell x0 5 _ rfl
  have m6 : W1.cell? ⟨w.heap.size, 6, none⟩ = some (.bool dn) := box_cell x0 6 _ rfl
  have e0 : W1.cell? ⟨w.heap.size + 1, 0, none⟩ = some (.int .i64 7) := box_cell x1 0 _ rfl
  have e1 : W1.cell? ⟨w.heap.size + 1, 1, none⟩ = some (.int .i64 bank) := box_cell x1 1 _ rfl
  have e2 : W1.cell? ⟨w.heap.size + 1, 2, none⟩ = some (.slice D m d) := box_cell x1 2 _ rfl
  have e3 : W1.cell? ⟨w.heap.size + 1, 3, none⟩ = some (.int .i64 x) := box_cell x1 3 _ rfl
  have e4 : W1.cell? ⟨w.heap.size + 1, 4, none⟩ = some (.int .i64 y) := box_cell x1 4 _ rfl
  have H1 := Lib.hid (And.intro hb1 (And.intro hs1 (And.intro x0 (And.intro x1 (And.intro x2 (And.intro (hf.below hb1) (hr'.below hb1)))))))
  have HE := Lib.hid (And.intro hz (And.intro hn0 (And.intro hn1 (And.intro hn2 (And.intro hcn (And.intro hwt hdn))))))
  have H0 := Lib.hid (And.intro hG (And.intro hb (And.intro hk (And.intro hDG hU))))
  clear hf hr hr' hG hb hDG hU hb1 hs1 x0 x1 x2 hz hn0 hn1 hn2 hcn hwt hdn hk
  go_enter Try.func43, Try.ntmps43
  go_wp2_with fail
  rw [← hW1]
  clear hW1
  refine (HProg.out _ H1.out.2.2.2.2.2.1).mono ?_
  rintro e w2 ⟨rfl, hst⟩
  obtain ⟨G2, f2, k2, hG2⟩ := hst.out
  have hn0G : w.heap.size ∉ G := fun hx => by have := H0.out.1 _ hx; omega
  have hn1G : w.heap.size + 1 ∉ G := fun hx => by have := H0.out.1 _ hx; omega
  have hn2G : w.heap.size + 2 ∉ G := fun hx => by have := H0.out.1 _ hx; omega
  have y0 := k2.heap H1.out.2.2.1 hn0G
  have y1 := k2.heap H1.out.2.2.2.1 hn1G
  have y2 : w2.heap[w.heap.size + 1 + 1]? = _ := k2.heap H1.out.2.2.2.2.1 hn2G
  have r2 : RFl w2 (refV s A B C a b c) s ((w.heap.size + 2) :: (Us ++ G2)) := H1.out.2.2.2.2.2.2.step (k2.mono (by intro q hq; simp [hq])) (fun q hq => by rcases List.mem_cons.1 hq with h | h; exact .inl (by simp [h]); rcases List.mem_append.1 h with h | h; exact .inl (by simp [h]); rcases hG2 q h with h | h; exact .inl (by simp [h]); exact .inr h)
  have HY0 := Lib.hid y0
  have L2 := Lib.hid (And.intro f2 (And.intro k2 (And.intro hG2 (And.intro y2 r2))))
  have hlts2 : ∀ q ∈ ((w.heap.size + 2) :: (Us ++ G2)), q < w2.heap.size := fun q hq => by
    have h3 := H1.out.1.size; have h4 := k2.size; have h5 := H1.out.2.1
    rcases List.mem_cons.1 hq with h | h
    · omega
    · rcases List.mem_append.1 h with h | h
      · have := H0.out.2.2.2.2 q h; omega
      · exact f2.lts q h
  have HLT := Lib.hid hlts2
  clear m0 m1 m2 m3 m4 m5 m6 e0 e1 e2 e3 e4
  have m0 : w2.cell? ⟨w.heap.size, 0, none⟩ = some (.int .i64 z) := box_cell y0 0 _ rfl
  have m1 : w2.cell? ⟨w.heap.size, 1, none⟩ = some (.slice A n0 a) := box_cell y0 1 _ rfl
  have m2 : w2.cell? ⟨w.heap.size, 2, none⟩ = some (.slice B n1 b) := box_cell y0 2 _ rfl
  have m3 : w2.cell? ⟨w.heap.size, 3, none⟩ = some (.slice C n2 c) := box_cell y0 3 _ rfl
  have m4 : w2.cell? ⟨w.heap.size, 4, none⟩ = some (.int .i64 cn) := box_cell y0 4 _ rfl
  have m5 : w2.cell? ⟨w.heap.size, 5, none⟩ = some (.int .i64 wt) := box_cell y0 5 _ rfl
  have m6 : w2.cell? ⟨w.heap.size, 6, none⟩ = some (.bool dn) := box_cell y0 6 _ rfl
  have e0 : w2.cell? ⟨w.heap.size + 1, 0, none⟩ = some (.int .i64 7) := box_cell y1 0 _ rfl
  have e1 : w2.cell? ⟨w.heap.size + 1, 1, none⟩ = some (.int .i64 bank) := box_cell y1 1 _ rfl
  have e2 : w2.cell? ⟨w.heap.size + 1, 2, none⟩ = some (.slice D m d) := box_cell y1 2 _ rfl
  have e3 : w2.cell? ⟨w.heap.size + 1, 3, none⟩ = some (.int .i64 x) := box_cell y1 3 _ rfl
  have e4 : w2.cell? ⟨w.heap.size + 1, 4, none⟩ = some (.int .i64 y) := box_cell y1 4 _ rfl
  clear hst f2 k2 hG2 y0 y1 y2 r2 hlts2 hn0G hn1G hn2G
  go_wp2_with (first | (at_builtin; refine Stopped.out ?_) | (at_make; refine Stopped.out ?_))
  refine (HDoc.out _ _ L2.out.2.2.2.2 HLT.out).mono ?_
  rintro e w3 ⟨v', rfl, r3, hb3⟩
  have y2 := heap_below L2.out.2.2.2.1 hb3
  have L3 := Lib.hid (And.intro r3 hb3)
  obtain ⟨A', B', C', a', b', c', rfl, _⟩ := r3.out
  rw [refV_eq]
  clear r3 hb3 m0 m1 m2 m3 m4 m5 m6 e0 e1 e2 e3 e4
  obtain ⟨z', hz'⟩ : ∃ z, z = s2.size := ⟨_, rfl⟩
  obtain ⟨n0', hn0'⟩ : ∃ z, z = s2.b0.length := ⟨_, rfl⟩
  obtain ⟨n1', hn1'⟩ : ∃ z, z = s2.b1.length := ⟨_, rfl⟩
  obtain ⟨n2', hn2'⟩ : ∃ z, z = s2.armed.length := ⟨_, rfl⟩
  obtain ⟨cn', hcn'⟩ : ∃ z, z = s2.count := ⟨_, rfl⟩
  obtain ⟨wt', hwt'⟩ : ∃ z, z = s2.writes := ⟨_, rfl⟩
  obtain ⟨dn', hdn'⟩ : ∃ z, z = s2.down := ⟨_, rfl⟩
  have HE2 := Lib.hid (And.intro hz' (And.intro hn0' (And.intro hn1' (And.intro hn2' (And.intro hcn' (And.intro hwt' hdn'))))))
  rw [← hz', ← hn0', ← hn1', ← hn2', ← hcn', ← hwt', ← hdn']
  have hb4 : Below w3.heap.size w3 (w3.alloc (.cells #[.int .i64 z', .slice A' n0' a', .slice B' n1' b', .slice C' n2' c', .int .i64 cn', .int .i64 wt', .bool dn'] 37)) := (Below.refl _ _).alloc (Nat.le_refl _) _
  have x9 : (w3.alloc (.cells #[.int .i64 z', .slice A' n0' a', .slice B' n1' b', .slice C' n2' c', .int .i64 cn', .int .i64 wt', .bool dn'] 37)).heap[w3.heap.size]? = some (.cells #[.int .i64 z', .slice A' n0' a', .slice B' n1' b', .slice C' n2' c', .int .i64 cn', .int .i64 wt', .bool dn'] 37 (0, 0)) := heap_alloc_new _ _
  have y4 := heap_below y2 hb4
  have L4 := Lib.hid (And.intro (L3.out.1.below hb4) (bthen L3.out.2 hb4))
  have r0 : (w3.alloc (.cells #[.int .i64 z', .slice A' n0' a', .slice B' n1' b', .slice C' n2' c', .int .i64 cn', .int .i64 wt', .bool dn'] 37)).cell? ⟨w.heap.size + 1 + 1, 0, none⟩ = some (.int .i64 0) := box_cell y4 0 _ rfl
  have r1 : (w3.alloc (.cells #[.int .i64 z', .slice A' n0' a', .slice B' n1' b', .slice C' n2' c', .int .i64 cn', .int .i64 wt', .bool dn'] 37)).cell? ⟨w.heap.size + 1 + 1, 1, none⟩ = some (.slice none 0 0) := box_cell y4 1 _ rfl
  have r2 : (w3.alloc (.cells #[.int .i64 z', .slice A' n0' a', .slice B' n1' b', .slice C' n2' c', .int .i64 cn', .int .i64 wt', .bool dn'] 37)).cell? ⟨w.heap.size + 1 + 1, 2, none⟩ = some (.slice none 0 0) := box_cell y4 2 _ rfl
  have r3 : (w3.alloc (.cells #[.int .i64 z', .slice A' n0' a', .slice B' n1' b', .slice C' n2' c', .int .i64 cn', .int .i64 wt', .bool dn'] 37)).cell? ⟨w.heap.size + 1 + 1, 3, none⟩ = some (.slice none 0 0) := box_cell y4 3 _ rfl
  have r4 : (w3.alloc (.cells #[.int .i64 z', .slice A' n0' a', .slice B' n1' b', .slice C' n2' c', .int .i64 cn', .int .i64 wt', .bool dn'] 37)).cell? ⟨w.heap.size + 1 + 1, 4, none⟩ = some (.int .i64 0) := box_cell y4 4 _ rfl
  have r5 : (w3.alloc (.cells #[.int .i64 z', .slice A' n0' a', .slice B' n1' b', .slice C' n2' c', .int .i64 cn', .int .i64 wt', .bool dn'] 37)).cell? ⟨w.heap.size + 1 + 1, 5, none⟩ = some (.int .i64 0) := box_cell y4 5 _ rfl
  have r6 : (w3.alloc (.cells #[.int .i64 z', .slice A' n0' a', .slice B' n1' b', .slice C' n2' c', .int .i64 cn', .int .i64 wt', .bool dn'] 37)).cell? ⟨w.heap.size + 1 + 1, 6, none⟩ = some (.bool false) := box_cell y4 6 _ rfl
  have g0 := box_free y4 0
  have g1 := box_free y4 1
  have g2 := box_free y4 2
  have g3 := box_free y4 3
  have g4 := box_free y4 4
  have g5 := box_free y4 5
  have g6 := box_free y4 6
  have q0 : (w3.alloc (.cells #[.int .i64 z', .slice A' n0' a', .slice B' n1' b', .slice C' n2' c', .int .i64 cn', .int .i64 wt', .bool dn'] 37)).cell? ⟨w3.heap.size, 0, none⟩ = some (.int .i64 z') := box_cell x9 0 _ rfl
  have q1 : (w3.alloc (.cells #[.int .i64 z', .slice A' n0' a', .slice B' n1' b', .slice C' n2' c', .int .i64 cn', .int .i64 wt', .bool dn'] 37)).cell? ⟨w3.heap.size, 1, none⟩ = some (.slice A' n0' a') := box_cell x9 1 _ rfl
  have q2 : (w3.alloc (.cells #[.int .i64 z', .slice A' n0' a', .slice B' n1' b', .slice C' n2' c', .int .i64 cn', .int .i64 wt', .bool dn'] 37)).cell? ⟨w3.heap.size, 2, none⟩ = some (.slice B' n1' b') := box_cell x9 2 _ rfl
  have q3 : (w3.alloc (.cells #[.int .i64 z', .slice A' n0' a', .slice B' n1' b', .slice C' n2' c', .int .i64 cn', .int .i64 wt', .bool dn'] 37)).cell? ⟨w3.heap.size, 3, none⟩ = some (.slice C' n2' c') := box_cell x9 3 _ rfl
  have q4 : (w3.alloc (.cells #[.int .i64 z', .slice A' n0' a', .slice B' n1' b', .slice C' n2' c', .int .i64 cn', .int .i64 wt', .bool dn'] 37)).cell? ⟨w3.heap.size, 4, none⟩ = some (.int .i64 cn') := box_cell x9 4 _ rfl
  have q5 : (w3.alloc (.cells #[.int .i64 z', .slice A' n0' a', .slice B' n1' b', .slice C' n2' c', .int .i64 cn', .int .i64 wt', .bool dn'] 37)).cell? ⟨w3.heap.size, 5, none⟩ = some (.int .i64 wt') := box_cell x9 5 _ rfl
  have q6 : (w3.alloc (.cells #[.int .i64 z', .slice A' n0' a', .slice B' n1' b', .slice C' n2' c', .int .i64 cn', .int .i64 wt', .bool dn'] 37)).cell? ⟨w3.heap.size, 6, none⟩ = some (.bool dn') := box_cell x9 6 _ rfl
  have HY := Lib.hid y4
  clear hb4 y2 y4 x9 L3 hz' hn0' hn1' hn2' hcn' hwt' hdn'
  go_wp2
  have s7 := set7 (.int .i64 z') (.slice A' n0' a') (.slice B' n1' b') (.slice C' n2' c') (.int .i64 cn') (.int .i64 wt') (.bool dn') HY.out
  refine bodyPost_ret (results_c2 (P := Try.prog) rfl _ _ _ _ _ _ _ (by rfl) s7.1 Try.underlying37 rfl (by kernel_rfl)) rfl ?_
  exact ⟨_, rfl, BothS.mk' H1.out.1 L2.out.2.1 L2.out.2.2.1 L4.out.2 L2.out.1 (show RFl _ [.int .i64 z', .slice A' n0' a', .slice B' n1' b', .slice C' n2' c', .int .i64 cn', .int .i64 wt', .bool dn'] s2 _ from by obtain ⟨e0, e1, e2, e3, e4, e5, e6⟩ := HE2.out; have := L4.out.1; rw [e0, e1, e2, e3, e4, e5, e6] at *; exact this) s7.2 ⟨by omega, H1.out.2.1⟩ H0.out.1⟩
set_option maxRecDepth 100000 in
set_option maxHeartbeats 3200000 in
theorem both2 (w : World) {p : Nat} {G : List Nat} {s : FSt} {v : List Value} {Us : List Nat} (hf : Fl w p G s) (hr : RFl w v s (Us ++ G)) (hU : ∀ x ∈ Us, x < w.heap.size) (hk : FOk s) (bank x y : Int) (l : List UInt8) {D : Option Addr} {m d : Nat} (hb : Sl w 1 D m d (l.map by8)) (hm : m ≤ 2097152) (hDG : Ap G D m) :
    Calls Try.prog 43 #[.pointer (some ⟨p, 0, none⟩), .agg v.toArray, .agg #[.int .i64 2, .int .i64 bank, .slice D m d, .int .i64 x, .int .i64 y]] w fun e w' => ∃ v', e = .returned (.tuple #[.agg v'.toArray, .bool true]) ∧ BothS w w' p Us G v' ((eraF s bank).1) := by
  have hG := hf.lts
  have hmd := hb.le; have hmd2 := hb.max
  have hr' := hr.grow (Ys := (w.heap.size + 2) :: (Us ++ G)) (fun y hy => by rcases List.mem_cons.1 hy with h | h; exact .inr (by omega); exact .inl h)
  obtain ⟨A, B, C, a, b, c, rfl, _⟩ := hr.out
  rw [refV_eq]
  have hDoc := fun w1 Xs (h1 : RFl w1 (refV s A B C a b c) s Xs) (h2 : ∀ x ∈ Xs, x < w1.heap.size) => ref_Erase w1 h1 hk bank h2
  rw [refV_eq] at hDoc
  have hProg := fun w1 (h1 : Fl w1 p G s) => flash_Erase w1 h1 hk bank
  obtain ⟨s2, hs2⟩ : ∃ s2, s2 = (eraF s bank).1 := ⟨_, rfl⟩
  obtain ⟨r, hre⟩ : ∃ r, r = (eraF s bank).2 := ⟨_, rfl⟩
  rw [← hs2, ← hre] at hDoc hProg
  rw [← hs2]
  have HProg := Lib.hid hProg
  have k0 : ((r : Int) == (r : Int)) = true := by simp
  clear hs2 hre hProg
  obtain ⟨z, hz⟩ : ∃ z, z = s.size := ⟨_, rfl⟩
  obtain ⟨n0, hn0⟩ : ∃ z, z = s.b0.length := ⟨_, rfl⟩
  obtain ⟨n1, hn1⟩ : ∃ z, z = s.b1.length := ⟨_, rfl⟩
  obtain ⟨n2, hn2⟩ : ∃ z, z = s.armed.length := ⟨_, rfl⟩
  obtain ⟨cn, hcn⟩ : ∃ z, z = s.count := ⟨_, rfl⟩
  obtain ⟨wt, hwt⟩ : ∃ z, z = s.writes := ⟨_, rfl⟩
  obtain ⟨dn, hdn⟩ : ∃ z, z = s.down := ⟨_, rfl⟩
  rw [← hz, ← hn0, ← hn1, ← hn2, ← hcn, ← hwt, ← hdn] at hDoc
  have HDoc := Lib.hid hDoc
  clear hDoc
  rw [← hz, ← hn0, ← hn1, ← hn2, ← hcn, ← hwt, ← hdn]
  obtain ⟨W1, hW1⟩ : ∃ W1, W1 = ((w.alloc (.cells #[.int .i64 z, .slice A n0 a, .slice B n1 b, .slice C n2 c, .int .i64 cn, .int .i64 wt, .bool dn] 37)).alloc (.cells #[.int .i64 2, .int .i64 bank, .slice D m d, .int .i64 x, .int .i64 y] 53)).alloc (.cells #[.int .i64 0, .slice none 0 0, .slice none 0 0, .slice none 0 0, .int .i64 0, .int .i64 0, .bool false] 37) := ⟨_, rfl⟩
  have hb1 : Below w.heap.size w W1 := by rw [hW1]; exact (below2 _ _ _).alloc (by simp; omega) _
  have hs1 : w.heap.size + 2 < W1.heap.size := by rw [hW1]; simp
  have x0 : W1.heap[w.heap.size]? = some (.cells #[.int .i64 z, .slice A n0 a, .slice B n1 b, .slice C n2 c, .int .i64 cn, .int .i64 wt, .bool dn] 37 (0, 0)) := by rw [hW1]; exact heap_below (heap_alloc1 _ _ _) ((Below.refl _ _).alloc (Nat.le_refl _) _)
  have x1 : W1.heap[w.heap.size + 1]? = some (.cells #[.int .i64 2, .int .i64 bank, .slice D m d, .int .i64 x, .int .i64 y] 53 (0, 0)) := by rw [hW1]; exact heap_below (heap_alloc2 _ _ _) ((Below.refl _ _).alloc (Nat.le_refl _) _)
  have x2 : W1.heap[w.heap.size + 2]? = some (.cells #[.int .i64 0, .slice none 0 0, .slice none 0 0, .slice none 0 0, .int .i64 0, .int .i64 0, .bool false] 37 (0, 0)) := by
    have := heap_alloc_new ((w.alloc (.cells #[.int .i64 z, .slice A n0 a, .slice B n1 b, .slice C n2 c, .int .i64 cn, .int .i64 wt, .bool dn] 37)).alloc (.cells #[.int .i64 2, .int .i64 bank, .slice D m d, .int .i64 x, .int .i64 y] 53)) (.cells #[.int .i64 0, .slice none 0 0, .slice none 0 0, .slice none 0 0, .int .i64 0, .int .i64 0, .bool false] 37)
    rw [hW1]; simpa using this
  have m0 : W1.cell? ⟨w.heap.size, 0, none⟩ = some (.int .i64 z) := box_cell x0 0 _ rfl
  have m1 : W1.cell? ⟨w.heap.size, 1, none⟩ = some (.slice A n0 a) := box_cell x0 1 _ rfl
  have m2 : W1.cell? ⟨w.heap.size, 2, none⟩ = some (.slice B n1 b) := box_cell x0 2 _ rfl
  have m3 : W1.cell? ⟨w.heap.size, 3, none⟩ = some (.slice C n2 c) := box_cell x0 3 _ rfl
  have m4 : W1.cell? ⟨w.heap.size, 4, none⟩ = some (.int .i64 cn) := box_cell x0 4 _ rfl
  have m5 : W1.cell? ⟨w.heap.size, 5, none⟩ = some (.int .i64 wt) := box_cell x0 5 _ rfl
  have m6 : W1.cell? ⟨w.heap.size, 6, none⟩ = some (.bool dn) := box_cell x0 6 _ rfl
  have e0 : W1.cell? ⟨w.heap.size + 1, 0, none⟩ = some (.int .i64 2) := box_cell x1 0 _ rfl
  have e1 : W1.cell? ⟨w.heap.size + 1, 1, none⟩ = some (.int .i64 bank) := box_cell x1 1 _ rfl
  have e2 : W1.cell? ⟨w.heap.size + 1, 2, none⟩ = some (.slice D m d) := box_cell x1 2 _ rfl
  have e3 : W1.cell? ⟨w.heap.size + 1, 3, none⟩ = some (.int .i64 x) := box_cell x1 3 _ rfl
  have e4 : W1.cell? ⟨w.heap.size + 1, 4, none⟩ = some (.int .i64 y) := box_cell x1 4 _ rfl
  have H1 := Lib.hid (And.intro hb1 (And.intro hs1 (And.intro x0 (And.intro x1 (And.intro x2 (And.intro (hf.below hb1) (hr'.below hb1)))))))
  have HE := Lib.hid (And.intro hz (And.intro hn0 (And.intro hn1 (And.intro hn2 (And.intro hcn (And.intro hwt hdn))))))
  have H0 := Lib.hid (And.intro hG (And.intro hb (And.intro hk (And.intro hDG hU))))
  clear hf hr hr' hG hb hDG hU hb1 hs1 x0 x1 x2 hz hn0 hn1 hn2 hcn hwt hdn hk
  go_enter Try.func43, Try.ntmps43
  go_wp2_with fail
  rw [← hW1]
  clear hW1
  refine (HProg.out _ H1.out.2.2.2.2.2.1).mono ?_
  rintro e w2 ⟨rfl, hst⟩
  obtain ⟨G2, f2, k2, hG2⟩ := hst.out
  have hn0G : w.heap.size ∉ G := fun hx => by have := H0.out.1 _ hx; omega
  have hn1G : w.heap.size + 1 ∉ G := fun hx => by have := H0.out.1 _ hx; omega
  have hn2G : w.heap.size + 2 ∉ G := fun hx => by have := H0.out.1 _ hx; omega
  have y0 := k2.heap H1.out.2.2.1 hn0G
  have y1 := k2.heap H1.out.2.2.2.1 hn1G
  have y2 : w2.heap[w.heap.size + 1 + 1]? = _ := k2.heap H1.out.2.2.2.2.1 hn2G
  have r2 : RFl w2 (refV s A B C a b c) s ((w.heap.size + 2) :: (Us ++ G2)) := H1.out.2.2.2.2.2.2.step (k2.mono (by intro q hq; simp [hq])) (fun q hq => by rcases List.mem_cons.1 hq with h | h; exact .inl (by simp [h]); rcases List.mem_append.1 h with h | h; exact .inl (by simp [h]); rcases hG2 q h with h | h; exact .inl (by simp [h]); exact .inr h)
  have HY0 := Lib.hid y0
  have L2 := Lib.hid (And.intro f2 (And.intro k2 (And.intro hG2 (And.intro y2 r2))))
  have hlts2 : ∀ q ∈ ((w.heap.size + 2) :: (Us ++ G2)), q < w2.heap.size := fun q hq => by
    have h3 := H1.out.1.size; have h4 := k2.size; have h5 := H1.out.2.1
    rcases List.mem_cons.1 hq with h | h
    · omega
    · rcases List.mem_append.1 h with h | h
      · have := H0.out.2.2.2.2 q h; omega
      · exact f2.lts q h
  have HLT := Lib.hid hlts2
  clear m0 m1 m2 m3 m4 m5 m6 e0 e1 e2 e3 e4
  have m0 : w2.cell? ⟨w.heap.size, 0, none⟩ = some (.int .i64 z) := box_cell y0 0 _ rfl
  have m1 : w2.cell? ⟨w.heap.size, 1, none⟩ = some (.slice A n0 a) := box_cell y0 1 _ rfl
  have m2 : w2.cell? ⟨w.heap.size, 2, none⟩ = some (.slice B n1 b) := box_cell y0 2 _ rfl
  have m3 : w2.cell? ⟨w.heap.size, 3, none⟩ = some (.slice C n2 c) := box_cell y0 3 _ rfl
  have m4 : w2.cell? ⟨w.heap.size, 4, none⟩ = some (.int .i64 cn) := box_cell y0 4 _ rfl
  have m5 : w2.cell? ⟨w.heap.size, 5, none⟩ = some (.int .i64 wt) := box_cell y0 5 _ rfl
  have m6 : w2.cell? ⟨w.heap.size, 6, none⟩ = some (.bool dn) := box_cell y0 6 _ rfl
  have e0 : w2.cell? ⟨w.heap.size + 1, 0, none⟩ = some (.int .i64 2) := box_cell y1 0 _ rfl
  have e1 : w2.cell? ⟨w.heap.size + 1, 1, none⟩ = some (.int .i64 bank) := box_cell y1 1 _ rfl
  have e2 : w2.cell? ⟨w.heap.size + 1, 2, none⟩ = some (.slice D m d) := box_cell y1 2 _ rfl
  have e3 : w2.cell? ⟨w.heap.size + 1, 3, none⟩ = some (.int .i64 x) := box_cell y1 3 _ rfl
  have e4 : w2.cell? ⟨w.heap.size + 1, 4, none⟩ = some (.int .i64 y) := box_cell y1 4 _ rfl
  clear hst f2 k2 hG2 y0 y1 y2 r2 hlts2 hn0G hn1G hn2G
  go_wp2_with (first | (at_builtin; refine Stopped.out ?_) | (at_make; refine Stopped.out ?_))
  refine (HDoc.out _ _ L2.out.2.2.2.2 HLT.out).mono ?_
  rintro e w3 ⟨v', rfl, r3, hb3⟩
  have y2 := heap_below L2.out.2.2.2.1 hb3
  have L3 := Lib.hid (And.intro r3 hb3)
  obtain ⟨A', B', C', a', b', c', rfl, _⟩ := r3.out
  rw [refV_eq]
  clear r3 hb3 m0 m1 m2 m3 m4 m5 m6 e0 e1 e2 e3 e4
  obtain ⟨z', hz'⟩ : ∃ z, z = s2.size := ⟨_, rfl⟩
  obtain ⟨n0', hn0'⟩ : ∃ z, z = s2.b0.length := ⟨_, rfl⟩
  obtain ⟨n1', hn1'⟩ : ∃ z, z = s2.b1.length := ⟨_, rfl⟩
  obtain ⟨n2', hn2'⟩ : ∃ z, z = s2.armed.length := ⟨_, rfl⟩
  obtain ⟨cn', hcn'⟩ : ∃ z, z = s2.count := ⟨_, rfl⟩
  obtain ⟨wt', hwt'⟩ : ∃ z, z = s2.writes := ⟨_, rfl⟩
  obtain ⟨dn', hdn'⟩ : ∃ z, z = s2.down := ⟨_, rfl⟩
  have HE2 := Lib.hid (And.intro hz' (And.intro hn0' (And.intro hn1' (And.intro hn2' (And.intro hcn' (And.intro hwt' hdn'))))))
  rw [← hz', ← hn0', ← hn1', ← hn2', ← hcn', ← hwt', ← hdn']
  have hb4 : Below w3.heap.size w3 (w3.alloc (.cells #[.int .i64 z', .slice A' n0' a', .slice B' n1' b', .slice C' n2' c', .int .i64 cn', .int .i64 wt', .bool dn'] 37)) := (Below.refl _ _).alloc (Nat.le_refl _) _
  have x9 : (w3.alloc (.cells #[.int .i64 z', .slice A' n0' a', .slice B' n1' b', .slice C' n2' c', .int .i64 cn', .int .i64 wt', .bool dn'] 37)).heap[w3.heap.size]? = some (.cells #[.int .i64 z', .slice A' n0' a', .slice B' n1' b', .slice C' n2' c', .int .i64 cn', .int .i64 wt', .bool dn'] 37 (0, 0)) := heap_alloc_new _ _
  have y4 := heap_below y2 hb4
  have L4 := Lib.hid (And.intro (L3.out.1.below hb4) (bthen L3.out.2 hb4))
  have r0 : (w3.alloc (.cells #[.int .i64 z', .slice A' n0' a', .slice B' n1' b', .slice C' n2' c', .int .i64 cn', .int .i64 wt', .bool dn'] 37)).cell? ⟨w.heap.size + 1 + 1, 0, none⟩ = some (.int .i64 0) := box_cell y4 0 _ rfl
  have r1 : (w3.alloc (.cells #[.int .i64 z', .slice A' n0' a', .slice B' n1' b', .slice C' n2' c', .int .i64 cn', .int .i64 wt', .bool dn'] 37)).cell? ⟨w.heap.size + 1 + 1, 1, none⟩ = some (.slice none 0 0) := box_cell y4 1 _ rfl
  have r2 : (w3.alloc (.cells #[.int .i64 z', .slice A' n0' a', .slice B' n1' b', .slice C' n2' c', .int .i64 cn', .int .i64 wt', .bool dn'] 37)).cell? ⟨w.heap.size + 1 + 1, 2, none⟩ = some (.slice none 0 0) := box_cell y4 2 _ rfl
  have r3 : (w3.alloc (.cells #[.int .i64 z', .slice A' n0' a', .slice B' n1' b', .slice C' n2' c', .int .i64 cn', .int .i64 wt', .bool dn'] 37)).cell? ⟨w.heap.size + 1 + 1, 3, none⟩ = some (.slice none 0 0) := box_cell y4 3 _ rfl
  have r4 : (w3.alloc (.cells #[.int .i64 z', .slice A' n0' a', .slice B' n1' b', .slice C' n2' c', .int .i64 cn', .int .i64 wt', .bool dn'] 37)).cell? ⟨w.heap.size + 1 + 1, 4, none⟩ = some (.int .i64 0) := box_cell y4 4 _ rfl
  have r5 : (w3.alloc (.cells #[.int .i64 z', .slice A' n0' a', .slice B' n1' b', .slice C' n2' c', .int .i64 cn', .int .i64 wt', .bool dn'] 37)).cell? ⟨w.heap.size + 1 + 1, 5, none⟩ = some (.int .i64 0) := box_cell y4 5 _ rfl
  have r6 : (w3.alloc (.cells #[.int .i64 z', .slice A' n0' a', .slice B' n1' b', .slice C' n2' c', .int .i64 cn', .int .i64 wt', .bool dn'] 37)).cell? ⟨w.heap.size + 1 + 1, 6, none⟩ = some (.bool false) := box_cell y4 6 _ rfl
  have g0 := box_free y4 0
  have g1 := box_free y4 1
  have g2 := box_free y4 2
  have g3 := box_free y4 3
  have g4 := box_free y4 4
  have g5 := box_free y4 5
  have g6 := box_free y4 6
  have q0 : (w3.alloc (.cells #[.int .i64 z', .slice A' n0' a', .slice B' n1' b', .slice C' n2' c', .int .i64 cn', .int .i64 wt', .bool dn'] 37)).cell? ⟨w3.heap.size, 0, none⟩ = some (.int .i64 z') := box_cell x9 0 _ rfl
  have q1 : (w3.alloc (.cells #[.int .i64 z', .slice A' n0' a', .slice B' n1' b', .slice C' n2' c', .int .i64 cn', .int .i64 wt', .bool dn'] 37)).cell? ⟨w3.heap.size, 1, none⟩ = some (.slice A' n0' a') := box_cell x9 1 _ rfl
  have q2 : (w3.alloc (.cells #[.int .i64 z', .slice A' n0' a', .slice B' n1' b', .slice C' n2' c', .int .i64 cn', .int .i64 wt', .bool dn'] 37)).cell? ⟨w3.heap.size, 2, none⟩ = some (.slice B' n1' b') := box_cell x9 2 _ rfl
  have q3 : (w3.alloc (.cells #[.int .i64 z', .slice A' n0' a', .slice B' n1' b', .slice C' n2' c', .int .i64 cn', .int .i64 wt', .bool dn'] 37)).cell? ⟨w3.heap.size, 3, none⟩ = some (.slice C' n2' c') := box_cell x9 3 _ rfl
  have q4 : (w3.alloc (.cells #[.int .i64 z', .slice A' n0' a', .slice B' n1' b', .slice C' n2' c', .int .i64 cn', .int .i64 wt', .bool dn'] 37)).cell? ⟨w3.heap.size, 4, none⟩ = some (.int .i64 cn') := box_cell x9 4 _ rfl
  have q5 : (w3.alloc (.cells #[.int .i64 z', .slice A' n0' a', .slice B' n1' b', .slice C' n2' c', .int .i64 cn', .int .i64 wt', .bool dn'] 37)).cell? ⟨w3.heap.size, 5, none⟩ = some (.int .i64 wt') := box_cell x9 5 _ rfl
  have q6 : (w3.alloc (.cells #[.int .i64 z', .slice A' n0' a', .slice B' n1' b', .slice C' n2' c', .int .i64 cn', .int .i64 wt', .bool dn'] 37)).cell? ⟨w3.heap.size, 6, none⟩ = some (.bool dn') := box_cell x9 6 _ rfl
  have HY := Lib.hid y4
  clear hb4 y2 y4 x9 L3 hz' hn0' hn1' hn2' hcn' hwt' hdn'
  go_wp2
  have s7 := set7 (.int .i64 z') (.slice A' n0' a') (.slice B' n1' b') (.slice C' n2' c') (.int .i64 cn') (.int .i64 wt') (.bool dn') HY.out
  refine bodyPost_ret (results_c2 (P := Try.prog) rfl _ _ _ _ _ _ _ (by rfl) s7.1 Try.underlying37 rfl (by kernel_rfl)) rfl ?_
  exact ⟨_, rfl, BothS.mk' H1.out.1 L2.out.2.1 L2.out.2.2.1 L4.out.2 L2.out.1 (show RFl _ [.int .i64 z', .slice A' n0' a', .slice B' n1' b', .slice C' n2' c', .int .i64 cn', .int .i64 wt', .bool dn'] s2 _ from by obtain ⟨e0, e1, e2, e3, e4, e5, e6⟩ := HE2.out; have := L4.out.1; rw [e0, e1, e2, e3, e4, e5, e6] at *; exact this) s7.2 ⟨by omega, H1.out.2.1⟩ H0.out.1⟩
set_option maxRecDepth 100000 in
set_option maxHeartbeats 3200000 in
theorem both5 (w : World) {p : Nat} {G : List Nat} {s : FSt} {v : List Value} {Us : List Nat} (hf : Fl w p G s) (hr : RFl w v s (Us ++ G)) (hU : ∀ x ∈ Us, x < w.heap.size) (hk : FOk s) (bank x y : Int) (l : List UInt8) {D : Option Addr} {m d : Nat} (hb : Sl w 1 D m d (l.map by8)) (hm : m ≤ 2097152) (hDG : Ap G D m) :
    Calls Try.prog 43 #[.pointer (some ⟨p, 0, none⟩), .agg v.toArray, .agg #[.int .i64 5, .int .i64 bank, .slice D m d, .int .i64 x, .int .i64 y]] w fun e w' => ∃ v', e = .returned (.tuple #[.agg v'.toArray, .bool true]) ∧ BothS w w' p Us G v' ((armF s x y).1) := by
  have hG := hf.lts
  have hmd := hb.le; have hmd2 := hb.max
  have hr' := hr.grow (Ys := (w.heap.size + 2) :: (Us ++ G)) (fun y hy => by rcases List.mem_cons.1 hy with h | h; exact .inr (by omega); exact .inl h)
  obtain ⟨A, B, C, a, b, c, rfl, _⟩ := hr.out
  rw [refV_eq]
  have hDoc := fun w1 Xs (h1 : RFl w1 (refV s A B C a b c) s Xs) (h2 : ∀ x ∈ Xs, x < w1.heap.size) => ref_Arm w1 h1 x y h2
  rw [refV_eq] at hDoc
  have hProg := fun w1 (h1 : Fl w1 p G s) => flash_Arm w1 h1 x y
  obtain ⟨s2, hs2⟩ : ∃ s2, s2 = (armF s x y).1 := ⟨_, rfl⟩
  obtain ⟨r, hre⟩ : ∃ r, r = (armF s x y).2 := ⟨_, rfl⟩
  rw [← hs2, ← hre] at hDoc hProg
  rw [← hs2]
  have HProg := Lib.hid hProg
  have k0 : ((r : Int) == (r : Int)) = true := by simp
  clear hs2 hre hProg
  obtain ⟨z, hz⟩ : ∃ z, z = s.size := ⟨_, rfl⟩
  obtain ⟨n0, hn0⟩ : ∃ z, z = s.b0.length := ⟨_, rfl⟩
  obtain ⟨n1, hn1⟩ : ∃ z, z = s.b1.length := ⟨_, rfl⟩
  obtain ⟨n2, hn2⟩ : ∃ z, z = s.armed.length := ⟨_, rfl⟩
  obtain ⟨cn, hcn⟩ : ∃ z, z = s.count := ⟨_, rfl⟩
  obtain ⟨wt, hwt⟩ : ∃ z, z = s.writes := ⟨_, rfl⟩
  obtain ⟨dn, hdn⟩ : ∃ z, z = s.down := ⟨_, rfl⟩
  rw [← hz, ← hn0, ← hn1, ← hn2, ← hcn, ← hwt, ← hdn] at hDoc
  have HDoc := Lib.hid hDoc
  clear hDoc
  rw [← hz, ← hn0, ← hn1, ← hn2, ← hcn, ← hwt, ← hdn]
  obtain ⟨W1, hW1⟩ : ∃ W1, W1 = ((w.alloc (.cells #[.int .i64 z, .slice A n0 a, .slice B n1 b, .slice C n2 c, .int .i64 cn, .int .i64 wt, .bool dn] 37)).alloc (.cells #[.int .i64 5, .int .i64 bank, .slice D m d, .int .i64 x, .int .i64 y] 53)).alloc (.cells #[.int .i64 0, .slice none 0 0, .slice none 0 0, .slice none 0 0, .int .i64 0, .int .i64 0, .bool false] 37) := ⟨_, rfl⟩
  have hb1 : Below w.heap.size w W1 := by rw [hW1]; exact (below2 _ _ _).alloc (by simp; omega) _
  have hs1 : w.heap.size + 2 < W1.heap.size := by rw [hW1]; simp
  have x0 : W1.heap[w.heap.size]? = some (.cells #[.int .i64 z, .slice A n0 a, .slice B n1 b, .slice C n2 c, .int .i64 cn, .int .i64 wt, .bool dn] 37 (0, 0)) := by rw [hW1]; exact heap_below (heap_alloc1 _ _ _) ((Below.refl _ _).alloc (Nat.le_refl _) _)
  have x1 : W1.heap[w.heap.size + 1]? = some (.cells #[.int .i64 5, .int .i64 bank, .slice D m d, .int .i64 x, .int .i64 y] 53 (0, 0)) := by rw [hW1]; exact heap_below (heap_alloc2 _ _ _) ((Below.refl _ _).alloc (Nat.le_refl _) _)
  have x2 : W1.heap[w.heap.size + 2]? = some (.cells #[.int .i64 0, .slice none 0 0, .slice none 0 0, .slice none 0 0, .int .i64 0, .int .i64 0, .bool false] 37 (0, 0)) := by
    have := heap_alloc_new ((w.alloc (.cells #[.int .i64 z, .slice A n0 a, .slice B n1 b, .slice C n2 c, .int .i64 cn, .int .i64 wt, .bool dn] 37)).alloc (.cells #[.int .i64 5, .int .i64 bank, .slice D m d, .int .i64 x, .int .i64 y] 53)) (.cells #[.int .i64 0, .slice none 0 0, .slice none 0 0, .slice none 0 0, .int .i64 0, .int .i64 0, .bool false] 37)
    rw [hW1]; simpa using this
  have m0 : W1.cell? ⟨w.heap.size, 0, none⟩ = some (.int .i64 z) := box_cell x0 0 _ rfl
  have m1 : W1.cell? ⟨w.heap.size, 1, none⟩ = some (.slice A n0 a) := box_cell x0 1 _ rfl
  have m2 : W1.cell? ⟨w.heap.size, 2, none⟩ = some (.slice B n1 b) := box_cell x0 2 _ rfl
  have m3 : W1.cell? ⟨w.heap.size, 3, none⟩ = some (.slice C n2 c) := box_cell x0 3 _ rfl
  have m4 : W1.cell? ⟨w.heap.size, 4, none⟩ = some (.int .i64 cn) := box_cell x0 4 _ rfl
  have m5 : W1.cell? ⟨w.heap.size, 5, none⟩ = some (.int .i64 wt) := box_cell x0 5 _ rfl
  have m6 : W1.cell? ⟨w.heap.size, 6, none⟩ = some (.bool dn) := box_cell x0 6 _ rfl
  have e0 : W1.cell? ⟨w.heap.size + 1, 0, none⟩ = some (.int .i64 5) := box_cell x1 0 _ rfl
  have e1 : W1.cell? ⟨w.heap.size + 1, 1, none⟩ = some (.int .i64 bank) := box_cell x1 1 _ rfl
  have e2 : W1.cell? ⟨w.heap.size + 1, 2, none⟩ = some (.slice D m d) := box_cell x1 2 _ rfl
  have e3 : W1.cell? ⟨w.heap.size + 1, 3, none⟩ = some (.int .i64 x) := box_cell x1 3 _ rfl
  have e4 : W1.cell? ⟨w.heap.size + 1, 4, none⟩ = some (.int .i64 y) := box_cell x1 4 _ rfl
  have H1 := Lib.hid (And.intro hb1 (And.intro hs1 (And.intro x0 (And.intro x1 (And.intro x2 (And.intro (hf.below hb1) (hr'.below hb1)))))))
  have HE := Lib.hid (And.intro hz (And.intro hn0 (And.intro hn1 (And.intro hn2 (And.intro hcn (And.intro hwt hdn))))))
  have H0 := Lib.hid (And.intro hG (And.intro hb (And.intro hk (And.intro hDG hU))))
  clear hf hr hr' hG hb hDG hU hb1 hs1 x0 x1 x2 hz hn0 hn1 hn2 hcn hwt hdn hk
  go_enter Try.func43, Try.ntmps43
  go_wp2_with fail
  rw [← hW1]
  clear hW1
  refine (HProg.out _ H1.out.2.2.2.2.2.1).mono ?_
  rintro e w2 ⟨rfl, hst⟩
  obtain ⟨G2, f2, k2, hG2⟩ := hst.out
  have hn0G : w.heap.size ∉ G := fun hx => by have := H0.out.1 _ hx; omega
  have hn1G : w.heap.size + 1 ∉ G := fun hx => by have := H0.out.1 _ hx; omega
  have hn2G : w.heap.size + 2 ∉ G := fun hx => by have := H0.out.1 _ hx; omega
  have y0 := k2.heap H1.out.2.2.1 hn0G
  have y1 := k2.heap H1.out.2.2.2.1 hn1G
  have y2 : w2.heap[w.heap.size + 1 + 1]? = _ := k2.heap H1.out.2.2.2.2.1 hn2G
  have r2 : RFl w2 (refV s A B C a b c) s ((w.heap.size + 2) :: (Us ++ G2)) := H1.out.2.2.2.2.2.2.step (k2.mono (by intro q hq; simp [hq])) (fun q hq => by rcases List.mem_cons.1 hq with h | h; exact .inl (by simp [h]); rcases List.mem_append.1 h with h | h; exact .inl (by simp [h]); rcases hG2 q h with h | h; exact .inl (by simp [h]); exact .inr h)
  have HY0 := Lib.hid y0
  have L2 := Lib.hid (And.intro f2 (And.intro k2 (And.intro hG2 (And.intro y2 r2))))
  have hlts2 : ∀ q ∈ ((w.heap.size + 2) :: (Us ++ G2)), q < w2.heap.size := fun q hq => by
    have h3 := H1.out.1.size; have h4 := k2.size; have h5 := H1.out.2.1
    rcases List.mem_cons.1 hq with h | h
    · omega
    · rcases List.mem_append.1 h with h | h
      · have := H0.out.2.2.2.2 q h; omega
      · exact f2.lts q h
  have HLT := Lib.hid hlts2
  clear m0 m1 m2 m3 m4 m5 m6 e0 e1 e2 e3 e4
  have m0 : w2.cell? ⟨w.heap.size, 0, none⟩ = some (.int .i64 z) := box_cell y0 0 _ rfl
  have m1 : w2.cell? ⟨w.heap.size, 1, none⟩ = some (.slice A n0 a) := box_cell y0 1 _ rfl
  have m2 : w2.cell? ⟨w.heap.size, 2, none⟩ = some (.slice B n1 b) := box_cell y0 2 _ rfl
  have m3 : w2.cell? ⟨w.heap.size, 3, none⟩ = some (.slice C n2 c) := box_cell y0 3 _ rfl
  have m4 : w2.cell? ⟨w.heap.size, 4, none⟩ = some (.int .i64 cn) := box_cell y0 4 _ rfl
  have m5 : w2.cell? ⟨w.heap.size, 5, none⟩ = some (.int .i64 wt) := box_cell y0 5 _ rfl
  have m6 : w2.cell? ⟨w.heap.size, 6, none⟩ = some (.bool dn) := box_cell y0 6 _ rfl
  have e0 : w2.cell? ⟨w.heap.size + 1, 0, none⟩ = some (.int .i64 5) := box_cell y1 0 _ rfl
  have e1 : w2.cell? ⟨w.heap.size + 1, 1, none⟩ = some (.int .i64 bank) := box_cell y1 1 _ rfl
  have e2 : w2.cell? ⟨w.heap.size + 1, 2, none⟩ = some (.slice D m d) := box_cell y1 2 _ rfl
  have e3 : w2.cell? ⟨w.heap.size + 1, 3, none⟩ = some (.int .i64 x) := box_cell y1 3 _ rfl
  have e4 : w2.cell? ⟨w.heap.size + 1, 4, none⟩ = some (.int .i64 y) := box_cell y1 4 _ rfl
  clear hst f2 k2 hG2 y0 y1 y2 r2 hlts2 hn0G hn1G hn2G
  go_wp2_with (first | (at_builtin; refine Stopped.out ?_) | (at_make; refine Stopped.out ?_))
  refine (HDoc.out _ _ L2.out.2.2.2.2 HLT.out).mono ?_
  rintro e w3 ⟨v', rfl, r3, hb3⟩
  have y2 := heap_below L2.out.2.2.2.1 hb3
  have L3 := Lib.hid (And.intro r3 hb3)
  obtain ⟨A', B', C', a', b', c', rfl, _⟩ := r3.out
  rw [refV_eq]
  clear r3 hb3 m0 m1 m2 m3 m4 m5 m6 e0 e1 e2 e3 e4
  obtain ⟨z', hz'⟩ : ∃ z, z = s2.size := ⟨_, rfl⟩
  obtain ⟨n0', hn0'⟩ : ∃ z, z = s2.b0.length := ⟨_, rfl⟩
  obtain ⟨n1', hn1'⟩ : ∃ z, z = s2.b1.length := ⟨_, rfl⟩
  obtain ⟨n2', hn2'⟩ : ∃ z, z = s2.armed.length := ⟨_, rfl⟩
  obtain ⟨cn', hcn'⟩ : ∃ z, z = s2.count := ⟨_, rfl⟩
  obtain ⟨wt', hwt'⟩ : ∃ z, z = s2.writes := ⟨_, rfl⟩
  obtain ⟨dn', hdn'⟩ : ∃ z, z = s2.down := ⟨_, rfl⟩
  have HE2 := Lib.hid (And.intro hz' (And.intro hn0' (And.intro hn1' (And.intro hn2' (And.intro hcn' (And.intro hwt' hdn'))))))
  rw [← hz', ← hn0', ← hn1', ← hn2', ← hcn', ← hwt', ← hdn']
  have hb4 : Below w3.heap.size w3 (w3.alloc (.cells #[.int .i64 z', .slice A' n0' a', .slice B' n1' b', .slice C' n2' c', .int .i64 cn', .int .i64 wt', .bool dn'] 37)) := (Below.refl _ _).alloc (Nat.le_refl _) _
  have x9 : (w3.alloc (.cells #[.int .i64 z', .slice A' n0' a', .slice B' n1' b', .slice C' n2' c', .int .i64 cn', .int .i64 wt', .bool dn'] 37)).heap[w3.heap.size]? = some (.cells #[.int .i64 z', .slice A' n0' a', .slice B' n1' b', .slice C' n2' c', .int .i64 cn', .int .i64 wt', .bool dn'] 37 (0, 0)) := heap_alloc_new _ _
  have y4 := heap_below y2 hb4
  have L4 := Lib.hid (And.intro (L3.out.1.below hb4) (bthen L3.out.2 hb4))
  have r0 : (w3.alloc (.cells #[.int .i64 z', .slice A' n0' a', .slice B' n1' b', .slice C' n2' c', .int .i64 cn', .int .i64 wt', .bool dn'] 37)).cell? ⟨w.heap.size + 1 + 1, 0, none⟩ = some (.int .i64 0) := box_cell y4 0 _ rfl
  have r1 : (w3.alloc (.cells #[.int .i64 z', .slice A' n0' a', .slice B' n1' b', .slice C' n2' c', .int .i64 cn', .int .i64 wt', .bool dn'] 37)).cell? ⟨w.heap.size + 1 + 1, 1, none⟩ = some (.slice none 0 0) := box_cell y4 1 _ rfl
  have r2 : (w3.alloc (.cells #[.int .i64 z', .slice A' n0' a', .slice B' n1' b', .slice C' n2' c', .int .i64 cn', .int .i64 wt', .bool dn'] 37)).cell? ⟨w.heap.size + 1 + 1, 2, none⟩ = some (.slice none 0 0) := box_cell y4 2 _ rfl
  have r3 : (w3.alloc (.cells #[.int .i64 z', .slice A' n0' a', .slice B' n1' b', .slice C' n2' c', .int .i64 cn', .int .i64 wt', .bool dn'] 37)).cell? ⟨w.heap.size + 1 + 1, 3, none⟩ = some (.slice none 0 0) := box_cell y4 3 _ rfl
  have r4 : (w3.alloc (.cells #[.int .i64 z', .slice A' n0' a', .slice B' n1' b', .slice C' n2' c', .int .i64 cn', .int .i64 wt', .bool dn'] 37)).cell? ⟨w.heap.size + 1 + 1, 4, none⟩ = some (.int .i64 0) := box_cell y4 4 _ rfl
  have r5 : (w3.alloc (.cells #[.int .i64 z', .slice A' n0' a', .slice B' n1' b', .slice C' n2' c', .int .i64 cn', .int .i64 wt', .bool dn'] 37)).cell? ⟨w.heap.size + 1 + 1, 5, none⟩ = some (.int .i64 0) := box_cell y4 5 _ rfl
  have r6 : (w3.alloc (.cells #[.int .i64 z', .slice A' n0' a', .slice B' n1' b', .slice C' n2' c', .int .i64 cn', .int .i64 wt', .bool dn'] 37)).cell? ⟨w.heap.size + 1 + 1, 6, none⟩ = some (.bool false) := box_cell y4 6 _ rfl
  have g0 := box_free y4 0
  have g1 := box_free y4 1
  have g2 := box_free y4 2
  have g3 := box_free y4 3
  have g4 := box_free y4 4
  have g5 := box_free y4 5
  have g6 := box_free y4 6
  have q0 : (w3.alloc (.cells #[.int .i64 z', .slice A' n0' a', .slice B' n1' b', .slice C' n2' c', .int .i64 cn', .int .i64 wt', .bool dn'] 37)).cell? ⟨w3.heap.size, 0, none⟩ = some (.int .i64 z') := box_cell x9 0 _ rfl
  have q1 : (w3.alloc (.cells #[.int .i64 z', .slice A' n0' a', .slice B' n1' b', .slice C' n2' c', .int .i64 cn', .int .i64 wt', .bool dn'] 37)).cell? ⟨w3.heap.size, 1, none⟩ = some (.slice A' n0' a') := box_cell x9 1 _ rfl
  have q2 : (w3.alloc (.cells #[.int .i64 z', .slice A' n0' a', .slice B' n1' b', .slice C' n2' c', .int .i64 cn', .int .i64 wt', .bool dn'] 37)).cell? ⟨w3.heap.size, 2, none⟩ = some (.slice B' n1' b') := box_cell x9 2 _ rfl
  have q3 : (w3.alloc (.cells #[.int .i64 z', .slice A' n0' a', .slice B' n1' b', .slice C' n2' c', .int .i64 cn', .int .i64 wt', .bool dn'] 37)).cell? ⟨w3.heap.size, 3, none⟩ = some (.slice C' n2' c') := box_cell x9 3 _ rfl
  have q4 : (w3.alloc (.cells #[.int .i64 z', .slice A' n0' a', .slice B' n1' b', .slice C' n2' c', .int .i64 cn', .int .i64 wt', .bool dn'] 37)).cell? ⟨w3.heap.size, 4, none⟩ = some (.int .i64 cn') := box_cell x9 4 _ rfl
  have q5 : (w3.alloc (.cells #[.int .i64 z', .slice A' n0' a', .slice B' n1' b', .slice C' n2' c', .int .i64 cn', .int .i64 wt', .bool dn'] 37)).cell? ⟨w3.heap.size, 5, none⟩ = some (.int .i64 wt') := box_cell x9 5 _ rfl
  have q6 : (w3.alloc (.cells #[.int .i64 z', .slice A' n0' a', .slice B' n1' b', .slice C' n2' c', .int .i64 cn', .int .i64 wt', .bool dn'] 37)).cell? ⟨w3.heap.size, 6, none⟩ = some (.bool dn') := box_cell x9 6 _ rfl
  have HY := Lib.hid y4
  clear hb4 y2 y4 x9 L3 hz' hn0' hn1' hn2' hcn' hwt' hdn'
  go_wp2
  have s7 := set7 (.int .i64 z') (.slice A' n0' a') (.slice B' n1' b') (.slice C' n2' c') (.int .i64 cn') (.int .i64 wt') (.bool dn') HY.out
  refine bodyPost_ret (results_c2 (P := Try.prog) rfl _ _ _ _ _ _ _ (by rfl) s7.1 Try.underlying37 rfl (by kernel_rfl)) rfl ?_
  exact ⟨_, rfl, BothS.mk' H1.out.1 L2.out.2.1 L2.out.2.2.1 L4.out.2 L2.out.1 (show RFl _ [.int .i64 z', .slice A' n0' a', .slice B' n1' b', .slice C' n2' c', .int .i64 cn', .int .i64 wt', .bool dn'] s2 _ from by obtain ⟨e0, e1, e2, e3, e4, e5, e6⟩ := HE2.out; have := L4.out.1; rw [e0, e1, e2, e3, e4, e5, e6] at *; exact this) s7.2 ⟨by omega, H1.out.2.1⟩ H0.out.1⟩
set_option maxRecDepth 100000 in
set_option maxHeartbeats 3200000 in
theorem both6 (w : World) {p : Nat} {G : List Nat} {s : FSt} {v : List Value} {Us : List Nat} (hf : Fl w p G s) (hr : RFl w v s (Us ++ G)) (hU : ∀ x ∈ Us, x < w.heap.size) (hk : FOk s) (bank x y : Int) (l : List UInt8) {D : Option Addr} {m d : Nat} (hb : Sl w 1 D m d (l.map by8)) (hm : m ≤ 2097152) (hDG : Ap G D m) :
    Calls Try.prog 43 #[.pointer (some ⟨p, 0, none⟩), .agg v.toArray, .agg #[.int .i64 6, .int .i64 bank, .slice D m d, .int .i64 x, .int .i64 y]] w fun e w' => ∃ v', e = .returned (.tuple #[.agg v'.toArray, .bool true]) ∧ BothS w w' p Us G v' ({ s with armed := [], count := 0 }) := by
  have hG := hf.lts
  have hmd := hb.le; have hmd2 := hb.max
  have hr' := hr.grow (Ys := (w.heap.size + 2) :: (Us ++ G)) (fun y hy => by rcases List.mem_cons.1 hy with h | h; exact .inr (by omega); exact .inl h)
  obtain ⟨A, B, C, a, b, c, rfl, _⟩ := hr.out
  rw [refV_eq]
  have hDoc := fun w1 Xs (h1 : RFl w1 (refV s A B C a b c) s Xs) => ref_Disarm w1 h1
  rw [refV_eq] at hDoc
  have hProg := fun w1 (h1 : Fl w1 p G s) => flash_Disarm w1 h1
  obtain ⟨s2, hs2⟩ : ∃ s2, s2 = { s with armed := [], count := 0 } := ⟨_, rfl⟩
  rw [← hs2] at hDoc hProg
  rw [← hs2]
  have HProg := Lib.hid hProg
  clear hs2 hProg
  obtain ⟨z, hz⟩ : ∃ z, z = s.size := ⟨_, rfl⟩
  obtain ⟨n0, hn0⟩ : ∃ z, z = s.b0.length := ⟨_, rfl⟩
  obtain ⟨n1, hn1⟩ : ∃ z, z = s.b1.length := ⟨_, rfl⟩
  obtain ⟨n2, hn2⟩ : ∃ z, z = s.armed.length := ⟨_, rfl⟩
  obtain ⟨cn, hcn⟩ : ∃ z, z = s.count := ⟨_, rfl⟩
  obtain ⟨wt, hwt⟩ : ∃ z, z = s.writes := ⟨_, rfl⟩
  obtain ⟨dn, hdn⟩ : ∃ z, z = s.down := ⟨_, rfl⟩
  rw [← hz, ← hn0, ← hn1, ← hn2, ← hcn, ← hwt, ← hdn] at hDoc
  have HDoc := Lib.hid hDoc
  clear hDoc
  rw [← hz, ← hn0, ← hn1, ← hn2, ← hcn, ← hwt, ← hdn]
  obtain ⟨W1, hW1⟩ : ∃ W1, W1 = ((w.alloc (.cells #[.int .i64 z, .slice A n0 a, .slice B n1 b, .slice C n2 c, .int .i64 cn, .int .i64 wt, .bool dn] 37)).alloc (.cells #[.int .i64 6, .int .i64 bank, .slice D m d, .int .i64 x, .int .i64 y] 53)).alloc (.cells #[.int .i64 0, .slice none 0 0, .slice none 0 0, .slice none 0 0, .int .i64 0, .int .i64 0, .bool false] 37) := ⟨_, rfl⟩
  have hb1 : Below w.heap.size w W1 := by rw [hW1]; exact (below2 _ _ _).alloc (by simp; omega) _
  have hs1 : w.heap.size + 2 < W1.heap.size := by rw [hW1]; simp
  have x0 : W1.heap[w.heap.size]? = some (.cells #[.int .i64 z, .slice A n0 a, .slice B n1 b, .slice C n2 c, .int .i64 cn, .int .i64 wt, .bool dn] 37 (0, 0)) := by rw [hW1]; exact heap_below (heap_alloc1 _ _ _) ((Below.refl _ _).alloc (Nat.le_refl _) _)
  have x1 : W1.heap[w.heap.size + 1]? = some (.cells #[.int .i64 6, .int .i64 bank, .slice D m d, .int .i64 x, .int .i64 y] 53 (0, 0)) := by rw [hW1]; exact heap_below (heap_alloc2 _ _ _) ((Below.refl _ _).alloc (Nat.le_refl _) _)
  have x2 : W1.heap[w.heap.size + 2]? = some (.cells #[.int .i64 0, .slice none 0 0, .slice none 0 0, .slice none 0 0, .int .i64 0, .int .i64 0, .bool false] 37 (0, 0)) := by
    have := heap_alloc_new ((w.alloc (.cells #[.int .i64 z, .slice A n0 a, .slice B n1 b, .slice C n2 c, .int .i64 cn, .int .i64 wt, .bool dn] 37)).alloc (.cells #[.int .i64 6, .int .i64 bank, .slice D m d, .int .i64 x, .int .i64 y] 53)) (.cells #[.int .i64 0, .slice none 0 0, .slice none 0 0, .slice none 0 0, .int .i64 0, .int .i64 0, .bool false] 37)
    rw [hW1]; simpa using this
  have m0 : W1.cell? ⟨w.heap.size, 0, none⟩ = some (.int .i64 z) := box_cell x0 0 _ rfl
  have m1 : W1.cell? ⟨w.heap.size, 1, none⟩ = some (.slice A n0 a) := box_cell x0 1 _ rfl
  have m2 : W1.cell? ⟨w.heap.size, 2, none⟩ = some (.slice B n1 b) := box_cell x0 2 _ rfl
  have m3 : W1.cell? ⟨w.heap.size, 3, none⟩ = some (.slice C n2 c) := box_cell x0 3 _ rfl
  have m4 : W1.cell? ⟨w.heap.size, 4, none⟩ = some (.int .i64 cn) := box_cell x0 4 _ rfl
  have m5 : W1.cell? ⟨w.heap.size, 5, none⟩ = some (.int .i64 wt) := box_cell x0 5 _ rfl
  have m6 : W1.cell? ⟨w.heap.size, 6, none⟩ = some (.bool dn) := box_cell x0 6 _ rfl
  have e0 : W1.cell? ⟨w.heap.size + 1, 0, none⟩ = some (.int .i64 6) := box_cell x1 0 _ rfl
  have e1 : W1.cell? ⟨w.heap.size + 1, 1, none⟩ = some (.int .i64 bank) := box_cell x1 1 _ rfl
  have e2 : W1.cell? ⟨w.heap.size + 1, 2, none⟩ = some (.slice D m d) := box_cell x1 2 _ rfl
  have e3 : W1.cell? ⟨w.heap.size + 1, 3, none⟩ = some (.int .i64 x) := box_cell x1 3 _ rfl
  have e4 : W1.cell? ⟨w.heap.size + 1, 4, none⟩ = some (.int .i64 y) := box_cell x1 4 _ rfl
  have H1 := Lib.hid (And.intro hb1 (And.intro hs1 (And.intro x0 (And.intro x1 (And.intro x2 (And.intro (hf.below hb1) (hr'.below hb1)))))))
  have HE := Lib.hid (And.intro hz (And.intro hn0 (And.intro hn1 (And.intro hn2 (And.intro hcn (And.intro hwt hdn))))))
  have H0 := Lib.hid (And.intro hG (And.intro hb (And.intro hk (And.intro hDG hU))))
  clear hf hr hr' hG hb hDG hU hb1 hs1 x0 x1 x2 hz hn0 hn1 hn2 hcn hwt hdn hk
  go_enter Try.func43, Try.ntmps43
  go_wp2_with fail
  rw [← hW1]
  clear hW1
  refine (HProg.out _ H1.out.2.2.2.2.2.1).mono ?_
  rintro e w2 ⟨rfl, hst⟩
  obtain ⟨G2, f2, k2, hG2⟩ := hst.out
  have hn0G : w.heap.size ∉ G := fun hx => by have := H0.out.1 _ hx; omega
  have hn1G : w.heap.size + 1 ∉ G := fun hx => by have := H0.out.1 _ hx; omega
  have hn2G : w.heap.size + 2 ∉ G := fun hx => by have := H0.out.1 _ hx; omega
  have y0 := k2.heap H1.out.2.2.1 hn0G
  have y1 := k2.heap H1.out.2.2.2.1 hn1G
  have y2 : w2.heap[w.heap.size + 1 + 1]? = _ := k2.heap H1.out.2.2.2.2.1 hn2G
  have r2 : RFl w2 (refV s A B C a b c) s ((w.heap.size + 2) :: (Us ++ G2)) := H1.out.2.2.2.2.2.2.step (k2.mono (by intro q hq; simp [hq])) (fun q hq => by rcases List.mem_cons.1 hq with h | h; exact .inl (by simp [h]); rcases List.mem_append.1 h with h | h; exact .inl (by simp [h]); rcases hG2 q h with h | h; exact .inl (by simp [h]); exact .inr h)
  have HY0 := Lib.hid y0
  have L2 := Lib.hid (And.intro f2 (And.intro k2 (And.intro hG2 (And.intro y2 r2))))
  have hlts2 : ∀ q ∈ ((w.heap.size + 2) :: (Us ++ G2)), q < w2.heap.size := fun q hq => by
    have h3 := H1.out.1.size; have h4 := k2.size; have h5 := H1.out.2.1
    rcases List.mem_cons.1 hq with h | h
    · omega
    · rcases List.mem_append.1 h with h | h
      · have := H0.out.2.2.2.2 q h; omega
      · exact f2.lts q h
  have HLT := Lib.hid hlts2
  clear m0 m1 m2 m3 m4 m5 m6 e0 e1 e2 e3 e4
  have m0 : w2.cell? ⟨w.heap.size, 0, none⟩ = some (.int .i64 z) := box_cell y0 0 _ rfl
  have m1 : w2.cell? ⟨w.heap.size, 1, none⟩ = some (.slice A n0 a) := box_cell y0 1 _ rfl
  have m2 : w2.cell? ⟨w.heap.size, 2, none⟩ = some (.slice B n1 b) := box_cell y0 2 _ rfl
  have m3 : w2.cell? ⟨w.heap.size, 3, none⟩ = some (.slice C n2 c) := box_cell y0 3 _ rfl
  have m4 : w2.cell? ⟨w.heap.size, 4, none⟩ = some (.int .i64 cn) := box_cell y0 4 _ rfl
  have m5 : w2.cell? ⟨w.heap.size, 5, none⟩ = some (.int .i64 wt) := box_cell y0 5 _ rfl
  have m6 : w2.cell? ⟨w.heap.size, 6, none⟩ = some (.bool dn) := box_cell y0 6 _ rfl
  have e0 : w2.cell? ⟨w.heap.size + 1, 0, none⟩ = some (.int .i64 6) := box_cell y1 0 _ rfl
  have e1 : w2.cell? ⟨w.heap.size + 1, 1, none⟩ = some (.int .i64 bank) := box_cell y1 1 _ rfl
  have e2 : w2.cell? ⟨w.heap.size + 1, 2, none⟩ = some (.slice D m d) := box_cell y1 2 _ rfl
  have e3 : w2.cell? ⟨w.heap.size + 1, 3, none⟩ = some (.int .i64 x) := box_cell y1 3 _ rfl
  have e4 : w2.cell? ⟨w.heap.size + 1, 4, none⟩ = some (.int .i64 y) := box_cell y1 4 _ rfl
  clear hst f2 k2 hG2 y0 y1 y2 r2 hlts2 hn0G hn1G hn2G
  go_wp2_with (first | (at_builtin; refine Stopped.out ?_) | (at_make; refine Stopped.out ?_))
  refine (HDoc.out _ _ L2.out.2.2.2.2).mono ?_
  rintro e w3 ⟨v', rfl, r3, hb3⟩
  have y2 := heap_below L2.out.2.2.2.1 hb3
  have L3 := Lib.hid (And.intro r3 hb3)
  obtain ⟨A', B', C', a', b', c', rfl, _⟩ := r3.out
  rw [refV_eq]
  clear r3 hb3 m0 m1 m2 m3 m4 m5 m6 e0 e1 e2 e3 e4
  obtain ⟨z', hz'⟩ : ∃ z, z = s2.size := ⟨_, rfl⟩
  obtain ⟨n0', hn0'⟩ : ∃ z, z = s2.b0.length := ⟨_, rfl⟩
  obtain ⟨n1', hn1'⟩ : ∃ z, z = s2.b1.length := ⟨_, rfl⟩
  obtain ⟨n2', hn2'⟩ : ∃ z, z = s2.armed.length := ⟨_, rfl⟩
  obtain ⟨cn', hcn'⟩ : ∃ z, z = s2.count := ⟨_, rfl⟩
  obtain ⟨wt', hwt'⟩ : ∃ z, z = s2.writes := ⟨_, rfl⟩
  obtain ⟨dn', hdn'⟩ : ∃ z, z = s2.down := ⟨_, rfl⟩
  have HE2 := Lib.hid (And.intro hz' (And.intro hn0' (And.intro hn1' (And.intro hn2' (And.intro hcn' (And.intro hwt' hdn'))))))
  rw [← hz', ← hn0', ← hn1', ← hn2', ← hcn', ← hwt', ← hdn']
  have r0 : w3.cell? ⟨w.heap.size + 1 + 1, 0, none⟩ = some (.int .i64 0) := box_cell y2 0 _ rfl
  have r1 : w3.cell? ⟨w.heap.size + 1 + 1, 1, none⟩ = some (.slice none 0 0) := box_cell y2 1 _ rfl
  have r2 : w3.cell? ⟨w.heap.size + 1 + 1, 2, none⟩ = some (.slice none 0 0) := box_cell y2 2 _ rfl
  have r3 : w3.cell? ⟨w.heap.size + 1 + 1, 3, none⟩ = some (.slice none 0 0) := box_cell y2 3 _ rfl
  have r4 : w3.cell? ⟨w.heap.size + 1 + 1, 4, none⟩ = some (.int .i64 0) := box_cell y2 4 _ rfl
  have r5 : w3.cell? ⟨w.heap.size + 1 + 1, 5, none⟩ = some (.int .i64 0) := box_cell y2 5 _ rfl
  have r6 : w3.cell? ⟨w.heap.size + 1 + 1, 6, none⟩ = some (.bool false) := box_cell y2 6 _ rfl
  have g0 := box_free y2 0
  have g1 := box_free y2 1
  have g2 := box_free y2 2
  have g3 := box_free y2 3
  have g4 := box_free y2 4
  have g5 := box_free y2 5
  have g6 := box_free y2 6
  have HY := Lib.hid y2
  clear y2 hz' hn0' hn1' hn2' hcn' hwt' hdn'
  go_wp2
  have s7 := set7 (.int .i64 z') (.slice A' n0' a') (.slice B' n1' b') (.slice C' n2' c') (.int .i64 cn') (.int .i64 wt') (.bool dn') HY.out
  refine bodyPost_ret (results_c2 (P := Try.prog) rfl _ _ _ _ _ _ _ (by rfl) s7.1 Try.underlying37 rfl (by kernel_rfl)) rfl ?_
  exact ⟨_, rfl, BothS.mk' H1.out.1 L2.out.2.1 L2.out.2.2.1 L3.out.2 L2.out.1 (show RFl _ [.int .i64 z', .slice A' n0' a', .slice B' n1' b', .slice C' n2' c', .int .i64 cn', .int .i64 wt', .bool dn'] s2 _ from by obtain ⟨e0, e1, e2, e3, e4, e5, e6⟩ := HE2.out; have := L3.out.1; rw [e0, e1, e2, e3, e4, e5, e6] at *; exact this) s7.2 ⟨by omega, H1.out.2.1⟩ H0.out.1⟩
set_option maxRecDepth 100000 in
set_option maxHeartbeats 3200000 in
theorem bothD (w : World) {p : Nat} {G : List Nat} {s : FSt} {v : List Value} {Us : List Nat} (hf : Fl w p G s) (hr : RFl w v s (Us ++ G)) (hU : ∀ x ∈ Us, x < w.heap.size) (hk : FOk s) (kd : Int) (hkd : kd ≠ 1 ∧ kd ≠ 2 ∧ kd ≠ 3 ∧ kd ≠ 4 ∧ kd ≠ 5 ∧ kd ≠ 6 ∧ kd ≠ 7) (bank x y : Int) (l : List UInt8) {D : Option Addr} {m d : Nat} (hb : Sl w 1 D m d (l.map by8)) (hm : m ≤ 2097152) (hDG : Ap G D m) :
    Calls Try.prog 43 #[.pointer (some ⟨p, 0, none⟩), .agg v.toArray, .agg #[.int .i64 kd, .int .i64 bank, .slice D m d, .int .i64 x, .int .i64 y]] w fun e w' => ∃ v', e = .returned (.tuple #[.agg v'.toArray, .bool true]) ∧ BothS w w' p Us G v' (s) := by
  have hG := hf.lts
  have hmd := hb.le; have hmd2 := hb.max
  have hr' := hr.grow (Ys := (w.heap.size + 2) :: (Us ++ G)) (fun y hy => by rcases List.mem_cons.1 hy with h | h; exact .inr (by omega); exact .inl h)
  obtain ⟨A, B, C, a, b, c, rfl, _⟩ := hr.out
  rw [refV_eq]
  have q1 : (kd == 1) = false := by simp; exact hkd.1
  have q2 : (kd == 2) = false := by simp; exact hkd.2.1
  have q3 : (kd == 3) = false := by simp; exact hkd.2.2.1
  have q4 : (kd == 4) = false := by simp; exact hkd.2.2.2.1
  have q5 : (kd == 5) = false := by simp; exact hkd.2.2.2.2.1
  have q6 : (kd == 6) = false := by simp; exact hkd.2.2.2.2.2.1
  have q7 : (kd == 7) = false := by simp; exact hkd.2.2.2.2.2.2
  clear hkd
  have HFR : Hid (Fl w p G s ∧ RFl w [.int .i64 s.size, .slice A s.b0.length a, .slice B s.b1.length b, .slice C s.armed.length c, .int .i64 s.count, .int .i64 s.writes, .bool s.down] s (Us ++ G)) := Lib.hid ⟨hf, hr⟩
  obtain ⟨z, hz⟩ : ∃ z, z = s.size := ⟨_, rfl⟩
  obtain ⟨n0, hn0⟩ : ∃ z, z = s.b0.length := ⟨_, rfl⟩
  obtain ⟨n1, hn1⟩ : ∃ z, z = s.b1.length := ⟨_, rfl⟩
  obtain ⟨n2, hn2⟩ : ∃ z, z = s.armed.length := ⟨_, rfl⟩
  obtain ⟨cn, hcn⟩ : ∃ z, z = s.count := ⟨_, rfl⟩
  obtain ⟨wt, hwt⟩ : ∃ z, z = s.writes := ⟨_, rfl⟩
  obtain ⟨dn, hdn⟩ : ∃ z, z = s.down := ⟨_, rfl⟩
  rw [← hz, ← hn0, ← hn1, ← hn2, ← hcn, ← hwt, ← hdn] at HFR
  rw [← hz, ← hn0, ← hn1, ← hn2, ← hcn, ← hwt, ← hdn]
  obtain ⟨W1, hW1⟩ : ∃ W1, W1 = ((w.alloc (.cells #[.int .i64 z, .slice A n0 a, .slice B n1 b, .slice C n2 c, .int .i64 cn, .int .i64 wt, .bool dn] 37)).alloc (.cells #[.int .i64 kd, .int .i64 bank, .slice D m d, .int .i64 x, .int .i64 y] 53)).alloc (.cells #[.int .i64 0, .slice none 0 0, .slice none 0 0, .slice none 0 0, .int .i64 0, .int .i64 0, .bool false] 37) := ⟨_, rfl⟩
  have hb1 : Below w.heap.size w W1 := by rw [hW1]; exact (below2 _ _ _).alloc (by simp; omega) _
  have hs1 : w.heap.size + 2 < W1.heap.size := by rw [hW1]; simp
  have x0 : W1.heap[w.heap.size]? = some (.cells #[.int .i64 z, .slice A n0 a, .slice B n1 b, .slice C n2 c, .int .i64 cn, .int .i64 wt, .bool dn] 37 (0, 0)) := by rw [hW1]; exact heap_below (heap_alloc1 _ _ _) ((Below.refl _ _).alloc (Nat.le_refl _) _)
  have x1 : W1.heap[w.heap.size + 1]? = some (.cells #[.int .i64 kd, .int .i64 bank, .slice D m d, .int .i64 x, .int .i64 y] 53 (0, 0)) := by rw [hW1]; exact heap_below (heap_alloc2 _ _ _) ((Below.refl _ _).alloc (Nat.le_refl _) _)
  have x2 : W1.heap[w.heap.size + 2]? = some (.cells #[.int .i64 0, .slice none 0 0, .slice none 0 0, .slice none 0 0, .int .i64 0, .int .i64 0, .bool false] 37 (0, 0)) := by
    have := heap_alloc_new ((w.alloc (.cells #[.int .i64 z, .slice A n0 a, .slice B n1 b, .slice C n2 c, .int .i64 cn, .int .i64 wt, .bool dn] 37)).alloc (.cells #[.int .i64 kd, .int .i64 bank, .slice D m d, .int .i64 x, .int .i64 y] 53)) (.cells #[.int .i64 0, .slice none 0 0, .slice none 0 0, .slice none 0 0, .int .i64 0, .int .i64 0, .bool false] 37)
    rw [hW1]; simpa using this
  have m0 : W1.cell? ⟨w.heap.size, 0, none⟩ = some (.int .i64 z) := box_cell x0 0 _ rfl
  have m1 : W1.cell? ⟨w.heap.size, 1, none⟩ = some (.slice A n0 a) := box_cell x0 1 _ rfl
  have m2 : W1.cell? ⟨w.heap.size, 2, none⟩ = some (.slice B n1 b) := box_cell x0 2 _ rfl
  have m3 : W1.cell? ⟨w.heap.size, 3, none⟩ = some (.slice C n2 c) := box_cell x0 3 _ rfl
  have m4 : W1.cell? ⟨w.heap.size, 4, none⟩ = some (.int .i64 cn) := box_cell x0 4 _ rfl
  have m5 : W1.cell? ⟨w.heap.size, 5, none⟩ = some (.int .i64 wt) := box_cell x0 5 _ rfl
  have m6 : W1.cell? ⟨w.heap.size, 6, none⟩ = some (.bool dn) := box_cell x0 6 _ rfl
  have e0 : W1.cell? ⟨w.heap.size + 1, 0, none⟩ = some (.int .i64 kd) := box_cell x1 0 _ rfl
  have e1 : W1.cell? ⟨w.heap.size + 1, 1, none⟩ = some (.int .i64 bank) := box_cell x1 1 _ rfl
  have e2 : W1.cell? ⟨w.heap.size + 1, 2, none⟩ = some (.slice D m d) := box_cell x1 2 _ rfl
  have e3 : W1.cell? ⟨w.heap.size + 1, 3, none⟩ = some (.int .i64 x) := box_cell x1 3 _ rfl
  have e4 : W1.cell? ⟨w.heap.size + 1, 4, none⟩ = some (.int .i64 y) := box_cell x1 4 _ rfl
  have H1 := Lib.hid (And.intro hb1 (And.intro hs1 (And.intro x0 (And.intro x1 (And.intro x2 (And.intro (hf.below hb1) (hr'.below hb1)))))))
  have HE := Lib.hid (And.intro hz (And.intro hn0 (And.intro hn1 (And.intro hn2 (And.intro hcn (And.intro hwt hdn))))))
  have H0 := Lib.hid (And.intro hG (And.intro hb (And.intro hk (And.intro hDG hU))))
  clear hf hr hr' hG hb hDG hU hb1 hs1 x0 x1 x2 hz hn0 hn1 hn2 hcn hwt hdn hk
  go_enter Try.func43, Try.ntmps43
  go_wp2
  refine bodyPost_ret (results_c2 (P := Try.prog) rfl _ _ _ _ _ _ _ (by rfl) (heap_alloc3 _ _ _ _) Try.underlying37 rfl (by kernel_rfl)) rfl ?_
  have hbb : Below w.heap.size w (((w.alloc (.cells #[.int .i64 z, .slice A n0 a, .slice B n1 b, .slice C n2 c, .int .i64 cn, .int .i64 wt, .bool dn] 37)).alloc (.cells #[.int .i64 kd, .int .i64 bank, .slice D m d, .int .i64 x, .int .i64 y] 53)).alloc (.cells #[.int .i64 z, .slice A n0 a, .slice B n1 b, .slice C n2 c, .int .i64 cn, .int .i64 wt, .bool dn] 37)) := (below2 _ _ _).alloc (by simp; omega) _
  refine ⟨_, rfl, G, HFR.out.1.below hbb, (HFR.out.2.below hbb : RFl _ _ s (Us ++ G)), Keep.of_below hbb G, fun x hx => .inl hx⟩
set_option maxRecDepth 100000 in
set_option maxHeartbeats 3200000 in
theorem both4 (w : World) {p : Nat} {G : List Nat} {s : FSt} {v : List Value} {Us : List Nat} (hf : Fl w p G s) (hr : RFl w v s (Us ++ G)) (hU : ∀ x ∈ Us, x < w.heap.size) (hk : FOk s) (bank x y : Int) (l : List UInt8) {D : Option Addr} {m d : Nat} (hb : Sl w 1 D m d (l.map by8)) (hm : m ≤ 2097152) (hDG : Ap G D m) :
    Calls Try.prog 43 #[.pointer (some ⟨p, 0, none⟩), .agg v.toArray, .agg #[.int .i64 4, .int .i64 bank, .slice D m d, .int .i64 x, .int .i64 y]] w fun e w' => ∃ v', e = .returned (.tuple #[.agg v'.toArray, .bool true]) ∧ BothS w w' p Us G v' (s) := by
  have hG := hf.lts
  have hmd := hb.le; have hmd2 := hb.max
  have hr' := hr.grow (Ys := (w.heap.size + 2) :: (Us ++ G)) (fun y hy => by rcases List.mem_cons.1 hy with h | h; exact .inr (by omega); exact .inl h)
  obtain ⟨A, B, C, a, b, c, rfl, _⟩ := hr.out
  rw [refV_eq]
  have hDoc := fun w1 Xs (h1 : RFl w1 (refV s A B C a b c) s Xs) => ref_Room w1 h1 hk bank
  rw [refV_eq] at hDoc
  have hProg := fun w1 (h1 : Fl w1 p G s) => flash_RoomT w1 h1 hk bank
  obtain ⟨rm, hrm⟩ : ∃ q, q = (if refusedF s bank = 0 then s.size - (bankF s bank.toNat).length else 0) := ⟨_, rfl⟩
  obtain ⟨r, hre⟩ : ∃ q, q = refusedF s bank := ⟨_, rfl⟩
  rw [← hrm, ← hre] at hDoc hProg
  have HProg := Lib.hid hProg
  have k0 : ((r : Int) == (r : Int)) = true := by simp
  have k1 : ((rm : Int) == (rm : Int)) = true := by simp
  clear hre hrm hProg
  obtain ⟨z, hz⟩ : ∃ z, z = s.size := ⟨_, rfl⟩
  obtain ⟨n0, hn0⟩ : ∃ z, z = s.b0.length := ⟨_, rfl⟩
  obtain ⟨n1, hn1⟩ : ∃ z, z = s.b1.length := ⟨_, rfl⟩
  obtain ⟨n2, hn2⟩ : ∃ z, z = s.armed.length := ⟨_, rfl⟩
  obtain ⟨cn, hcn⟩ : ∃ z, z = s.count := ⟨_, rfl⟩
  obtain ⟨wt, hwt⟩ : ∃ z, z = s.writes := ⟨_, rfl⟩
  obtain ⟨dn, hdn⟩ : ∃ z, z = s.down := ⟨_, rfl⟩
  rw [← hz, ← hn0, ← hn1, ← hn2, ← hcn, ← hwt, ← hdn] at hDoc
  have HDoc := Lib.hid hDoc
  clear hDoc
  rw [← hz, ← hn0, ← hn1, ← hn2, ← hcn, ← hwt, ← hdn]
  obtain ⟨W1, hW1⟩ : ∃ W1, W1 = ((w.alloc (.cells #[.int .i64 z, .slice A n0 a, .slice B n1 b, .slice C n2 c, .int .i64 cn, .int .i64 wt, .bool dn] 37)).alloc (.cells #[.int .i64 4, .int .i64 bank, .slice D m d, .int .i64 x, .int .i64 y] 53)).alloc (.cells #[.int .i64 0, .slice none 0 0, .slice none 0 0, .slice none 0 0, .int .i64 0, .int .i64 0, .bool false] 37) := ⟨_, rfl⟩
  have hb1 : Below w.heap.size w W1 := by rw [hW1]; exact (below2 _ _ _).alloc (by simp; omega) _
  have hs1 : w.heap.size + 2 < W1.heap.size := by rw [hW1]; simp
  have x0 : W1.heap[w.heap.size]? = some (.cells #[.int .i64 z, .slice A n0 a, .slice B n1 b, .slice C n2 c, .int .i64 cn, .int .i64 wt, .bool dn] 37 (0, 0)) := by rw [hW1]; exact heap_below (heap_alloc1 _ _ _) ((Below.refl _ _).alloc (Nat.le_refl _) _)
  have x1 : W1.heap[w.heap.size + 1]? = some (.cells #[.int .i64 4, .int .i64 bank, .slice D m d, .int .i64 x, .int .i64 y] 53 (0, 0)) := by rw [hW1]; exact heap_below (heap_alloc2 _ _ _) ((Below.refl _ _).alloc (Nat.le_refl _) _)
  have x2 : W1.heap[w.heap.size + 2]? = some (.cells #[.int .i64 0, .slice none 0 0, .slice none 0 0, .slice none 0 0, .int .i64 0, .int .i64 0, .bool false] 37 (0, 0)) := by
    have := heap_alloc_new ((w.alloc (.cells #[.int .i64 z, .slice A n0 a, .slice B n1 b, .slice C n2 c, .int .i64 cn, .int .i64 wt, .bool dn] 37)).alloc (.cells #[.int .i64 4, .int .i64 bank, .slice D m d, .int .i64 x, .int .i64 y] 53)) (.cells #[.int .i64 0, .slice none 0 0, .slice none 0 0, .slice none 0 0, .int .i64 0, .int .i64 0, .bool false] 37)
    rw [hW1]; simpa using this
  have m0 : W1.cell? ⟨w.heap.size, 0, none⟩ = some (.int .i64 z) := box_cell x0 0 _ rfl
  have m1 : W1.cell? ⟨w.heap.size, 1, none⟩ = some (.slice A n0 a) := box_cell x0 1 _ rfl
  have m2 : W1.cell? ⟨w.heap.size, 2, none⟩ = some (.slice B n1 b) := box_cell x0 2 _ rfl
  have m3 : W1.cell? ⟨w.heap.size, 3, none⟩ = some (.slice C n2 c) := box_cell x0 3 _ rfl
  have m4 : W1.cell? ⟨w.heap.size, 4, none⟩ = some (.int .i64 cn) := box_cell x0 4 _ rfl
  have m5 : W1.cell? ⟨w.heap.size, 5, none⟩ = some (.int .i64 wt) := box_cell x0 5 _ rfl
  have m6 : W1.cell? ⟨w.heap.size, 6, none⟩ = some (.bool dn) := box_cell x0 6 _ rfl
  have e0 : W1.cell? ⟨w.heap.size + 1, 0, none⟩ = some (.int .i64 4) := box_cell x1 0 _ rfl
  have e1 : W1.cell? ⟨w.heap.size + 1, 1, none⟩ = some (.int .i64 bank) := box_cell x1 1 _ rfl
  have e2 : W1.cell? ⟨w.heap.size + 1, 2, none⟩ = some (.slice D m d) := box_cell x1 2 _ rfl
  have e3 : W1.cell? ⟨w.heap.size + 1, 3, none⟩ = some (.int .i64 x) := box_cell x1 3 _ rfl
  have e4 : W1.cell? ⟨w.heap.size + 1, 4, none⟩ = some (.int .i64 y) := box_cell x1 4 _ rfl
  have H1 := Lib.hid (And.intro hb1 (And.intro hs1 (And.intro x0 (And.intro x1 (And.intro x2 (And.intro (hf.below hb1) (hr'.below hb1)))))))
  have HE := Lib.hid (And.intro hz (And.intro hn0 (And.intro hn1 (And.intro hn2 (And.intro hcn (And.intro hwt hdn))))))
  have H0 := Lib.hid (And.intro hG (And.intro hb (And.intro hk (And.intro hDG hU))))
  clear hf hr hr' hG hb hDG hU hb1 hs1 x0 x1 x2 hz hn0 hn1 hn2 hcn hwt hdn hk
  go_enter Try.func43, Try.ntmps43
  go_wp2_with fail
  rw [← hW1]
  clear hW1
  refine (HProg.out _ H1.out.2.2.2.2.2.1).mono ?_
  rintro e w2 ⟨rfl, hst⟩
  obtain ⟨G2, f2, k2, hG2⟩ := hst.out
  have hn0G : w.heap.size ∉ G := fun hx => by have := H0.out.1 _ hx; omega
  have hn1G : w.heap.size + 1 ∉ G := fun hx => by have := H0.out.1 _ hx; omega
  have hn2G : w.heap.size + 2 ∉ G := fun hx => by have := H0.out.1 _ hx; omega
  have y0 := k2.heap H1.out.2.2.1 hn0G
  have y1 := k2.heap H1.out.2.2.2.1 hn1G
  have y2 : w2.heap[w.heap.size + 1 + 1]? = _ := k2.heap H1.out.2.2.2.2.1 hn2G
  have r2 : RFl w2 (refV s A B C a b c) s ((w.heap.size + 2) :: (Us ++ G2)) := H1.out.2.2.2.2.2.2.step (k2.mono (by intro q hq; simp [hq])) (fun q hq => by rcases List.mem_cons.1 hq with h | h; exact .inl (by simp [h]); rcases List.mem_append.1 h with h | h; exact .inl (by simp [h]); rcases hG2 q h with h | h; exact .inl (by simp [h]); exact .inr h)
  have HY0 := Lib.hid y0
  have L2 := Lib.hid (And.intro f2 (And.intro k2 (And.intro hG2 (And.intro y2 r2))))
  have hlts2 : ∀ q ∈ ((w.heap.size + 2) :: (Us ++ G2)), q < w2.heap.size := fun q hq => by
    have h3 := H1.out.1.size; have h4 := k2.size; have h5 := H1.out.2.1
    rcases List.mem_cons.1 hq with h | h
    · omega
    · rcases List.mem_append.1 h with h | h
      · have := H0.out.2.2.2.2 q h; omega
      · exact f2.lts q h
  have HLT := Lib.hid hlts2
  clear m0 m1 m2 m3 m4 m5 m6 e0 e1 e2 e3 e4
  have m0 : w2.cell? ⟨w.heap.size, 0, none⟩ = some (.int .i64 z) := box_cell y0 0 _ rfl
  have m1 : w2.cell? ⟨w.heap.size, 1, none⟩ = some (.slice A n0 a) := box_cell y0 1 _ rfl
  have m2 : w2.cell? ⟨w.heap.size, 2, none⟩ = some (.slice B n1 b) := box_cell y0 2 _ rfl
  have m3 : w2.cell? ⟨w.heap.size, 3, none⟩ = some (.slice C n2 c) := box_cell y0 3 _ rfl
  have m4 : w2.cell? ⟨w.heap.size, 4, none⟩ = some (.int .i64 cn) := box_cell y0 4 _ rfl
  have m5 : w2.cell? ⟨w.heap.size, 5, none⟩ = some (.int .i64 wt) := box_cell y0 5 _ rfl
  have m6 : w2.cell? ⟨w.heap.size, 6, none⟩ = some (.bool dn) := box_cell y0 6 _ rfl
  have e0 : w2.cell? ⟨w.heap.size + 1, 0, none⟩ = some (.int .i64 4) := box_cell y1 0 _ rfl
  have e1 : w2.cell? ⟨w.heap.size + 1, 1, none⟩ = some (.int .i64 bank) := box_cell y1 1 _ rfl
  have e2 : w2.cell? ⟨w.heap.size + 1, 2, none⟩ = some (.slice D m d) := box_cell y1 2 _ rfl
  have e3 : w2.cell? ⟨w.heap.size + 1, 3, none⟩ = some (.int .i64 x) := box_cell y1 3 _ rfl
  have e4 : w2.cell? ⟨w.heap.size + 1, 4, none⟩ = some (.int .i64 y) := box_cell y1 4 _ rfl
  clear hst f2 k2 hG2 y0 y1 y2 r2 hlts2 hn0G hn1G hn2G
  go_wp2_with (first | (at_builtin; refine Stopped.out ?_) | (at_make; refine Stopped.out ?_))
  refine (HDoc.out _ _ L2.out.2.2.2.2).mono ?_
  rintro e w3 ⟨rfl, hb3⟩
  have y2 : w3.heap[w.heap.size + 1 + 1]? = _ := heap_below L2.out.2.2.2.1 hb3
  have y0 := heap_below HY0.out hb3
  have L3 := Lib.hid (And.intro (L2.out.2.2.2.2.below hb3) hb3)
  clear hb3 m0 m1 m2 m3 m4 m5 m6 e0 e1 e2 e3 e4
  have m0 : w3.cell? ⟨w.heap.size, 0, none⟩ = some (.int .i64 z) := box_cell y0 0 _ rfl
  have m1 : w3.cell? ⟨w.heap.size, 1, none⟩ = some (.slice A n0 a) := box_cell y0 1 _ rfl
  have m2 : w3.cell? ⟨w.heap.size, 2, none⟩ = some (.slice B n1 b) := box_cell y0 2 _ rfl
  have m3 : w3.cell? ⟨w.heap.size, 3, none⟩ = some (.slice C n2 c) := box_cell y0 3 _ rfl
  have m4 : w3.cell? ⟨w.heap.size, 4, none⟩ = some (.int .i64 cn) := box_cell y0 4 _ rfl
  have m5 : w3.cell? ⟨w.heap.size, 5, none⟩ = some (.int .i64 wt) := box_cell y0 5 _ rfl
  have m6 : w3.cell? ⟨w.heap.size, 6, none⟩ = some (.bool dn) := box_cell y0 6 _ rfl
  have r0 : w3.cell? ⟨w.heap.size + 1 + 1, 0, none⟩ = some (.int .i64 0) := box_cell y2 0 _ rfl
  have r1 : w3.cell? ⟨w.heap.size + 1 + 1, 1, none⟩ = some (.slice none 0 0) := box_cell y2 1 _ rfl
  have r2 : w3.cell? ⟨w.heap.size + 1 + 1, 2, none⟩ = some (.slice none 0 0) := box_cell y2 2 _ rfl
  have r3 : w3.cell? ⟨w.heap.size + 1 + 1, 3, none⟩ = some (.slice none 0 0) := box_cell y2 3 _ rfl
  have r4 : w3.cell? ⟨w.heap.size + 1 + 1, 4, none⟩ = some (.int .i64 0) := box_cell y2 4 _ rfl
  have r5 : w3.cell? ⟨w.heap.size + 1 + 1, 5, none⟩ = some (.int .i64 0) := box_cell y2 5 _ rfl
  have r6 : w3.cell? ⟨w.heap.size + 1 + 1, 6, none⟩ = some (.bool false) := box_cell y2 6 _ rfl
  have g0 := box_free y2 0
  have g1 := box_free y2 1
  have g2 := box_free y2 2
  have g3 := box_free y2 3
  have g4 := box_free y2 4
  have g5 := box_free y2 5
  have g6 := box_free y2 6
  have HY := Lib.hid y2
  clear y2 y0
  go_wp2
  have s7 := set7 (.int .i64 z) (.slice A n0 a) (.slice B n1 b) (.slice C n2 c) (.int .i64 cn) (.int .i64 wt) (.bool dn) HY.out
  refine bodyPost_ret (results_c2 (P := Try.prog) rfl _ _ _ _ _ _ _ (by rfl) s7.1 Try.underlying37 rfl (by kernel_rfl)) rfl ?_
  exact ⟨_, rfl, BothS.mk' H1.out.1 L2.out.2.1 L2.out.2.2.1 L3.out.2 L2.out.1 (show RFl _ [.int .i64 z, .slice A n0 a, .slice B n1 b, .slice C n2 c, .int .i64 cn, .int .i64 wt, .bool dn] s _ from by obtain ⟨e0, e1, e2, e3, e4, e5, e6⟩ := HE.out; have := L3.out.1; rw [e0, e1, e2, e3, e4, e5, e6] at *; exact this) s7.2 ⟨by omega, H1.out.2.1⟩ H0.out.1⟩
theorem BothS.mk2 {w w1 w2 w3 w4 : World} {p : Nat} {M Us G G2 : List Nat} {v' : List Value} {s' : FSt} (hb1 : Below w.heap.size w w1) (k2 : Keep G w1 w2) (hG2 : ∀ x ∈ G2, x ∈ G ∨ w1.heap.size ≤ x) (hb3 : Below w2.heap.size w2 w3) (f2 : Fl w2 p G2 s') (r3 : RFl w3 v' s' (M ++ (Us ++ G2))) (k4 : Keep M w3 w4) (hM : ∀ x ∈ M, w.heap.size ≤ x ∧ x ∉ G2) : BothS w w4 p Us G v' s' := by
  refine ⟨G2, (f2.below hb3).keep k4 (fun x hx hy => (hM x hy).2 hx), (r3.keep (k4.mono (by intro x hx; simp [hx]))).less (by intro y hy; simp at hy; rcases hy with h | h <;> simp [h]), ?_, fun x hx => ?_⟩
  · exact (((Keep.of_below hb1 G).trans k2).trans (Keep.of_below hb3 G)).trans' k4 (fun x hx => .inr (hM x hx).1)
  · rcases hG2 x hx with h | h
    · exact .inl h
    · exact .inr (Nat.le_trans hb1.size h)
theorem roomL12_take (l : List UInt8) (n : Nat) (h : l.length = n) : (roomL12 l).take n = l := by rw [roomL12, ← h, List.take_left]
set_option maxRecDepth 100000 in
set_option maxHeartbeats 3200000 in
theorem both1 (w : World) {p : Nat} {G : List Nat} {s : FSt} {v : List Value} {Us : List Nat} (hf : Fl w p G s) (hr : RFl w v s (Us ++ G)) (hU : ∀ x ∈ Us, x < w.heap.size) (hk : FOk s) (bank x y : Int) (l : List UInt8) {D : Option Addr} {m d : Nat} (hb : Sl w 1 D m d (l.map by8)) (hm : m ≤ 2097152) (hDG : Ap G D m) :
    Calls Try.prog 43 #[.pointer (some ⟨p, 0, none⟩), .agg v.toArray, .agg #[.int .i64 1, .int .i64 bank, .slice D m d, .int .i64 x, .int .i64 y]] w fun e w' => ∃ v', e = .returned (.tuple #[.agg v'.toArray, .bool true]) ∧ BothS w w' p Us G v' ((appF s bank l).1) := by
  have hG := hf.lts
  have hmd := hb.le; have hmd2 := hb.max
  have hr' := hr.grow (Ys := (w.heap.size + 2) :: (Us ++ G)) (fun y hy => by rcases List.mem_cons.1 hy with h | h; exact .inr (by omega); exact .inl h)
  obtain ⟨A, B, C, a, b, c, rfl, _⟩ := hr.out
  rw [refV_eq]
  have hDoc := fun w1 Xs (h1 : RFl w1 (refV s A B C a b c) s Xs) (h2 : ∀ x ∈ Xs, x < w1.heap.size) (h3 : Sl w1 1 D m d (l.map by8)) => ref_Append w1 h1 hk bank h3 (by omega) h2
  rw [refV_eq] at hDoc
  have hProg := fun w1 A2 c2 (h1 : Fl w1 p G s) (h3 : Sl w1 1 A2 m c2 (l.map by8)) (h4 : ∀ ad, A2 = some ad → 0 < m → ad.block ∉ G) => flash_Append w1 h1 hk bank h3 h4 (by omega)
  obtain ⟨s2, hs2⟩ : ∃ s2, s2 = (appF s bank l).1 := ⟨_, rfl⟩
  obtain ⟨r, hre⟩ : ∃ r, r = (appF s bank l).2 := ⟨_, rfl⟩
  rw [← hs2, ← hre] at hDoc hProg
  rw [← hs2]
  have HProg := Lib.hid hProg
  have k0 : ((r : Int) == (r : Int)) = true := by simp
  have hll : l.length = m := by simpa using hb.len
  have HLL := Lib.hid hll
  clear hs2 hre hProg hll
  have HFR : Hid (Fl w p G s ∧ RFl w [.int .i64 s.size, .slice A s.b0.length a, .slice B s.b1.length b, .slice C s.armed.length c, .int .i64 s.count, .int .i64 s.writes, .bool s.down] s (Us ++ G)) := Lib.hid ⟨hf, hr⟩
  obtain ⟨z, hz⟩ : ∃ z, z = s.size := ⟨_, rfl⟩
  obtain ⟨n0, hn0⟩ : ∃ z, z = s.b0.length := ⟨_, rfl⟩
  obtain ⟨n1, hn1⟩ : ∃ z, z = s.b1.length := ⟨_, rfl⟩
  obtain ⟨n2, hn2⟩ : ∃ z, z = s.armed.length := ⟨_, rfl⟩
  obtain ⟨cn, hcn⟩ : ∃ z, z = s.count := ⟨_, rfl⟩
  obtain ⟨wt, hwt⟩ : ∃ z, z = s.writes := ⟨_, rfl⟩
  obtain ⟨dn, hdn⟩ : ∃ z, z = s.down := ⟨_, rfl⟩
  rw [← hz, ← hn0, ← hn1, ← hn2, ← hcn, ← hwt, ← hdn] at hDoc
  have HDoc := Lib.hid hDoc
  clear hDoc
  rw [← hz, ← hn0, ← hn1, ← hn2, ← hcn, ← hwt, ← hdn] at HFR
  rw [← hz, ← hn0, ← hn1, ← hn2, ← hcn, ← hwt, ← hdn]
  obtain ⟨W1, hW1⟩ : ∃ W1, W1 = ((w.alloc (.cells #[.int .i64 z, .slice A n0 a, .slice B n1 b, .slice C n2 c, .int .i64 cn, .int .i64 wt, .bool dn] 37)).alloc (.cells #[.int .i64 1, .int .i64 bank, .slice D m d, .int .i64 x, .int .i64 y] 53)).alloc (.cells #[.int .i64 0, .slice none 0 0, .slice none 0 0, .slice none 0 0, .int .i64 0, .int .i64 0, .bool false] 37) := ⟨_, rfl⟩
  have hb1 : Below w.heap.size w W1 := by rw [hW1]; exact (below2 _ _ _).alloc (by simp; omega) _
  have hs1 : w.heap.size + 2 < W1.heap.size := by rw [hW1]; simp
  have x0 : W1.heap[w.heap.size]? = some (.cells #[.int .i64 z, .slice A n0 a, .slice B n1 b, .slice C n2 c, .int .i64 cn, .int .i64 wt, .bool dn] 37 (0, 0)) := by rw [hW1]; exact heap_below (heap_alloc1 _ _ _) ((Below.refl _ _).alloc (Nat.le_refl _) _)
  have x1 : W1.heap[w.heap.size + 1]? = some (.cells #[.int .i64 1, .int .i64 bank, .slice D m d, .int .i64 x, .int .i64 y] 53 (0, 0)) := by rw [hW1]; exact heap_below (heap_alloc2 _ _ _) ((Below.refl _ _).alloc (Nat.le_refl _) _)
  have x2 : W1.heap[w.heap.size + 2]? = some (.cells #[.int .i64 0, .slice none 0 0, .slice none 0 0, .slice none 0 0, .int .i64 0, .int .i64 0, .bool false] 37 (0, 0)) := by
    have := heap_alloc_new ((w.alloc (.cells #[.int .i64 z, .slice A n0 a, .slice B n1 b, .slice C n2 c, .int .i64 cn, .int .i64 wt, .bool dn] 37)).alloc (.cells #[.int .i64 1, .int .i64 bank, .slice D m d, .int .i64 x, .int .i64 y] 53)) (.cells #[.int .i64 0, .slice none 0 0, .slice none 0 0, .slice none 0 0, .int .i64 0, .int .i64 0, .bool false] 37)
    rw [hW1]; simpa using this
  have m0 : W1.cell? ⟨w.heap.size, 0, none⟩ = some (.int .i64 z) := box_cell x0 0 _ rfl
  have m1 : W1.cell? ⟨w.heap.size, 1, none⟩ = some (.slice A n0 a) := box_cell x0 1 _ rfl
  have m2 : W1.cell? ⟨w.heap.size, 2, none⟩ = some (.slice B n1 b) := box_cell x0 2 _ rfl
  have m3 : W1.cell? ⟨w.heap.size, 3, none⟩ = some (.slice C n2 c) := box_cell x0 3 _ rfl
  have m4 : W1.cell? ⟨w.heap.size, 4, none⟩ = some (.int .i64 cn) := box_cell x0 4 _ rfl
  have m5 : W1.cell? ⟨w.heap.size, 5, none⟩ = some (.int .i64 wt) := box_cell x0 5 _ rfl
  have m6 : W1.cell? ⟨w.heap.size, 6, none⟩ = some (.bool dn) := box_cell x0 6 _ rfl
  have e0 : W1.cell? ⟨w.heap.size + 1, 0, none⟩ = some (.int .i64 1) := box_cell x1 0 _ rfl
  have e1 : W1.cell? ⟨w.heap.size + 1, 1, none⟩ = some (.int .i64 bank) := box_cell x1 1 _ rfl
  have e2 : W1.cell? ⟨w.heap.size + 1, 2, none⟩ = some (.slice D m d) := box_cell x1 2 _ rfl
  have e3 : W1.cell? ⟨w.heap.size + 1, 3, none⟩ = some (.int .i64 x) := box_cell x1 3 _ rfl
  have e4 : W1.cell? ⟨w.heap.size + 1, 4, none⟩ = some (.int .i64 y) := box_cell x1 4 _ rfl
  have H1 := Lib.hid (And.intro hb1 (And.intro hs1 (And.intro x0 (And.intro x1 (And.intro x2 (And.intro (hf.below hb1) (hr'.below hb1)))))))
  have HE := Lib.hid (And.intro hz (And.intro hn0 (And.intro hn1 (And.intro hn2 (And.intro hcn (And.intro hwt hdn))))))
  have H0 := Lib.hid (And.intro hG (And.intro hb (And.intro hk (And.intro hDG hU))))
  clear hf hr hr' hG hb hDG hU hb1 hs1 x0 x1 x2 hz hn0 hn1 hn2 hcn hwt hdn hk
  go_enter Try.func43, Try.ntmps43
  go_wp2_with fail
  rw [← hW1]
  clear hW1
  refine (roomy12 W1 (H0.out.2.1.below H1.out.1) (by omega)).mono ?_
  rintro e wr ⟨vr, rfl, orr, hbr⟩
  obtain ⟨gr, cr, rfl, hgr, hgr2, hcr⟩ := own_form orr (by omega)
  have y0 := heap_below H1.out.2.2.1 hbr
  have y1 := heap_below H1.out.2.2.2.1 hbr
  have y2 : wr.heap[w.heap.size + 1 + 1]? = _ := heap_below H1.out.2.2.2.2.1 hbr
  have hslr : Sl wr 1 (some ⟨gr, 0, none⟩) m cr (l.map by8) := by
    have := (own_sl' orr).2.1.preB (m := m) (by omega)
    rwa [roomL12_take l m HLL.out] at this
  have hcrm := (own_sl' orr).2.1.max
  have hgrG : gr ∉ G := fun hx => by have := H0.out.1 _ hx; have := H1.out.2.1; omega
  have hbwr := bthen H1.out.1 hbr
  have hRr : RFl wr [.int .i64 z, .slice A n0 a, .slice B n1 b, .slice C n2 c, .int .i64 cn, .int .i64 wt, .bool dn] s ([w.heap.size + 1 + 1, gr] ++ (Us ++ G)) := (HFR.out.2.grow (Ys := [w.heap.size + 1 + 1, gr] ++ (Us ++ G)) (fun q hq => by
    have h21 := H1.out.2.1
    have h22 := H1.out.1.size
    simp at hq
    rcases hq with rfl | rfl | hq | hq
    · exact .inr (by omega)
    · exact .inr (by omega)
    · exact .inl (by simp [hq])
    · exact .inl (by simp [hq]))).below hbwr
  have LR := Lib.hid (And.intro (H1.out.2.2.2.2.2.1.below hbr) (And.intro hslr (And.intro orr (And.intro hbwr (And.intro y0 (And.intro y1 (And.intro y2 (And.intro hRr (And.intro hgrG (And.intro hgr (And.intro hgr2 hbr.size)))))))))))
  clear m0 m1 m2 m3 m4 m5 m6 e0 e1 e2 e3 e4 orr hslr hbwr hRr hbr y0 y2 hgrG hgr hgr2
  have e0 : wr.cell? ⟨w.heap.size + 1, 0, none⟩ = some (.int .i64 1) := box_cell y1 0 _ rfl
  have e1 : wr.cell? ⟨w.heap.size + 1, 1, none⟩ = some (.int .i64 bank) := box_cell y1 1 _ rfl
  have e2 : wr.cell? ⟨w.heap.size + 1, 2, none⟩ = some (.slice D m d) := box_cell y1 2 _ rfl
  have e3 : wr.cell? ⟨w.heap.size + 1, 3, none⟩ = some (.int .i64 x) := box_cell y1 3 _ rfl
  have e4 : wr.cell? ⟨w.heap.size + 1, 4, none⟩ = some (.int .i64 y) := box_cell y1 4 _ rfl
  have iq1 : (m : Int) ≤ (cr : Int) := by omega
  clear y1
  go_wp2_with fail
  go_region_held3 (fun w' => w'.cell? ⟨w.heap.size + 1, 0, none⟩ = some (.int .i64 1) ∧ w'.cell? ⟨w.heap.size + 1, 1, none⟩ = some (.int .i64 bank) ∧ w'.cell? ⟨w.heap.size + 1, 2, none⟩ = some (.slice D m d) ∧ w'.cell? ⟨w.heap.size + 1, 3, none⟩ = some (.int .i64 x) ∧ w'.cell? ⟨w.heap.size + 1, 4, none⟩ = some (.int .i64 y))
    (first | exact z5 | exact ⟨e0, e1, e2, e3, e4⟩ | go_keep)
    (first
      | (go_at_call 23; refine (HProg.out _ _ _ (LR.out.1.below ((Below.refl _ _).drew)) (LR.out.2.1.below ((Below.refl _ _).drew)) (fun ad e _ => by obtain rfl := Option.some.inj e; exact LR.out.2.2.2.2.2.2.2.2.1)).mono ?_; rintro e w2 ⟨rfl, hst⟩; have z5 : w2.cell? ⟨w.heap.size + 1, 0, none⟩ = some (.int .i64 1) ∧ w2.cell? ⟨w.heap.size + 1, 1, none⟩ = some (.int .i64 bank) ∧ w2.cell? ⟨w.heap.size + 1, 2, none⟩ = some (.slice D m d) ∧ w2.cell? ⟨w.heap.size + 1, 3, none⟩ = some (.int .i64 x) ∧ w2.cell? ⟨w.heap.size + 1, 4, none⟩ = some (.int .i64 y) := (let ⟨_, _, k2, _⟩ := hst.out; let y := k2.heap (w := wr.drew) LR.out.2.2.2.2.2.1 (fun hx => by have := H0.out.1 _ hx; omega); ⟨box_cell y 0 _ rfl, box_cell y 1 _ rfl, box_cell y 2 _ rfl, box_cell y 3 _ rfl, box_cell y 4 _ rfl⟩)))
  have hst' : FStep wr w2 p G s2 := (let ⟨G2, f2, k2, hG2⟩ := hst.out; ⟨G2, f2, (Keep.refl G wr).drew.trans k2, hG2⟩)
  obtain ⟨G2, f2, k2, hG2⟩ := hst'.out
  have y0 := k2.heap LR.out.2.2.2.2.1 (fun hx => by have := H0.out.1 _ hx; omega)
  have y1 := k2.heap LR.out.2.2.2.2.2.1 (fun hx => by have := H0.out.1 _ hx; omega)
  have y2 := k2.heap LR.out.2.2.2.2.2.2.1 (fun hx => by have := H0.out.1 _ hx; omega)
  have o2 := k2.own LR.out.2.2.1 (fun j hj hx => by obtain rfl := Option.some.inj hj; exact LR.out.2.2.2.2.2.2.2.2.1 hx)
  have r2 : RFl w2 [.int .i64 z, .slice A n0 a, .slice B n1 b, .slice C n2 c, .int .i64 cn, .int .i64 wt, .bool dn] s ([w.heap.size + 1 + 1, gr] ++ (Us ++ G2)) := LR.out.2.2.2.2.2.2.2.1.step (k2.mono (by intro q hq; simp [hq])) (fun q hq => by
    simp at hq
    rcases hq with rfl | rfl | hq | hq
    · exact .inl (by simp)
    · exact .inl (by simp)
    · exact .inl (by simp [hq])
    · rcases hG2 q hq with h | h
      · exact .inl (by simp [h])
      · exact .inr h)
  have hgrG2 : gr ∉ G2 := fun hx => by rcases hG2 _ hx with h | h; exact LR.out.2.2.2.2.2.2.2.2.1 h; have := LR.out.2.2.2.2.2.2.2.2.2.2.1; omega
  have hb2G2 : w.heap.size + 1 + 1 ∉ G2 := fun hx => by
    rcases hG2 _ hx with h | h
    · have := H0.out.1 _ h; omega
    · have h1 := H1.out.2.1; have h2 := LR.out.2.2.2.2.2.2.2.2.2.2.2; omega
  have hlts2 : ∀ q ∈ ([w.heap.size + 1 + 1, gr] ++ (Us ++ G2)), q < w2.heap.size := fun q hq => by
    have h1 := H1.out.2.1; have h2 := LR.out.2.2.2.2.2.2.2.2.2.2.2; have h3 := k2.size; have h4 := LR.out.2.2.2.2.2.2.2.2.2.2.1
    simp at hq
    rcases hq with rfl | rfl | hq | hq
    · omega
    · omega
    · have h6 := H0.out.2.2.2.2 q hq; have h7 := LR.out.2.2.2.1.size; omega
    · exact f2.lts q hq
  have L2 := Lib.hid (And.intro f2 (And.intro k2 (And.intro hG2 (And.intro y2 (And.intro r2 (And.intro o2 (And.intro hgrG2 (And.intro hb2G2 (And.intro y1 hlts2)))))))))
  clear e0 e1 e2 e3 e4 z5
  have m0 : w2.cell? ⟨w.heap.size, 0, none⟩ = some (.int .i64 z) := box_cell y0 0 _ rfl
  have m1 : w2.cell? ⟨w.heap.size, 1, none⟩ = some (.slice A n0 a) := box_cell y0 1 _ rfl
  have m2 : w2.cell? ⟨w.heap.size, 2, none⟩ = some (.slice B n1 b) := box_cell y0 2 _ rfl
  have m3 : w2.cell? ⟨w.heap.size, 3, none⟩ = some (.slice C n2 c) := box_cell y0 3 _ rfl
  have m4 : w2.cell? ⟨w.heap.size, 4, none⟩ = some (.int .i64 cn) := box_cell y0 4 _ rfl
  have m5 : w2.cell? ⟨w.heap.size, 5, none⟩ = some (.int .i64 wt) := box_cell y0 5 _ rfl
  have m6 : w2.cell? ⟨w.heap.size, 6, none⟩ = some (.bool dn) := box_cell y0 6 _ rfl
  have e0 : w2.cell? ⟨w.heap.size + 1, 0, none⟩ = some (.int .i64 1) := box_cell y1 0 _ rfl
  have e1 : w2.cell? ⟨w.heap.size + 1, 1, none⟩ = some (.int .i64 bank) := box_cell y1 1 _ rfl
  have e2 : w2.cell? ⟨w.heap.size + 1, 2, none⟩ = some (.slice D m d) := box_cell y1 2 _ rfl
  have e3 : w2.cell? ⟨w.heap.size + 1, 3, none⟩ = some (.int .i64 x) := box_cell y1 3 _ rfl
  have e4 : w2.cell? ⟨w.heap.size + 1, 4, none⟩ = some (.int .i64 y) := box_cell y1 4 _ rfl
  clear hst hst' f2 k2 hG2 y0 y1 y2 r2 hlts2 o2 hgrG2 hb2G2
  have hb2s := (Keep.of_below LR.out.2.2.2.1 G).trans L2.out.2.1
  have hslD : Sl w2 1 D m d (l.map by8) := H0.out.2.1.keepAp hb2s H0.out.2.2.2.1
  have HSD := Lib.hid hslD
  clear hb2s hslD
  go_wp2_with (first | (at_builtin; refine Stopped.out ?_) | (at_make; refine Stopped.out ?_))
  have hR2 : RFl w2 (refV s A B C a b c) s ([w.heap.size + 1 + 1, gr] ++ (Us ++ G2)) := by
    obtain ⟨e0, e1, e2, e3, e4, e5, e6⟩ := HE.out
    have := L2.out.2.2.2.2.1
    rw [e0, e1, e2, e3, e4, e5, e6] at this
    exact this
  refine (HDoc.out _ _ hR2 L2.out.2.2.2.2.2.2.2.2.2 HSD.out).mono ?_
  rintro e w3 ⟨v', rfl, r3, hb3⟩
  have y2 : w3.heap[w.heap.size + 1 + 1]? = _ := heap_below L2.out.2.2.2.1 hb3
  have y1 := heap_below L2.out.2.2.2.2.2.2.2.2.1 hb3
  have L3 := Lib.hid (And.intro r3 (And.intro hb3 (own_below L2.out.2.2.2.2.2.1 hb3)))
  have hslD3 := HSD.out.below hb3
  obtain ⟨A', B', C', a', b', c', rfl, _⟩ := r3.out
  rw [refV_eq]
  clear r3 hb3 m0 m1 m2 m3 m4 m5 m6 e0 e1 e2 e3 e4
  obtain ⟨z', hz'⟩ : ∃ z, z = s2.size := ⟨_, rfl⟩
  obtain ⟨n0', hn0'⟩ : ∃ z, z = s2.b0.length := ⟨_, rfl⟩
  obtain ⟨n1', hn1'⟩ : ∃ z, z = s2.b1.length := ⟨_, rfl⟩
  obtain ⟨n2', hn2'⟩ : ∃ z, z = s2.armed.length := ⟨_, rfl⟩
  obtain ⟨cn', hcn'⟩ : ∃ z, z = s2.count := ⟨_, rfl⟩
  obtain ⟨wt', hwt'⟩ : ∃ z, z = s2.writes := ⟨_, rfl⟩
  obtain ⟨dn', hdn'⟩ : ∃ z, z = s2.down := ⟨_, rfl⟩
  have HE2 := Lib.hid (And.intro hz' (And.intro hn0' (And.intro hn1' (And.intro hn2' (And.intro hcn' (And.intro hwt' hdn'))))))
  rw [← hz', ← hn0', ← hn1', ← hn2', ← hcn', ← hwt', ← hdn']
  clear hz' hn0' hn1' hn2' hcn' hwt' hdn'
  obtain ⟨W4, hW4⟩ : ∃ W4, W4 = (w3.alloc (.cells #[.int .i64 z', .slice A' n0' a', .slice B' n1' b', .slice C' n2' c', .int .i64 cn', .int .i64 wt', .bool dn'] 37)) := ⟨_, rfl⟩
  have hb4 : Below w3.heap.size w3 W4 := by rw [hW4]; exact (Below.refl _ _).alloc (Nat.le_refl _) _
  have x9 : W4.heap[w3.heap.size]? = some (.cells #[.int .i64 z', .slice A' n0' a', .slice B' n1' b', .slice C' n2' c', .int .i64 cn', .int .i64 wt', .bool dn'] 37 (0, 0)) := by rw [hW4]; exact heap_alloc_new _ _
  have y4 := heap_below y2 hb4
  have z4 := heap_below y1 hb4
  have hw := wiped12 W4.drew (own_below L3.out.2.2 (bthen hb4 ((Below.refl _ _).drew))) (hslD3.below (bthen hb4 ((Below.refl _ _).drew))) (by omega)
  have hne9 : w3.heap.size ≠ w.heap.size + 1 + 1 ∧ w3.heap.size ≠ gr := ⟨fun e => by have h1 := cell_lt (box_cell y2 0 _ rfl); simp at h1; omega, fun e => by have h1 := (L3.out.2.2.lt gr rfl).2; omega⟩
  have hng : gr ≠ w.heap.size + 1 + 1 ∧ gr ≠ w.heap.size + 1 := ⟨fun e => by have h1 := H1.out.2.1; have h2 := LR.out.2.2.2.2.2.2.2.2.2.1; omega, fun e => by have h1 := H1.out.2.1; have h2 := LR.out.2.2.2.2.2.2.2.2.2.1; omega⟩
  have L4 := Lib.hid (And.intro (L3.out.1.below hb4) (And.intro (bthen L3.out.2.1 hb4) (And.intro hw (And.intro x9 (And.intro y4 z4)))))
  obtain ⟨g9, hg9⟩ : ∃ g, g = w3.heap.size := ⟨_, rfl⟩
  rw [← hg9] at L4 hne9
  have HNE := Lib.hid (And.intro hne9 hng)
  have c8 : W4.cell? ⟨g9, 0, none⟩ = some (.int .i64 z') ∧ W4.cell? ⟨g9, 1, none⟩ = some (.slice A' n0' a') ∧ W4.cell? ⟨g9, 2, none⟩ = some (.slice B' n1' b') ∧ W4.cell? ⟨g9, 3, none⟩ = some (.slice C' n2' c') ∧ W4.cell? ⟨g9, 4, none⟩ = some (.int .i64 cn') ∧ W4.cell? ⟨g9, 5, none⟩ = some (.int .i64 wt') ∧ W4.cell? ⟨g9, 6, none⟩ = some (.bool dn') ∧ W4.cell? ⟨w.heap.size + 1, 2, none⟩ = some (.slice D m d) := (let y := L4.out.2.2.2.1; ⟨box_cell y 0 _ rfl, box_cell y 1 _ rfl, box_cell y 2 _ rfl, box_cell y 3 _ rfl, box_cell y 4 _ rfl, box_cell y 5 _ rfl, box_cell y 6 _ rfl, box_cell L4.out.2.2.2.2.2 2 _ rfl⟩)
  clear hb4 y2 y1 y4 z4 x9 hw hne9 hng hslD3
  go_wp2_with fail
  rw [← hW4, ← hg9]
  clear hW4 hg9
  go_region_held3 (fun w' => w'.cell? ⟨g9, 0, none⟩ = some (.int .i64 z') ∧ w'.cell? ⟨g9, 1, none⟩ = some (.slice A' n0' a') ∧ w'.cell? ⟨g9, 2, none⟩ = some (.slice B' n1' b') ∧ w'.cell? ⟨g9, 3, none⟩ = some (.slice C' n2' c') ∧ w'.cell? ⟨g9, 4, none⟩ = some (.int .i64 cn') ∧ w'.cell? ⟨g9, 5, none⟩ = some (.int .i64 wt') ∧ w'.cell? ⟨g9, 6, none⟩ = some (.bool dn') ∧ w'.cell? ⟨w.heap.size + 1, 2, none⟩ = some (.slice D m d))
    (first | with_reducible exact t8 | with_reducible exact c8 | exact ⟨s7.2.cell t8.1 (by simpa using HNE.out.1.1), s7.2.cell t8.2.1 (by simpa using HNE.out.1.1), s7.2.cell t8.2.2.1 (by simpa using HNE.out.1.1), s7.2.cell t8.2.2.2.1 (by simpa using HNE.out.1.1), s7.2.cell t8.2.2.2.2.1 (by simpa using HNE.out.1.1), s7.2.cell t8.2.2.2.2.2.1 (by simpa using HNE.out.1.1), s7.2.cell t8.2.2.2.2.2.2.1 (by simpa using HNE.out.1.1), s7.2.cell t8.2.2.2.2.2.2.2 (by simp)⟩ | exact c8 | go_keep)
    (first
      | (go_at_call 41; refine L4.out.2.2.1.mono ?_; rintro e w5 ⟨rfl, ⟨xs, hxs, o5⟩, k5⟩; have k5' : Keep [gr] W4 w5 := ((Keep.refl [gr] W4).drew).trans (k5.mono (by intro q hq; have hq' : some gr = some q := (Option.mem_toList.1 hq).symm ▸ rfl; simp; exact (Option.some.inj hq').symm)); have t8 : w5.cell? ⟨g9, 0, none⟩ = some (.int .i64 z') ∧ w5.cell? ⟨g9, 1, none⟩ = some (.slice A' n0' a') ∧ w5.cell? ⟨g9, 2, none⟩ = some (.slice B' n1' b') ∧ w5.cell? ⟨g9, 3, none⟩ = some (.slice C' n2' c') ∧ w5.cell? ⟨g9, 4, none⟩ = some (.int .i64 cn') ∧ w5.cell? ⟨g9, 5, none⟩ = some (.int .i64 wt') ∧ w5.cell? ⟨g9, 6, none⟩ = some (.bool dn') ∧ w5.cell? ⟨w.heap.size + 1, 2, none⟩ = some (.slice D m d) := ⟨k5'.cell c8.1 (by simpa using HNE.out.1.2), k5'.cell c8.2.1 (by simpa using HNE.out.1.2), k5'.cell c8.2.2.1 (by simpa using HNE.out.1.2), k5'.cell c8.2.2.2.1 (by simpa using HNE.out.1.2), k5'.cell c8.2.2.2.2.1 (by simpa using HNE.out.1.2), k5'.cell c8.2.2.2.2.2.1 (by simpa using HNE.out.1.2), k5'.cell c8.2.2.2.2.2.2.1 (by simpa using HNE.out.1.2), k5'.cell c8.2.2.2.2.2.2.2 (by simpa using fun h => HNE.out.2.2 h.symm)⟩; have y5 := k5'.heap L4.out.2.2.2.2.1 (by simpa using fun h => HNE.out.2.1 h.symm); have s7 := set7 (.int .i64 z') (.slice A' n0' a') (.slice B' n1' b') (.slice C' n2' c') (.int .i64 cn') (.int .i64 wt') (.bool dn') y5; have rr : w5.cell? ⟨w.heap.size + 1 + 1, 0, none⟩ = some (.int .i64 0) ∧ w5.cell? ⟨w.heap.size + 1 + 1, 1, none⟩ = some (.slice none 0 0) ∧ w5.cell? ⟨w.heap.size + 1 + 1, 2, none⟩ = some (.slice none 0 0) ∧ w5.cell? ⟨w.heap.size + 1 + 1, 3, none⟩ = some (.slice none 0 0) ∧ w5.cell? ⟨w.heap.size + 1 + 1, 4, none⟩ = some (.int .i64 0) ∧ w5.cell? ⟨w.heap.size + 1 + 1, 5, none⟩ = some (.int .i64 0) ∧ w5.cell? ⟨w.heap.size + 1 + 1, 6, none⟩ = some (.bool false) := ⟨box_cell y5 0 _ rfl, box_cell y5 1 _ rfl, box_cell y5 2 _ rfl, box_cell y5 3 _ rfl, box_cell y5 4 _ rfl, box_cell y5 5 _ rfl, box_cell y5 6 _ rfl⟩; obtain ⟨r0, r1, r2, r3, r4, r5, r6⟩ := rr; have g0 := box_free y5 0; have g1 := box_free y5 1; have g2 := box_free y5 2; have g3 := box_free y5 3; have g4 := box_free y5 4; have g5 := box_free y5 5; have g6 := box_free y5 6))
  have HZ := Lib.hid (And.intro s7 k5')
  clear s7 k5 k5' t8 c8 r0 r1 r2 r3 r4 r5 r6 g0 g1 g2 g3 g4 g5 g6 y5 o5
  go_wp2
  obtain ⟨s7, k5'⟩ := HZ.out
  refine bodyPost_ret (results_c2 (P := Try.prog) rfl _ _ _ _ _ _ _ (by rfl) s7.1 Try.underlying37 rfl (by kernel_rfl)) rfl ?_
  have k6 : Keep [w.heap.size + 1 + 1, gr] W4 _ := (k5'.mono (by intro q hq; simp at hq; simp [hq])).trans (s7.2.mono (by intro q hq; simp at hq; simp [hq]))
  refine ⟨_, rfl, BothS.mk2 LR.out.2.2.2.1 L2.out.2.1 L2.out.2.2.1 L4.out.2.1 L2.out.1 (show RFl W4 [.int .i64 z', .slice A' n0' a', .slice B' n1' b', .slice C' n2' c', .int .i64 cn', .int .i64 wt', .bool dn'] s2 ([w.heap.size + 1 + 1, gr] ++ (Us ++ G2)) from by obtain ⟨e0, e1, e2, e3, e4, e5, e6⟩ := HE2.out; have := L4.out.1; rw [e0, e1, e2, e3, e4, e5, e6] at *; exact this) k6 (fun q hq => ?_)⟩
  simp at hq
  rcases hq with rfl | rfl
  · exact ⟨by omega, L2.out.2.2.2.2.2.2.2.1⟩
  · exact ⟨by have h1 := H1.out.1.size; have h2 := LR.out.2.2.2.2.2.2.2.2.2.1; omega, L2.out.2.2.2.2.2.2.1⟩
set_option maxRecDepth 100000 in
set_option maxHeartbeats 3200000 in
theorem both3 (w : World) {p : Nat} {G : List Nat} {s : FSt} {v : List Value} {Us : List Nat} (hf : Fl w p G s) (hr : RFl w v s (Us ++ G)) (hU : ∀ x ∈ Us, x < w.heap.size) (hk : FOk s) (bank x y : Int) (l : List UInt8) {D : Option Addr} {m d : Nat} (hb : Sl w 1 D m d (l.map by8)) (hm : m ≤ 2097152) (hDG : Ap G D m) :
    Calls Try.prog 43 #[.pointer (some ⟨p, 0, none⟩), .agg v.toArray, .agg #[.int .i64 3, .int .i64 bank, .slice D m d, .int .i64 x, .int .i64 y]] w fun e w' => ∃ v', e = .returned (.tuple #[.agg v'.toArray, .bool true]) ∧ BothS w w' p Us G v' (s) := by
  have hG := hf.lts
  have hmd := hb.le; have hmd2 := hb.max
  have hr' := hr.grow (Ys := (w.heap.size + 2) :: (Us ++ G)) (fun y hy => by rcases List.mem_cons.1 hy with h | h; exact .inr (by omega); exact .inl h)
  obtain ⟨A, B, C, a, b, c, rfl, _⟩ := hr.out
  rw [refV_eq]
  have hDoc := fun w1 Xs (h1 : RFl w1 (refV s A B C a b c) s Xs) => ref_ReadT w1 h1 hk bank
  rw [refV_eq] at hDoc
  have hProg := fun w1 (h1 : Fl w1 p G s) => flash_ReadT w1 h1 hk bank
  obtain ⟨r, hre⟩ : ∃ r, r = refusedF s bank := ⟨_, rfl⟩
  obtain ⟨L, hL⟩ : ∃ L, L = readF s bank := ⟨_, rfl⟩
  have hLm : L.length ≤ 1048576 := by
    rw [hL, readF]
    split
    · have h1 := hk.b0; have h2 := hk.b1; have h3 := hk.size
      unfold bankF; split <;> omega
    · simp
  rw [← hre, ← hL] at hDoc hProg
  obtain ⟨kl, hkl⟩ : ∃ k, k = L.length := ⟨_, rfl⟩
  rw [← hkl] at hDoc hProg hLm
  have HProg := Lib.hid hProg
  have k0 : ((r : Int) == (r : Int)) = true := by simp
  clear hre hL hkl hProg
  have HFR : Hid (Fl w p G s ∧ RFl w [.int .i64 s.size, .slice A s.b0.length a, .slice B s.b1.length b, .slice C s.armed.length c, .int .i64 s.count, .int .i64 s.writes, .bool s.down] s (Us ++ G)) := Lib.hid ⟨hf, hr⟩
  obtain ⟨z, hz⟩ : ∃ z, z = s.size := ⟨_, rfl⟩
  obtain ⟨n0, hn0⟩ : ∃ z, z = s.b0.length := ⟨_, rfl⟩
  obtain ⟨n1, hn1⟩ : ∃ z, z = s.b1.length := ⟨_, rfl⟩
  obtain ⟨n2, hn2⟩ : ∃ z, z = s.armed.length := ⟨_, rfl⟩
  obtain ⟨cn, hcn⟩ : ∃ z, z = s.count := ⟨_, rfl⟩
  obtain ⟨wt, hwt⟩ : ∃ z, z = s.writes := ⟨_, rfl⟩
  obtain ⟨dn, hdn⟩ : ∃ z, z = s.down := ⟨_, rfl⟩
  rw [← hz, ← hn0, ← hn1, ← hn2, ← hcn, ← hwt, ← hdn] at hDoc
  have HDoc := Lib.hid hDoc
  clear hDoc
  rw [← hz, ← hn0, ← hn1, ← hn2, ← hcn, ← hwt, ← hdn] at HFR
  rw [← hz, ← hn0, ← hn1, ← hn2, ← hcn, ← hwt, ← hdn]
  obtain ⟨W1, hW1⟩ : ∃ W1, W1 = ((w.alloc (.cells #[.int .i64 z, .slice A n0 a, .slice B n1 b, .slice C n2 c, .int .i64 cn, .int .i64 wt, .bool dn] 37)).alloc (.cells #[.int .i64 3, .int .i64 bank, .slice D m d, .int .i64 x, .int .i64 y] 53)).alloc (.cells #[.int .i64 0, .slice none 0 0, .slice none 0 0, .slice none 0 0, .int .i64 0, .int .i64 0, .bool false] 37) := ⟨_, rfl⟩
  have hb1 : Below w.heap.size w W1 := by rw [hW1]; exact (below2 _ _ _).alloc (by simp; omega) _
  have hs1 : w.heap.size + 2 < W1.heap.size := by rw [hW1]; simp
  have x0 : W1.heap[w.heap.size]? = some (.cells #[.int .i64 z, .slice A n0 a, .slice B n1 b, .slice C n2 c, .int .i64 cn, .int .i64 wt, .bool dn] 37 (0, 0)) := by rw [hW1]; exact heap_below (heap_alloc1 _ _ _) ((Below.refl _ _).alloc (Nat.le_refl _) _)
  have x1 : W1.heap[w.heap.size + 1]? = some (.cells #[.int .i64 3, .int .i64 bank, .slice D m d, .int .i64 x, .int .i64 y] 53 (0, 0)) := by rw [hW1]; exact heap_below (heap_alloc2 _ _ _) ((Below.refl _ _).alloc (Nat.le_refl _) _)
  have x2 : W1.heap[w.heap.size + 2]? = some (.cells #[.int .i64 0, .slice none 0 0, .slice none 0 0, .slice none 0 0, .int .i64 0, .int .i64 0, .bool false] 37 (0, 0)) := by
    have := heap_alloc_new ((w.alloc (.cells #[.int .i64 z, .slice A n0 a, .slice B n1 b, .slice C n2 c, .int .i64 cn, .int .i64 wt, .bool dn] 37)).alloc (.cells #[.int .i64 3, .int .i64 bank, .slice D m d, .int .i64 x, .int .i64 y] 53)) (.cells #[.int .i64 0, .slice none 0 0, .slice none 0 0, .slice none 0 0, .int .i64 0, .int .i64 0, .bool false] 37)
    rw [hW1]; simpa using this
  have m0 : W1.cell? ⟨w.heap.size, 0, none⟩ = some (.int .i64 z) := box_cell x0 0 _ rfl
  have m1 : W1.cell? ⟨w.heap.size, 1, none⟩ = some (.slice A n0 a) := box_cell x0 1 _ rfl
  have m2 : W1.cell? ⟨w.heap.size, 2, none⟩ = some (.slice B n1 b) := box_cell x0 2 _ rfl
  have m3 : W1.cell? ⟨w.heap.size, 3, none⟩ = some (.slice C n2 c) := box_cell x0 3 _ rfl
  have m4 : W1.cell? ⟨w.heap.size, 4, none⟩ = some (.int .i64 cn) := box_cell x0 4 _ rfl
  have m5 : W1.cell? ⟨w.heap.size, 5, none⟩ = some (.int .i64 wt) := box_cell x0 5 _ rfl
  have m6 : W1.cell? ⟨w.heap.size, 6, none⟩ = some (.bool dn) := box_cell x0 6 _ rfl
  have e0 : W1.cell? ⟨w.heap.size + 1, 0, none⟩ = some (.int .i64 3) := box_cell x1 0 _ rfl
  have e1 : W1.cell? ⟨w.heap.size + 1, 1, none⟩ = some (.int .i64 bank) := box_cell x1 1 _ rfl
  have e2 : W1.cell? ⟨w.heap.size + 1, 2, none⟩ = some (.slice D m d) := box_cell x1 2 _ rfl
  have e3 : W1.cell? ⟨w.heap.size + 1, 3, none⟩ = some (.int .i64 x) := box_cell x1 3 _ rfl
  have e4 : W1.cell? ⟨w.heap.size + 1, 4, none⟩ = some (.int .i64 y) := box_cell x1 4 _ rfl
  have H1 := Lib.hid (And.intro hb1 (And.intro hs1 (And.intro x0 (And.intro x1 (And.intro x2 (And.intro (hf.below hb1) (hr'.below hb1)))))))
  have HE := Lib.hid (And.intro hz (And.intro hn0 (And.intro hn1 (And.intro hn2 (And.intro hcn (And.intro hwt hdn))))))
  have H0 := Lib.hid (And.intro hG (And.intro hb (And.intro hk (And.intro hDG hU))))
  clear hf hr hr' hG hb hDG hU hb1 hs1 x0 x1 x2 hz hn0 hn1 hn2 hcn hwt hdn hk
  go_enter Try.func43, Try.ntmps43
  go_wp2_with fail
  rw [← hW1]
  clear hW1
  refine (HProg.out _ H1.out.2.2.2.2.2.1).mono ?_
  rintro e w2 ⟨A2, rfl, o2, hb2⟩
  have L2 := Lib.hid (And.intro o2 (And.intro (H1.out.2.2.2.2.2.1.below hb2) hb2))
  have y1 := heap_below H1.out.2.2.2.1 hb2
  clear o2 hb2 m0 m1 m2 m3 m4 m5 m6 e0 e1 e2 e3 e4
  have e0 : w2.cell? ⟨w.heap.size + 1, 0, none⟩ = some (.int .i64 3) := box_cell y1 0 _ rfl
  have e1 : w2.cell? ⟨w.heap.size + 1, 1, none⟩ = some (.int .i64 bank) := box_cell y1 1 _ rfl
  have e2 : w2.cell? ⟨w.heap.size + 1, 2, none⟩ = some (.slice D m d) := box_cell y1 2 _ rfl
  have e3 : w2.cell? ⟨w.heap.size + 1, 3, none⟩ = some (.int .i64 x) := box_cell y1 3 _ rfl
  have e4 : w2.cell? ⟨w.heap.size + 1, 4, none⟩ = some (.int .i64 y) := box_cell y1 4 _ rfl
  clear y1
  go_wp2_with (first | (at_builtin; refine Stopped.out ?_) | (at_make; refine Stopped.out ?_))
  refine (HProg.out _ L2.out.2.1).mono ?_
  rintro e w3 ⟨A3, rfl, o3, hb3⟩
  have L3 := Lib.hid (And.intro o3 (And.intro (L2.out.2.1.below hb3) (And.intro hb3 (bthen L2.out.2.2 hb3))))
  have y0 := heap_below H1.out.2.2.1 L3.out.2.2.2
  have y1 := heap_below H1.out.2.2.2.1 L3.out.2.2.2
  clear o3 hb3 e0 e1 e2 e3 e4
  have m0 : w3.cell? ⟨w.heap.size, 0, none⟩ = some (.int .i64 z) := box_cell y0 0 _ rfl
  have m1 : w3.cell? ⟨w.heap.size, 1, none⟩ = some (.slice A n0 a) := box_cell y0 1 _ rfl
  have m2 : w3.cell? ⟨w.heap.size, 2, none⟩ = some (.slice B n1 b) := box_cell y0 2 _ rfl
  have m3 : w3.cell? ⟨w.heap.size, 3, none⟩ = some (.slice C n2 c) := box_cell y0 3 _ rfl
  have m4 : w3.cell? ⟨w.heap.size, 4, none⟩ = some (.int .i64 cn) := box_cell y0 4 _ rfl
  have m5 : w3.cell? ⟨w.heap.size, 5, none⟩ = some (.int .i64 wt) := box_cell y0 5 _ rfl
  have m6 : w3.cell? ⟨w.heap.size, 6, none⟩ = some (.bool dn) := box_cell y0 6 _ rfl
  have e0 : w3.cell? ⟨w.heap.size + 1, 0, none⟩ = some (.int .i64 3) := box_cell y1 0 _ rfl
  have e1 : w3.cell? ⟨w.heap.size + 1, 1, none⟩ = some (.int .i64 bank) := box_cell y1 1 _ rfl
  have e2 : w3.cell? ⟨w.heap.size + 1, 2, none⟩ = some (.slice D m d) := box_cell y1 2 _ rfl
  have e3 : w3.cell? ⟨w.heap.size + 1, 3, none⟩ = some (.int .i64 x) := box_cell y1 3 _ rfl
  have e4 : w3.cell? ⟨w.heap.size + 1, 4, none⟩ = some (.int .i64 y) := box_cell y1 4 _ rfl
  have hR3 : RFl w3 (refV s A B C a b c) s (Us ++ G) := by
    obtain ⟨e0, e1, e2, e3, e4, e5, e6⟩ := HE.out
    have := HFR.out.2.below (bthen H1.out.1 L3.out.2.2.2)
    rw [e0, e1, e2, e3, e4, e5, e6] at this
    exact this
  have HR3 := Lib.hid hR3
  clear y0 y1 hR3
  go_wp2_with (first | (at_builtin; refine Stopped.out ?_) | (at_make; refine Stopped.out ?_))
  refine (HDoc.out _ _ HR3.out).mono ?_
  rintro e w4 ⟨u4, rfl, o4, hb4⟩
  obtain ⟨A4, a4, rfl, s4, hA4⟩ := own_sl o4
  have a2 := own_below L2.out.1 (bthen L3.out.2.2.1 hb4)
  have a3 := own_below L3.out.1 hb4
  have hN2 := ne_laterA (b' := w3.heap.size) L2.out.1 (fun ad e => (hA4 ad e).1) L3.out.2.2.1.size
  have hN3 := ne_laterA (b' := w3.heap.size) L3.out.1 (fun ad e => (hA4 ad e).1) (Nat.le_refl _)
  have hN23 := ne_later L2.out.1 L3.out.1 (Nat.le_refl _)
  have HNE := Lib.hid (And.intro hN2 (And.intro hN3 hN23))
  have hS := same12 w4 (own_sl' a2).2.1 s4
  rw [decide_eq_true rfl] at hS
  have HS := Lib.hid hS
  have L4 := Lib.hid (And.intro a2 (And.intro (own_mono a3 L2.out.2.2.size) (And.intro s4 (bthen L3.out.2.2.2 hb4))))
  clear o4 a2 a3 s4 hA4 hb4 hN2 hN3 hN23 hS m0 m1 m2 m3 m4 m5 m6 e0 e1 e2 e3 e4
  go_wp2_with (first | (at_builtin; refine Stopped.out ?_) | (at_make; refine Stopped.out ?_))
  refine HS.out.mono ?_
  rintro e w5 ⟨rfl, hd5⟩
  have hS := same12 w5 (own_sl' (own_below L4.out.2.1 hd5.below)).2.1 (L4.out.2.2.1.below hd5.below)
  rw [decide_eq_true rfl] at hS
  have HS2 := Lib.hid hS
  have L5 := Lib.hid (And.intro (own_below L4.out.1 hd5.below) (And.intro (own_below L4.out.2.1 hd5.below) (And.intro (L4.out.2.2.1.below hd5.below) (bthen L4.out.2.2.2 hd5.below))))
  clear hd5 hS HS L4
  go_wp2_with (first | (at_builtin; refine Stopped.out ?_) | (at_make; refine Stopped.out ?_))
  refine HS2.out.mono ?_
  rintro e w6 ⟨rfl, hd6⟩
  have hdr : Below w6.heap.size w6 w6.drew := (Below.refl _ _).drew
  have b2 := own_below (own_below L5.out.1 hd6.below) hdr
  have b3 := own_below (own_below L5.out.2.1 hd6.below) hdr
  have hb16 := bthen L5.out.2.2.2 hd6.below
  have hSp := spoilt12 w6.drew b2 (by omega) (by have h1 := hb16.size; simpa using h1) 9 (by decide)
  have y0 := heap_below H1.out.2.2.1 hb16
  have y2 : w6.heap[w.heap.size + 1 + 1]? = _ := heap_below H1.out.2.2.2.2.1 hb16
  have hbs : ∀ j, (Value.slice A2 kl kl).ownBlock = some j ∨ (Value.slice A3 kl kl).ownBlock = some j → w.heap.size + 2 < j := fun j hj => by
    have h1 := H1.out.2.1
    rcases hj with h | h
    · have := (L5.out.1.lt j h).1; omega
    · have := (L5.out.2.1.lt j h).1; omega
  have L6 := Lib.hid (And.intro b2 (And.intro b3 (And.intro ((L5.out.2.2.1.below hd6.below).below hdr) (And.intro hSp (And.intro y0 (And.intro y2 (And.intro hbs hb16)))))))
  have c7 : w6.cell? ⟨w.heap.size, 0, none⟩ = some (.int .i64 z) ∧ w6.cell? ⟨w.heap.size, 1, none⟩ = some (.slice A n0 a) ∧ w6.cell? ⟨w.heap.size, 2, none⟩ = some (.slice B n1 b) ∧ w6.cell? ⟨w.heap.size, 3, none⟩ = some (.slice C n2 c) ∧ w6.cell? ⟨w.heap.size, 4, none⟩ = some (.int .i64 cn) ∧ w6.cell? ⟨w.heap.size, 5, none⟩ = some (.int .i64 wt) ∧ w6.cell? ⟨w.heap.size, 6, none⟩ = some (.bool dn) := ⟨box_cell y0 0 _ rfl, box_cell y0 1 _ rfl, box_cell y0 2 _ rfl, box_cell y0 3 _ rfl, box_cell y0 4 _ rfl, box_cell y0 5 _ rfl, box_cell y0 6 _ rfl⟩
  clear hdr b2 b3 hSp y0 y2 hbs hd6 L5 HS2 hb16
  go_wp2_with fail
  go_region_held3 (fun w' => w'.cell? ⟨w.heap.size, 0, none⟩ = some (.int .i64 z) ∧ w'.cell? ⟨w.heap.size, 1, none⟩ = some (.slice A n0 a) ∧ w'.cell? ⟨w.heap.size, 2, none⟩ = some (.slice B n1 b) ∧ w'.cell? ⟨w.heap.size, 3, none⟩ = some (.slice C n2 c) ∧ w'.cell? ⟨w.heap.size, 4, none⟩ = some (.int .i64 cn) ∧ w'.cell? ⟨w.heap.size, 5, none⟩ = some (.int .i64 wt) ∧ w'.cell? ⟨w.heap.size, 6, none⟩ = some (.bool dn))
    (first | with_reducible exact u9 | with_reducible exact u8 | with_reducible exact u7 | with_reducible exact c7 | exact ⟨s7.2.cell u9.1 (by simp; omega), s7.2.cell u9.2.1 (by simp; omega), s7.2.cell u9.2.2.1 (by simp; omega), s7.2.cell u9.2.2.2.1 (by simp; omega), s7.2.cell u9.2.2.2.2.1 (by simp; omega), s7.2.cell u9.2.2.2.2.2.1 (by simp; omega), s7.2.cell u9.2.2.2.2.2.2 (by simp; omega)⟩ | exact c7 | go_keep)
    (first
      | (go_at_call 77; refine HS8.out.1.mono ?_; rintro e w9 ⟨rfl, k9⟩; have u9 : w9.cell? ⟨w.heap.size, 0, none⟩ = some (.int .i64 z) ∧ w9.cell? ⟨w.heap.size, 1, none⟩ = some (.slice A n0 a) ∧ w9.cell? ⟨w.heap.size, 2, none⟩ = some (.slice B n1 b) ∧ w9.cell? ⟨w.heap.size, 3, none⟩ = some (.slice C n2 c) ∧ w9.cell? ⟨w.heap.size, 4, none⟩ = some (.int .i64 cn) ∧ w9.cell? ⟨w.heap.size, 5, none⟩ = some (.int .i64 wt) ∧ w9.cell? ⟨w.heap.size, 6, none⟩ = some (.bool dn) := (let y := k9.heap HS8.out.2.1 (fun hx => by have := L6.out.2.2.2.2.2.2.1 _ (.inr (by simpa using hx)); omega); ⟨box_cell y 0 _ rfl, box_cell y 1 _ rfl, box_cell y 2 _ rfl, box_cell y 3 _ rfl, box_cell y 4 _ rfl, box_cell y 5 _ rfl, box_cell y 6 _ rfl⟩); have y5 := k9.heap HS8.out.2.2.1 (fun hx => by have := L6.out.2.2.2.2.2.2.1 _ (.inr (by simpa using hx)); omega); have s7 := set7 (.int .i64 z) (.slice A n0 a) (.slice B n1 b) (.slice C n2 c) (.int .i64 cn) (.int .i64 wt) (.bool dn) y5; have rr : w9.cell? ⟨w.heap.size + 1 + 1, 0, none⟩ = some (.int .i64 0) ∧ w9.cell? ⟨w.heap.size + 1 + 1, 1, none⟩ = some (.slice none 0 0) ∧ w9.cell? ⟨w.heap.size + 1 + 1, 2, none⟩ = some (.slice none 0 0) ∧ w9.cell? ⟨w.heap.size + 1 + 1, 3, none⟩ = some (.slice none 0 0) ∧ w9.cell? ⟨w.heap.size + 1 + 1, 4, none⟩ = some (.int .i64 0) ∧ w9.cell? ⟨w.heap.size + 1 + 1, 5, none⟩ = some (.int .i64 0) ∧ w9.cell? ⟨w.heap.size + 1 + 1, 6, none⟩ = some (.bool false) := ⟨box_cell y5 0 _ rfl, box_cell y5 1 _ rfl, box_cell y5 2 _ rfl, box_cell y5 3 _ rfl, box_cell y5 4 _ rfl, box_cell y5 5 _ rfl, box_cell y5 6 _ rfl⟩; obtain ⟨r0, r1, r2, r3, r4, r5, r6⟩ := rr; have g0 := box_free y5 0; have g1 := box_free y5 1; have g2 := box_free y5 2; have g3 := box_free y5 3; have g4 := box_free y5 4; have g5 := box_free y5 5; have g6 := box_free y5 6)
      | (go_at_call 26; refine HS7.out.1.mono ?_; rintro e w8 ⟨rfl, hd8⟩; have u8 : w8.cell? ⟨w.heap.size, 0, none⟩ = some (.int .i64 z) ∧ w8.cell? ⟨w.heap.size, 1, none⟩ = some (.slice A n0 a) ∧ w8.cell? ⟨w.heap.size, 2, none⟩ = some (.slice B n1 b) ∧ w8.cell? ⟨w.heap.size, 3, none⟩ = some (.slice C n2 c) ∧ w8.cell? ⟨w.heap.size, 4, none⟩ = some (.int .i64 cn) ∧ w8.cell? ⟨w.heap.size, 5, none⟩ = some (.int .i64 wt) ∧ w8.cell? ⟨w.heap.size, 6, none⟩ = some (.bool dn) := (let y := heap_below HS7.out.2.2.1 hd8.below; ⟨box_cell y 0 _ rfl, box_cell y 1 _ rfl, box_cell y 2 _ rfl, box_cell y 3 _ rfl, box_cell y 4 _ rfl, box_cell y 5 _ rfl, box_cell y 6 _ rfl⟩); have HS8 := Lib.hid (And.intro (spoilt12 w8 (own_below HS7.out.2.1 hd8.below) (by omega) (by have h1 := HS7.out.2.2.2.2.1; have h2 := hd8.below.size; omega) 10 (by decide)) (And.intro (heap_below HS7.out.2.2.1 hd8.below) (And.intro (heap_below HS7.out.2.2.2.1 hd8.below) hd8.below))))
      | (go_at_call 77; refine L6.out.2.2.2.1.mono ?_; rintro e w7 ⟨rfl, k7⟩; have HS7 : Hid ((Calls Try.prog 26 #[.slice A3 kl kl, .slice A4 kl a4] w7 fun e w' => e = .returned (.bool true) ∧ Drawn w7 w') ∧ w7.ownsRow W1.heap.size 5 1 (.slice A3 kl kl) kl (L.map by8) ∧ w7.heap[w.heap.size]? = some (.cells #[.int .i64 z, .slice A n0 a, .slice B n1 b, .slice C n2 c, .int .i64 cn, .int .i64 wt, .bool dn] 37 (0, 0)) ∧ w7.heap[w.heap.size + 1 + 1]? = some (.cells #[.int .i64 0, .slice none 0 0, .slice none 0 0, .slice none 0 0, .int .i64 0, .int .i64 0, .bool false] 37 (0, 0)) ∧ W1.heap.size ≤ w7.heap.size ∧ Keep (Value.slice A2 kl kl).ownBlock.toList w6 w7) := Lib.hid (by
          have o7 := own_beside k7 L6.out.2.1 HNE.out.2.2
          have s7 := sl_beside k7 L6.out.2.2.1 HNE.out.1
          have hS := same12 w7 (own_sl' o7).2.1 s7
          rw [decide_eq_true rfl] at hS
          refine ⟨hS, o7, k7.heap (w := w6.drew) L6.out.2.2.2.2.1 (fun hx => by have := L6.out.2.2.2.2.2.2.1 _ (.inl (by simpa using hx)); omega), k7.heap (w := w6.drew) L6.out.2.2.2.2.2.1 (fun hx => by have := L6.out.2.2.2.2.2.2.1 _ (.inl (by simpa using hx)); omega), ?_, ((Keep.refl _ w6).drew).trans k7⟩
          have h1 := L6.out.2.2.2.2.2.2.2.size
          have h2 := k7.size
          simp at h2; omega); have u7 : w7.cell? ⟨w.heap.size, 0, none⟩ = some (.int .i64 z) ∧ w7.cell? ⟨w.heap.size, 1, none⟩ = some (.slice A n0 a) ∧ w7.cell? ⟨w.heap.size, 2, none⟩ = some (.slice B n1 b) ∧ w7.cell? ⟨w.heap.size, 3, none⟩ = some (.slice C n2 c) ∧ w7.cell? ⟨w.heap.size, 4, none⟩ = some (.int .i64 cn) ∧ w7.cell? ⟨w.heap.size, 5, none⟩ = some (.int .i64 wt) ∧ w7.cell? ⟨w.heap.size, 6, none⟩ = some (.bool dn) := (let y := HS7.out.2.2.1; ⟨box_cell y 0 _ rfl, box_cell y 1 _ rfl, box_cell y 2 _ rfl, box_cell y 3 _ rfl, box_cell y 4 _ rfl, box_cell y 5 _ rfl, box_cell y 6 _ rfl⟩)))
  have HZ := Lib.hid (And.intro s7 (And.intro k9 (And.intro HS8.out.2.2.2 HS7.out.2.2.2.2.2)))
  clear s7 k9 HS8 HS7 u7 u8 u9 c7 r0 r1 r2 r3 r4 r5 r6 g0 g1 g2 g3 g4 g5 g6 y5 hd8 k7
  go_wp2
  obtain ⟨s7, k9, hb78, k67⟩ := HZ.out
  refine bodyPost_ret (results_c2 (P := Try.prog) rfl _ _ _ _ _ _ _ (by rfl) s7.1 Try.underlying37 rfl (by kernel_rfl)) rfl ?_
  have k10 : Keep ((w.heap.size + 1 + 1) :: ((Value.slice A2 kl kl).ownBlock.toList ++ (Value.slice A3 kl kl).ownBlock.toList)) w6 _ := (((k67.mono (M' := ((w.heap.size + 1 + 1) :: ((Value.slice A2 kl kl).ownBlock.toList ++ (Value.slice A3 kl kl).ownBlock.toList))) (by intro q hq; simp at hq; simp [hq])).trans (Keep.of_below hb78 _)).trans (k9.mono (by intro q hq; simp at hq; simp [hq]))).trans (s7.2.mono (by intro q hq; simp at hq; simp [hq]))
  have hMw : ∀ q ∈ ((w.heap.size + 1 + 1) :: ((Value.slice A2 kl kl).ownBlock.toList ++ (Value.slice A3 kl kl).ownBlock.toList)), w.heap.size ≤ q := fun q hq => by
    rcases List.mem_cons.1 hq with h | h
    · omega
    · rcases List.mem_append.1 h with h | h
      · have := L6.out.2.2.2.2.2.2.1 _ (.inl (by simpa using h)); omega
      · have := L6.out.2.2.2.2.2.2.1 _ (.inr (by simpa using h)); omega
  have hb6 := bthen H1.out.1 L6.out.2.2.2.2.2.2.2
  refine ⟨_, rfl, BothS.mk2 (w1 := w6) (w2 := w6) (w3 := w6) (M := ((w.heap.size + 1 + 1) :: ((Value.slice A2 kl kl).ownBlock.toList ++ (Value.slice A3 kl kl).ownBlock.toList))) hb6 (Keep.refl _ _) (fun q hq => .inl hq) (Below.refl _ _) (HFR.out.1.below hb6) (show RFl w6 [.int .i64 z, .slice A n0 a, .slice B n1 b, .slice C n2 c, .int .i64 cn, .int .i64 wt, .bool dn] s (((w.heap.size + 1 + 1) :: ((Value.slice A2 kl kl).ownBlock.toList ++ (Value.slice A3 kl kl).ownBlock.toList)) ++ (Us ++ G)) from (HFR.out.2.grow (fun q hq => (List.mem_append.1 hq).elim (fun h => .inr (hMw q h)) .inl)).below hb6) k10 (fun q hq => ⟨hMw q hq, fun hx => by have h1 := hMw q hq; have h2 := H0.out.1 q hx; omega⟩)⟩
/-- both, of any step -/
theorem both12 (w : World) {p : Nat} {G Us : List Nat} {s : FSt} {v : List Value} (hf : Fl w p G s) (hr : RFl w v s (Us ++ G)) (hU : ∀ x ∈ Us, x < w.heap.size) (hk : FOk s) (t : St12) {D : Option Addr} {m d : Nat} (hb : Sl w 1 D m d (t.b.map by8)) (hm : m ≤ 2097152) (hDG : Ap G D m) :
    Calls Try.prog 43 #[.pointer (some ⟨p, 0, none⟩), .agg v.toArray, .agg #[.int .i64 t.kd, .int .i64 t.bank, .slice D m d, .int .i64 t.x, .int .i64 t.y]] w fun e w' => ∃ v', e = .returned (.tuple #[.agg v'.toArray, .bool true]) ∧ BothS w w' p Us G v' (doesF s t).1 := by
  obtain ⟨kd, bank, l, x, y⟩ := t
  simp only at hb ⊢
  by_cases k1 : kd = 1
  · subst k1; exact both1 w hf hr hU hk bank x y l hb hm hDG
  by_cases k2 : kd = 2
  · subst k2; exact both2 w hf hr hU hk bank x y l hb hm hDG
  by_cases k3 : kd = 3
  · subst k3; exact both3 w hf hr hU hk bank x y l hb hm hDG
  by_cases k4 : kd = 4
  · subst k4; exact both4 w hf hr hU hk bank x y l hb hm hDG
  by_cases k5 : kd = 5
  · subst k5; exact both5 w hf hr hU hk bank x y l hb hm hDG
  by_cases k6 : kd = 6
  · subst k6; exact both6 w hf hr hU hk bank x y l hb hm hDG
  by_cases k7 : kd = 7
  · subst k7; exact both7 w hf hr hU hk bank x y l hb hm hDG
  have := bothD w hf hr hU hk kd ⟨k1, k2, k3, k4, k5, k6, k7⟩ bank x y l hb hm hDG
  have e : (doesF s ⟨kd, bank, l, x, y⟩).1 = s := by simp [doesF, k1, k2, k5, k6, k7]
  rw [e]
  exact this
end Go.Proofs.Ytpjmbhhfpoamnaa
