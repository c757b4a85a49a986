import Derived.Test.YtdooabbeolfgfaaStepFn2
set_option linter.unusedVariables false
set_option linter.unusedSimpArgs false
namespace Go.Proofs.Ytdooabbeolfgfaa
open Go.RowKit
/-- an answer in hand -/
def GotIs (w : World) (v : Value) (g : Gt) : Prop := ∃ (A B : Option Addr) (n c m d : Nat), v = .agg #[.int .u64 (g.x : Int), .slice A n c, .slice B m d, .int .i64 (g.n : Int)] ∧ Sl w 1 A n c (g.b.map by8) ∧ Sl w 1 B m d (g.ns.map by64)
theorem GotIs.below {w w' : World} {v : Value} {g : Gt} (h : GotIs w v g) (k : Below w.heap.size w w') : GotIs w' v g := by
  obtain ⟨A, B, n, c, m, d, e, s1, s2⟩ := h
  exact ⟨A, B, n, c, m, d, e, s1.below k, s2.below k⟩
theorem ReadPost.got {w w' : World} {p : Nat} {G : List Nat} {l : List UInt8} {R : Gt × Nat × Nat} {e : Ending} (h : ReadPost w p G l R e w') : ∃ v, e = .returned v ∧ GotIs w' v R.1 ∧ Rd w' p G l R.2.1 R.2.2 ∧ Keep [p] w w' := by
  obtain ⟨vb, vl, rfl, o1, o2, hr, hk⟩ := h
  obtain ⟨A, c, rfl, s1, _⟩ := own_sl o1
  obtain ⟨B, d, rfl, s2, _⟩ := own_sl o2
  exact ⟨_, rfl, ⟨A, B, _, _, _, _, rfl, s1, s2⟩, hr, hk⟩
theorem W3g (w : World) (a b : Obj) (C : Array Value) (T : TypeId) : (((w.alloc a).alloc (.cells C T)).alloc b).heap[w.heap.size + 1]? = some (.cells C T (0, 0)) := by
  have := heap_below (heap_alloc_new (w.alloc a) (.cells C T)) ((Below.refl _ _).alloc (Nat.le_refl _) b)
  rwa [World.size_alloc] at this
theorem W3b (w : World) (a b c : Obj) : Below w.heap.size w (((w.alloc a).alloc b).alloc c) := (((Below.refl _ w).alloc (Nat.le_refl _) _).alloc (by simp) _).alloc (by simp; omega) _
section
variable (w : World) (x : Nat) {ba la : Option Addr} {bn bc ln lc : Nat} {bb : List UInt8} {ns : List UInt64} (nn mo : Int) 
  (s1 : Sl w 1 ba bn bc (bb.map by8)) (s2 : Sl w 1 la ln lc (ns.map by64))
set_option maxRecDepth 100000 in
set_option maxHeartbeats 800000 in
include s1 s2 in
theorem meant_1 (hx : x < 18446744073709551616) : Calls Try.prog 59 #[.agg #[.int .i64 1, .int .u64 (x : Int), .slice ba bn bc, .slice la ln lc, .int .i64 nn, .int .i64 mo]] w fun e w' => ∃ v, e = .returned v ∧ GotIs w' v (meantG ⟨1, x, bb, ns, nn, mo⟩) ∧ Below w.heap.size w w' := by
  have HS := Lib.hid (And.intro s1 s2)
  clear s1 s2
  go_enter Try.func59, Try.ntmps59
  go_wp2
  have d3 := W3g w (.cells #[.int .i64 1, .int .u64 (x : Int), .slice ba bn bc, .slice la ln lc, .int .i64 nn, .int .i64 mo] 70) (.cells #[.int .u64 ((x : Int) % 256), .slice none 0 0, .slice none 0 0, .int .i64 0] 85) #[.int .u64 ((x : Int) % 256), .slice none 0 0, .slice none 0 0, .int .i64 0] 85
  refine bodyPost_ret (results_cell_row (P := Try.prog) rfl _ _ _ _ _ _ _ (by rfl) d3 Try.underlying85 rfl (by kernel_rfl)) rfl ?_
  exact ⟨_, rfl, ⟨_, _, _, _, _, _, by simp [meantG, Gt.ofX, Gt.ofB], Sl.nilS _ _, Sl.nilS _ _⟩, (W3b w (.cells #[.int .i64 1, .int .u64 (x : Int), .slice ba bn bc, .slice la ln lc, .int .i64 nn, .int .i64 mo] 70) (.cells #[.int .u64 ((x : Int) % 256), .slice none 0 0, .slice none 0 0, .int .i64 0] 85) (.cells #[.int .u64 ((x : Int) % 256), .slice none 0 0, .slice none 0 0, .int .i64 0] 85))⟩
set_option maxRecDepth 100000 in
set_option maxHeartbeats 800000 in
include s1 s2 in
theorem meant_2 (hx : x < 18446744073709551616) : Calls Try.prog 59 #[.agg #[.int .i64 2, .int .u64 (x : Int), .slice ba bn bc, .slice la ln lc, .int .i64 nn, .int .i64 mo]] w fun e w' => ∃ v, e = .returned v ∧ GotIs w' v (meantG ⟨2, x, bb, ns, nn, mo⟩) ∧ Below w.heap.size w w' := by
  have HS := Lib.hid (And.intro s1 s2)
  clear s1 s2
  go_enter Try.func59, Try.ntmps59
  go_wp2
  have d3 := W3g w (.cells #[.int .i64 2, .int .u64 (x : Int), .slice ba bn bc, .slice la ln lc, .int .i64 nn, .int .i64 mo] 70) (.cells #[.int .u64 ((x : Int) % 4294967296), .slice none 0 0, .slice none 0 0, .int .i64 0] 85) #[.int .u64 ((x : Int) % 4294967296), .slice none 0 0, .slice none 0 0, .int .i64 0] 85
  refine bodyPost_ret (results_cell_row (P := Try.prog) rfl _ _ _ _ _ _ _ (by rfl) d3 Try.underlying85 rfl (by kernel_rfl)) rfl ?_
  exact ⟨_, rfl, ⟨_, _, _, _, _, _, by simp [meantG, Gt.ofX, Gt.ofB], Sl.nilS _ _, Sl.nilS _ _⟩, (W3b w (.cells #[.int .i64 2, .int .u64 (x : Int), .slice ba bn bc, .slice la ln lc, .int .i64 nn, .int .i64 mo] 70) (.cells #[.int .u64 ((x : Int) % 4294967296), .slice none 0 0, .slice none 0 0, .int .i64 0] 85) (.cells #[.int .u64 ((x : Int) % 4294967296), .slice none 0 0, .slice none 0 0, .int .i64 0] 85))⟩
set_option maxRecDepth 100000 in
set_option maxHeartbeats 800000 in
include s1 s2 in
theorem meant_3 : Calls Try.prog 59 #[.agg #[.int .i64 3, .int .u64 (x : Int), .slice ba bn bc, .slice la ln lc, .int .i64 nn, .int .i64 mo]] w fun e w' => ∃ v, e = .returned v ∧ GotIs w' v (meantG ⟨3, x, bb, ns, nn, mo⟩) ∧ Below w.heap.size w w' := by
  have HS := Lib.hid (And.intro s1 s2)
  clear s1 s2
  go_enter Try.func59, Try.ntmps59
  go_wp2
  have d3 := W3g w (.cells #[.int .i64 3, .int .u64 (x : Int), .slice ba bn bc, .slice la ln lc, .int .i64 nn, .int .i64 mo] 70) (.cells #[.int .u64 (x : Int), .slice none 0 0, .slice none 0 0, .int .i64 0] 85) #[.int .u64 (x : Int), .slice none 0 0, .slice none 0 0, .int .i64 0] 85
  refine bodyPost_ret (results_cell_row (P := Try.prog) rfl _ _ _ _ _ _ _ (by rfl) d3 Try.underlying85 rfl (by kernel_rfl)) rfl ?_
  exact ⟨_, rfl, ⟨_, _, _, _, _, _, by simp [meantG, Gt.ofX, Gt.ofB], Sl.nilS _ _, Sl.nilS _ _⟩, (W3b w (.cells #[.int .i64 3, .int .u64 (x : Int), .slice ba bn bc, .slice la ln lc, .int .i64 nn, .int .i64 mo] 70) (.cells #[.int .u64 (x : Int), .slice none 0 0, .slice none 0 0, .int .i64 0] 85) (.cells #[.int .u64 (x : Int), .slice none 0 0, .slice none 0 0, .int .i64 0] 85))⟩
set_option maxRecDepth 100000 in
set_option maxHeartbeats 800000 in
include s1 s2 in
theorem meant_4 : Calls Try.prog 59 #[.agg #[.int .i64 4, .int .u64 (x : Int), .slice ba bn bc, .slice la ln lc, .int .i64 nn, .int .i64 mo]] w fun e w' => ∃ v, e = .returned v ∧ GotIs w' v (meantG ⟨4, x, bb, ns, nn, mo⟩) ∧ Below w.heap.size w w' := by
  have HS := Lib.hid (And.intro s1 s2)
  clear s1 s2
  go_enter Try.func59, Try.ntmps59
  go_wp2
  have d3 := W3g w (.cells #[.int .i64 4, .int .u64 (x : Int), .slice ba bn bc, .slice la ln lc, .int .i64 nn, .int .i64 mo] 70) (.cells #[.int .u64 (x : Int), .slice none 0 0, .slice none 0 0, .int .i64 0] 85) #[.int .u64 (x : Int), .slice none 0 0, .slice none 0 0, .int .i64 0] 85
  refine bodyPost_ret (results_cell_row (P := Try.prog) rfl _ _ _ _ _ _ _ (by rfl) d3 Try.underlying85 rfl (by kernel_rfl)) rfl ?_
  exact ⟨_, rfl, ⟨_, _, _, _, _, _, by simp [meantG, Gt.ofX, Gt.ofB], Sl.nilS _ _, Sl.nilS _ _⟩, (W3b w (.cells #[.int .i64 4, .int .u64 (x : Int), .slice ba bn bc, .slice la ln lc, .int .i64 nn, .int .i64 mo] 70) (.cells #[.int .u64 (x : Int), .slice none 0 0, .slice none 0 0, .int .i64 0] 85) (.cells #[.int .u64 (x : Int), .slice none 0 0, .slice none 0 0, .int .i64 0] 85))⟩
set_option maxRecDepth 100000 in
set_option maxHeartbeats 800000 in
include s1 s2 in
theorem meant_5 (hx : x < 18446744073709551616) : Calls Try.prog 59 #[.agg #[.int .i64 5, .int .u64 (x : Int), .slice ba bn bc, .slice la ln lc, .int .i64 nn, .int .i64 mo]] w fun e w' => ∃ v, e = .returned v ∧ GotIs w' v (meantG ⟨5, x, bb, ns, nn, mo⟩) ∧ Below w.heap.size w w' := by
  have HS := Lib.hid (And.intro s1 s2)
  clear s1 s2
  go_enter Try.func59, Try.ntmps59
  go_wp2
  have d3 := W3g w (.cells #[.int .i64 5, .int .u64 (x : Int), .slice ba bn bc, .slice la ln lc, .int .i64 nn, .int .i64 mo] 70) (.cells #[.int .u64 ((x : Int) % 2), .slice none 0 0, .slice none 0 0, .int .i64 0] 85) #[.int .u64 ((x : Int) % 2), .slice none 0 0, .slice none 0 0, .int .i64 0] 85
  refine bodyPost_ret (results_cell_row (P := Try.prog) rfl _ _ _ _ _ _ _ (by rfl) d3 Try.underlying85 rfl (by kernel_rfl)) rfl ?_
  exact ⟨_, rfl, ⟨_, _, _, _, _, _, by simp [meantG, Gt.ofX, Gt.ofB], Sl.nilS _ _, Sl.nilS _ _⟩, (W3b w (.cells #[.int .i64 5, .int .u64 (x : Int), .slice ba bn bc, .slice la ln lc, .int .i64 nn, .int .i64 mo] 70) (.cells #[.int .u64 ((x : Int) % 2), .slice none 0 0, .slice none 0 0, .int .i64 0] 85) (.cells #[.int .u64 ((x : Int) % 2), .slice none 0 0, .slice none 0 0, .int .i64 0] 85))⟩
set_option maxRecDepth 100000 in
set_option maxHeartbeats 800000 in
include s1 s2 in
theorem meant_6 : Calls Try.prog 59 #[.agg #[.int .i64 6, .int .u64 (x : Int), .slice ba bn bc, .slice la ln lc, .int .i64 nn, .int .i64 mo]] w fun e w' => ∃ v, e = .returned v ∧ GotIs w' v (meantG ⟨6, x, bb, ns, nn, mo⟩) ∧ Below w.heap.size w w' := by
  have HS := Lib.hid (And.intro s1 s2)
  clear s1 s2
  go_enter Try.func59, Try.ntmps59
  go_wp2
  have d3 := W3g w (.cells #[.int .i64 6, .int .u64 (x : Int), .slice ba bn bc, .slice la ln lc, .int .i64 nn, .int .i64 mo] 70) (.cells #[.int .u64 0, .slice ba bn bc, .slice none 0 0, .int .i64 0] 85) #[.int .u64 0, .slice ba bn bc, .slice none 0 0, .int .i64 0] 85
  refine bodyPost_ret (results_cell_row (P := Try.prog) rfl _ _ _ _ _ _ _ (by rfl) d3 Try.underlying85 rfl (by kernel_rfl)) rfl ?_
  exact ⟨_, rfl, ⟨_, _, _, _, _, _, by simp [meantG, Gt.ofX, Gt.ofB], HS.out.1.below (W3b w (.cells #[.int .i64 6, .int .u64 (x : Int), .slice ba bn bc, .slice la ln lc, .int .i64 nn, .int .i64 mo] 70) (.cells #[.int .u64 0, .slice ba bn bc, .slice none 0 0, .int .i64 0] 85) (.cells #[.int .u64 0, .slice ba bn bc, .slice none 0 0, .int .i64 0] 85)), Sl.nilS _ _⟩, (W3b w (.cells #[.int .i64 6, .int .u64 (x : Int), .slice ba bn bc, .slice la ln lc, .int .i64 nn, .int .i64 mo] 70) (.cells #[.int .u64 0, .slice ba bn bc, .slice none 0 0, .int .i64 0] 85) (.cells #[.int .u64 0, .slice ba bn bc, .slice none 0 0, .int .i64 0] 85))⟩
set_option maxRecDepth 100000 in
set_option maxHeartbeats 800000 in
include s1 s2 in
theorem meant_7 : Calls Try.prog 59 #[.agg #[.int .i64 7, .int .u64 (x : Int), .slice ba bn bc, .slice la ln lc, .int .i64 nn, .int .i64 mo]] w fun e w' => ∃ v, e = .returned v ∧ GotIs w' v (meantG ⟨7, x, bb, ns, nn, mo⟩) ∧ Below w.heap.size w w' := by
  have HS := Lib.hid (And.intro s1 s2)
  clear s1 s2
  go_enter Try.func59, Try.ntmps59
  go_wp2
  have d3 := W3g w (.cells #[.int .i64 7, .int .u64 (x : Int), .slice ba bn bc, .slice la ln lc, .int .i64 nn, .int .i64 mo] 70) (.cells #[.int .u64 0, .slice ba bn bc, .slice none 0 0, .int .i64 0] 85) #[.int .u64 0, .slice ba bn bc, .slice none 0 0, .int .i64 0] 85
  refine bodyPost_ret (results_cell_row (P := Try.prog) rfl _ _ _ _ _ _ _ (by rfl) d3 Try.underlying85 rfl (by kernel_rfl)) rfl ?_
  exact ⟨_, rfl, ⟨_, _, _, _, _, _, by simp [meantG, Gt.ofX, Gt.ofB], HS.out.1.below (W3b w (.cells #[.int .i64 7, .int .u64 (x : Int), .slice ba bn bc, .slice la ln lc, .int .i64 nn, .int .i64 mo] 70) (.cells #[.int .u64 0, .slice ba bn bc, .slice none 0 0, .int .i64 0] 85) (.cells #[.int .u64 0, .slice ba bn bc, .slice none 0 0, .int .i64 0] 85)), Sl.nilS _ _⟩, (W3b w (.cells #[.int .i64 7, .int .u64 (x : Int), .slice ba bn bc, .slice la ln lc, .int .i64 nn, .int .i64 mo] 70) (.cells #[.int .u64 0, .slice ba bn bc, .slice none 0 0, .int .i64 0] 85) (.cells #[.int .u64 0, .slice ba bn bc, .slice none 0 0, .int .i64 0] 85))⟩
set_option maxRecDepth 100000 in
set_option maxHeartbeats 800000 in
include s1 s2 in
theorem meant_8 : Calls Try.prog 59 #[.agg #[.int .i64 8, .int .u64 (x : Int), .slice ba bn bc, .slice la ln lc, .int .i64 nn, .int .i64 mo]] w fun e w' => ∃ v, e = .returned v ∧ GotIs w' v (meantG ⟨8, x, bb, ns, nn, mo⟩) ∧ Below w.heap.size w w' := by
  have HS := Lib.hid (And.intro s1 s2)
  clear s1 s2
  go_enter Try.func59, Try.ntmps59
  go_wp2
  have d3 := W3g w (.cells #[.int .i64 8, .int .u64 (x : Int), .slice ba bn bc, .slice la ln lc, .int .i64 nn, .int .i64 mo] 70) (.cells #[.int .u64 0, .slice none 0 0, .slice la ln lc, .int .i64 0] 85) #[.int .u64 0, .slice none 0 0, .slice la ln lc, .int .i64 0] 85
  refine bodyPost_ret (results_cell_row (P := Try.prog) rfl _ _ _ _ _ _ _ (by rfl) d3 Try.underlying85 rfl (by kernel_rfl)) rfl ?_
  exact ⟨_, rfl, ⟨_, _, _, _, _, _, by simp [meantG, Gt.ofX, Gt.ofB], Sl.nilS _ _, HS.out.2.below (W3b w (.cells #[.int .i64 8, .int .u64 (x : Int), .slice ba bn bc, .slice la ln lc, .int .i64 nn, .int .i64 mo] 70) (.cells #[.int .u64 0, .slice none 0 0, .slice la ln lc, .int .i64 0] 85) (.cells #[.int .u64 0, .slice none 0 0, .slice la ln lc, .int .i64 0] 85))⟩, (W3b w (.cells #[.int .i64 8, .int .u64 (x : Int), .slice ba bn bc, .slice la ln lc, .int .i64 nn, .int .i64 mo] 70) (.cells #[.int .u64 0, .slice none 0 0, .slice la ln lc, .int .i64 0] 85) (.cells #[.int .u64 0, .slice none 0 0, .slice la ln lc, .int .i64 0] 85))⟩
end
theorem meant_any (w : World) (x : Nat) {ba la : Option Addr} {bn bc ln lc : Nat} {bb : List UInt8} {ns : List UInt64} (kd nn mo : Int) (hk : 1 ≤ kd ∧ kd ≤ 8) (hx : x < 18446744073709551616)
    (s1 : Sl w 1 ba bn bc (bb.map by8)) (s2 : Sl w 1 la ln lc (ns.map by64)) :
    Calls Try.prog 59 #[.agg #[.int .i64 kd, .int .u64 (x : Int), .slice ba bn bc, .slice la ln lc, .int .i64 nn, .int .i64 mo]] w fun e w' => ∃ v, e = .returned v ∧ GotIs w' v (meantG ⟨kd, x, bb, ns, nn, mo⟩) ∧ Below w.heap.size w w' := by
  have hc : kd = 1 ∨ kd = 2 ∨ kd = 3 ∨ kd = 4 ∨ kd = 5 ∨ kd = 6 ∨ kd = 7 ∨ kd = 8 := by omega
  rcases hc with rfl | rfl | rfl | rfl | rfl | rfl | rfl | rfl
  · exact meant_1 w x nn mo s1 s2 hx
  · exact meant_2 w x nn mo s1 s2 hx
  · exact meant_3 w x nn mo s1 s2
  · exact meant_4 w x nn mo s1 s2
  · exact meant_5 w x nn mo s1 s2 hx
  · exact meant_6 w x nn mo s1 s2
  · exact meant_7 w x nn mo s1 s2
  · exact meant_8 w x nn mo s1 s2
/-- two answers that are one -/
theorem alike_same (w : World) {v v' : Value} {g : Gt} (h : GotIs w v g) (h' : GotIs w v' g) :
    Calls Try.prog 51 #[v, v'] w fun e w' => e = .returned (.bool true) ∧ Below w.heap.size w w' := by
  obtain ⟨A, B, n, c, m, d, rfl, s1, s2⟩ := h
  obtain ⟨A', B', n', c', m', d', rfl, t1, t2⟩ := h'
  have hB : Below w.heap.size w ((w.alloc (.cells #[.int .u64 (g.x : Int), .slice A n c, .slice B m d, .int .i64 (g.n : Int)] 85)).alloc (.cells #[.int .u64 (g.x : Int), .slice A' n' c', .slice B' m' d', .int .i64 (g.n : Int)] 85)) := ((Below.refl _ w).alloc (Nat.le_refl _) _).alloc (by simp) _
  have hsb := same09 _ (s1.below hB) (t1.below hB)
  rw [decide_eq_true rfl] at hsb
  have hsn : Hid (∀ w', Below w.heap.size w w' → Calls Try.prog 84 #[.slice B m d, .slice B' m' d'] w' fun e w'' => e = .returned (.bool true) ∧ Drawn w' w'') := Lib.hid (fun w' k => by
    have := sameNumbers_any w' (s2.below k) (t2.below k)
    rwa [decide_eq_true rfl] at this)
  have hz1 := heap_below (heap_alloc_new w (.cells #[.int .u64 (g.x : Int), .slice A n c, .slice B m d, .int .i64 (g.n : Int)] 85)) ((Below.refl _ _).alloc (Nat.le_refl _) (.cells #[.int .u64 (g.x : Int), .slice A' n' c', .slice B' m' d', .int .i64 (g.n : Int)] 85))
  have hz2 := heap_alloc_new (w.alloc (.cells #[.int .u64 (g.x : Int), .slice A n c, .slice B m d, .int .i64 (g.n : Int)] 85)) (.cells #[.int .u64 (g.x : Int), .slice A' n' c', .slice B' m' d', .int .i64 (g.n : Int)] 85)
  rw [World.size_alloc] at hz2
  have z1 := box_cell hz1 2 _ rfl
  have z2 := box_cell hz2 2 _ rfl
  replace z1 : ((w.alloc (.cells #[.int .u64 (g.x : Int), .slice A n c, .slice B m d, .int .i64 (g.n : Int)] 85)).alloc (.cells #[.int .u64 (g.x : Int), .slice A' n' c', .slice B' m' d', .int .i64 (g.n : Int)] 85)).cell? ⟨w.heap.size, 2, none⟩ = some (.slice B m d) := z1
  replace z2 : ((w.alloc (.cells #[.int .u64 (g.x : Int), .slice A n c, .slice B m d, .int .i64 (g.n : Int)] 85)).alloc (.cells #[.int .u64 (g.x : Int), .slice A' n' c', .slice B' m' d', .int .i64 (g.n : Int)] 85)).cell? ⟨w.heap.size + 1, 2, none⟩ = some (.slice B' m' d') := z2
  have HB := Lib.hid (And.intro hB (And.intro hsb (And.intro z1 z2)))
  obtain ⟨gx, hgx⟩ : ∃ gx, gx = g.x := ⟨_, rfl⟩
  obtain ⟨gn, hgn⟩ : ∃ gn, gn = g.n := ⟨_, rfl⟩
  rw [← hgx, ← hgn] at HB
  rw [← hgx, ← hgn]
  clear hgx hgn hB hsb s1 s2 t1 t2 hz1 hz2 z1 z2
  go_enter Try.func51, Try.ntmps51
  go_wp2_with (first | (at_builtin; refine Stopped.out ?_) | (at_make; refine Stopped.out ?_))
  refine HB.out.2.1.mono ?_
  rintro e w1 ⟨rfl, hd1⟩
  have z1 := cell_below HB.out.2.2.1 hd1.below
  have z2 := cell_below HB.out.2.2.2 hd1.below
  have H1 := Lib.hid (bthen HB.out.1 hd1.below)
  clear hd1
  go_wp2_with (first | (at_builtin; refine Stopped.out ?_) | (at_make; refine Stopped.out ?_))
  refine (hsn.out _ H1.out).mono ?_
  rintro e w2 ⟨rfl, hd2⟩
  have H2 := Lib.hid (bthen H1.out hd2.below)
  clear hd2 z1 z2
  go_wp2
  go_ret
  exact ⟨rfl, H2.out⟩
theorem empty_no (w : World) {v : Value} (h : GotIs w v Gt.no) :
    Calls Try.prog 64 #[v] w fun e w' => e = .returned (.bool true) ∧ Below w.heap.size w w' := by
  obtain ⟨A, B, n, c, m, d, rfl, s1, s2⟩ := h
  obtain rfl : n = 0 := by have := s1.len; simpa [Gt.no] using this.symm
  obtain rfl : m = 0 := by have := s2.len; simpa [Gt.no] using this.symm
  clear s1 s2
  have HB := Lib.hid (show Below w.heap.size w (w.alloc (.cells #[.int .u64 0, .slice A 0 c, .slice B 0 d, .int .i64 0] 85)) from (Below.refl _ _).alloc (Nat.le_refl _) _)
  dsimp only [Gt.no]
  go_enter Try.func64, Try.ntmps64
  go_wp2
  go_ret
  exact ⟨rfl, HB.out⟩
set_option maxRecDepth 100000 in
set_option maxHeartbeats 800000 in
theorem again_any (w : World) (kd nn mo : Int) (x y : Nat) (k : Int) (ba la : Option Addr) (bn bc ln lc : Nat) (A B : Option Addr) (n c m d : Nat) :
    Calls Try.prog 61 #[.agg #[.int .i64 kd, .int .u64 (x : Int), .slice ba bn bc, .slice la ln lc, .int .i64 nn, .int .i64 mo], .agg #[.int .u64 (y : Int), .slice A n c, .slice B m d, .int .i64 k]] w fun e w' => e = .returned (.agg #[.int .i64 kd, .int .u64 (y : Int), .slice A n c, .slice B m d, .int .i64 nn, .int .i64 mo]) ∧ Below w.heap.size w w' := by
  go_enter Try.func61, Try.ntmps61
  go_wp2
  have d3 := heap_alloc_new ((w.alloc (.cells #[.int .i64 kd, .int .u64 (y : Int), .slice A n c, .slice B m d, .int .i64 nn, .int .i64 mo] 70)).alloc (.cells #[.int .u64 (y : Int), .slice A n c, .slice B m d, .int .i64 k] 85)) (.cells #[.int .i64 kd, .int .u64 (y : Int), .slice A n c, .slice B m d, .int .i64 nn, .int .i64 mo] 70)
  rw [World.size_alloc, World.size_alloc] at d3
  refine bodyPost_ret (results_cell_row (P := Try.prog) rfl _ _ _ _ _ _ _ (by rfl) d3 Try.underlying70 rfl (by kernel_rfl)) rfl ?_
  exact ⟨by simp, W3b ..⟩
end Go.Proofs.Ytdooabbeolfgfaa
