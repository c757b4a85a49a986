import Derived.Test.YtpjmbhhfpoamnaaRefF
import Derived.Laws.Rows
import Derived.Laws.ResultCell
set_option linter.unusedVariables false
set_option linter.unusedSimpArgs false
namespace Go.Proofs.Ytpjmbhhfpoamnaa
open Go.RowKit
theorem heap_alloc2 (w : World) (o1 o2 : Obj) : ((w.alloc o1).alloc o2).heap[w.heap.size + 1]? = some o2 := by
  have := heap_alloc_new (w.alloc o1) o2
  rwa [show (w.alloc o1).heap.size = w.heap.size + 1 by simp] at this
theorem results_c3 {P : Program} {fn : Func} {p u v : Tmp} {ty : TypeId} (h : fn.results = #[.cell p ty, .tmp u, .tmp v]) (tmps : Array Value) (w : World) (g : Nat) (t : TypeId) (cs : Array Value) (fr : Nat × Nat) (d : TypeDesc)
    (hp : tmps.getD p undef = .pointer (some ⟨g, 0, none⟩)) (hg : w.heap[g]? = some (.cells cs t fr))
    (hu : P.underlying ty = some d) (hd : (match d with | .struct _ | .array _ _ => true | _ => false) = true) (hi : (P.info? ty).map (·.size) = some cs.size) :
    (results fn tmps).run P w = .ok (.tuple #[.agg cs, tmps.getD u undef, tmps.getD v undef]) w := by
  have hp' : tmps[p]?.getD undef = .pointer (some ⟨g, 0, none⟩) := by simpa using hp
  simp [results, h, hp', asAddr, run_loadVar_row w g t ty cs fr d hg hu hd hi]
theorem results_c2 {P : Program} {fn : Func} {p u : Tmp} {ty : TypeId} (h : fn.results = #[.cell p ty, .tmp u]) (tmps : Array Value) (w : World) (g : Nat) (t : TypeId) (cs : Array Value) (fr : Nat × Nat) (d : TypeDesc)
    (hp : tmps.getD p undef = .pointer (some ⟨g, 0, none⟩)) (hg : w.heap[g]? = some (.cells cs t fr))
    (hu : P.underlying ty = some d) (hd : (match d with | .struct _ | .array _ _ => true | _ => false) = true) (hi : (P.info? ty).map (·.size) = some cs.size) :
    (results fn tmps).run P w = .ok (.tuple #[.agg cs, tmps.getD u undef]) w := by
  have hp' : tmps[p]?.getD undef = .pointer (some ⟨g, 0, none⟩) := by simpa using hp
  simp [results, h, hp', asAddr, run_loadVar_row w g t ty cs fr d hg hu hd hi]
theorem below2 (w : World) (o1 o2 : Obj) : Below w.heap.size w ((w.alloc o1).alloc o2) := ((Below.refl _ w).alloc (Nat.le_refl _) _).alloc (by simp) _
set_option maxRecDepth 100000 in
set_option maxHeartbeats 1600000 in
theorem ref_with0 (w : World) (z cnt wr : Int) (A B C : Option Addr) (n m q a b c : Nat) (dn : Bool) (D : Option Addr) (k d : Nat) :
    Calls Try.prog 121 #[.agg #[.int .i64 z, .slice A n a, .slice B m b, .slice C q c, .int .i64 cnt, .int .i64 wr, .bool dn], .int .i64 0, .slice D k d] w fun e w' => e = .returned (.agg #[.int .i64 z, .slice D k d, .slice B m b, .slice C q c, .int .i64 cnt, .int .i64 wr, .bool dn]) ∧ Below w.heap.size w w' := by
  go_enter Try.func121, Try.ntmps121
  go_wp2
  refine bodyPost_ret (results_cell_row (P := Try.prog) rfl _ _ _ _ _ _ _ (by rfl) (heap_alloc2 _ _ _) Try.underlying37 rfl (by kernel_rfl)) rfl ?_
  exact ⟨rfl, below2 _ _ _⟩
set_option maxRecDepth 100000 in
set_option maxHeartbeats 1600000 in
theorem ref_with1 (w : World) (z cnt wr : Int) (A B C : Option Addr) (n m q a b c : Nat) (dn : Bool) (D : Option Addr) (k d : Nat) (i : Int) (hi : i ≠ 0) :
    Calls Try.prog 121 #[.agg #[.int .i64 z, .slice A n a, .slice B m b, .slice C q c, .int .i64 cnt, .int .i64 wr, .bool dn], .int .i64 i, .slice D k d] w fun e w' => e = .returned (.agg #[.int .i64 z, .slice A n a, .slice D k d, .slice C q c, .int .i64 cnt, .int .i64 wr, .bool dn]) ∧ Below w.heap.size w w' := by
  have q0 : (i == 0) = false := by simpa using hi
  clear hi
  go_enter Try.func121, Try.ntmps121
  go_wp2
  refine bodyPost_ret (results_cell_row (P := Try.prog) rfl _ _ _ _ _ _ _ (by rfl) (heap_alloc2 _ _ _) Try.underlying37 rfl (by kernel_rfl)) rfl ?_
  exact ⟨rfl, below2 _ _ _⟩
theorem ECr : ElemT Try.prog 35 187 (.agg #[.int .i64 0, .int .i64 0]) 2 16 := ⟨Try.underlying35, by kernel_rfl, rfl, by decide⟩
theorem crashL_get : ∀ (l : List (Nat × Nat)) (i : Nat) (h : i < l.length), (crashL l)[i * 2]? = some (.int .i64 (l[i].1 : Int)) ∧ (crashL l)[i * 2 + 1]? = some (.int .i64 (l[i].2 : Int))
  | [], i, h => by simp at h
  | c :: l, 0, h => by rw [crashL_cons]; exact ⟨rfl, rfl⟩
  | c :: l, i + 1, h => by
    have := crashL_get l i (by simpa using h)
    rw [crashL_cons, show (i + 1) * 2 = i * 2 + 1 + 1 by omega]
    simpa using this
theorem crashL_snoc (l : List (Nat × Nat)) (c : Nat × Nat) : crashL (l ++ [c]) = crashL l ++ [.int .i64 (c.1 : Int), .int .i64 (c.2 : Int)] := by simp [crashL]
theorem crashL_take (l : List (Nat × Nat)) (i : Nat) (h : i < l.length) : crashL (l.take (i + 1)) = crashL (l.take i) ++ [.int .i64 (l[i].1 : Int), .int .i64 (l[i].2 : Int)] := by
  rw [List.take_succ_eq_append_getElem h, crashL_snoc]
/-- a crash at its place -/
theorem Sl.crash {w : World} {b off n c : Nat} {l : List (Nat × Nat)} (h : Sl w 2 (some ⟨b, off, none⟩) n c (crashL l)) (i : Nat) (hi : i < l.length) : w.cell? ⟨b, off + i * 2, none⟩ = some (.int .i64 (l[i].1 : Int)) ∧ w.cell? ⟨b, off + i * 2 + 1, none⟩ = some (.int .i64 (l[i].2 : Int)) := by
  obtain ⟨h1, h2⟩ := crashL_get l i hi
  obtain ⟨h3, h4⟩ := List.getElem?_eq_some_iff.1 h1
  obtain ⟨h5, h6⟩ := List.getElem?_eq_some_iff.1 h2
  have a1 := h.cell (i * 2) h3
  have a2 := h.cell (i * 2 + 1) h5
  rw [h4] at a1
  rw [h6, ← Nat.add_assoc] at a2
  exact ⟨a1, a2⟩
theorem heap_alloc1 (w : World) (o1 o2 : Obj) : ((w.alloc o1).alloc o2).heap[w.heap.size]? = some o1 := heap_below (heap_alloc_new w o1) ((Below.refl _ _).alloc (Nat.le_refl _) _)
theorem set7 {w : World} {g : Nat} {T : TypeId} {u0 u1 u2 u3 u4 u5 u6 : Value} (v0 v1 v2 v3 v4 v5 v6 : Value) (h : w.heap[g]? = some (.cells #[u0, u1, u2, u3, u4, u5, u6] T (0, 0))) :
    (((((((w.setCell ⟨g, 0, none⟩ v0).setCell ⟨g, 1, none⟩ v1).setCell ⟨g, 2, none⟩ v2).setCell ⟨g, 3, none⟩ v3).setCell ⟨g, 4, none⟩ v4).setCell ⟨g, 5, none⟩ v5).setCell ⟨g, 6, none⟩ v6).heap[g]? = some (.cells #[v0, v1, v2, v3, v4, v5, v6] T (0, 0)) ∧
    Keep [g] w (((((((w.setCell ⟨g, 0, none⟩ v0).setCell ⟨g, 1, none⟩ v1).setCell ⟨g, 2, none⟩ v2).setCell ⟨g, 3, none⟩ v3).setCell ⟨g, 4, none⟩ v4).setCell ⟨g, 5, none⟩ v5).setCell ⟨g, 6, none⟩ v6) := by
  have e0 : (w.setCell ⟨g, 0, none⟩ v0).heap[g]? = some (.cells #[v0, u1, u2, u3, u4, u5, u6] T (0, 0)) := heap_setCell_same _ g 0 _ _ v0 h
  have e1 : ((w.setCell ⟨g, 0, none⟩ v0).setCell ⟨g, 1, none⟩ v1).heap[g]? = some (.cells #[v0, v1, u2, u3, u4, u5, u6] T (0, 0)) := heap_setCell_same _ g 1 _ _ v1 e0
  have e2 : (((w.setCell ⟨g, 0, none⟩ v0).setCell ⟨g, 1, none⟩ v1).setCell ⟨g, 2, none⟩ v2).heap[g]? = some (.cells #[v0, v1, v2, u3, u4, u5, u6] T (0, 0)) := heap_setCell_same _ g 2 _ _ v2 e1
  have e3 : ((((w.setCell ⟨g, 0, none⟩ v0).setCell ⟨g, 1, none⟩ v1).setCell ⟨g, 2, none⟩ v2).setCell ⟨g, 3, none⟩ v3).heap[g]? = some (.cells #[v0, v1, v2, v3, u4, u5, u6] T (0, 0)) := heap_setCell_same _ g 3 _ _ v3 e2
  have e4 : (((((w.setCell ⟨g, 0, none⟩ v0).setCell ⟨g, 1, none⟩ v1).setCell ⟨g, 2, none⟩ v2).setCell ⟨g, 3, none⟩ v3).setCell ⟨g, 4, none⟩ v4).heap[g]? = some (.cells #[v0, v1, v2, v3, v4, u5, u6] T (0, 0)) := heap_setCell_same _ g 4 _ _ v4 e3
  have e5 : ((((((w.setCell ⟨g, 0, none⟩ v0).setCell ⟨g, 1, none⟩ v1).setCell ⟨g, 2, none⟩ v2).setCell ⟨g, 3, none⟩ v3).setCell ⟨g, 4, none⟩ v4).setCell ⟨g, 5, none⟩ v5).heap[g]? = some (.cells #[v0, v1, v2, v3, v4, v5, u6] T (0, 0)) := heap_setCell_same _ g 5 _ _ v5 e4
  have e6 : (((((((w.setCell ⟨g, 0, none⟩ v0).setCell ⟨g, 1, none⟩ v1).setCell ⟨g, 2, none⟩ v2).setCell ⟨g, 3, none⟩ v3).setCell ⟨g, 4, none⟩ v4).setCell ⟨g, 5, none⟩ v5).setCell ⟨g, 6, none⟩ v6).heap[g]? = some (.cells #[v0, v1, v2, v3, v4, v5, v6] T (0, 0)) := heap_setCell_same _ g 6 _ _ v6 e5
  refine ⟨e6, ?_⟩
  exact (((((((Keep.refl [g] w).setCell (p := ⟨g, 0, none⟩) (.inl (by simp)) _).setCell (p := ⟨g, 1, none⟩) (.inl (by simp)) _).setCell (p := ⟨g, 2, none⟩) (.inl (by simp)) _).setCell (p := ⟨g, 3, none⟩) (.inl (by simp)) _).setCell (p := ⟨g, 4, none⟩) (.inl (by simp)) _).setCell (p := ⟨g, 5, none⟩) (.inl (by simp)) _).setCell (p := ⟨g, 6, none⟩) (.inl (by simp)) _
/-- the document's flash behind one write more -/
def StruckR (w : World) (z : Nat) (A B C : Option Addr) (n m a b c : Nat) (s : FSt) (e : Ending) (w' : World) : Prop :=
  ∃ C' c', e = .returned (.tuple #[.agg #[.int .i64 z, .slice A n a, .slice B m b, .slice C' (strikeF s).armed.length c', .int .i64 (strikeF s).count, .int .i64 (strikeF s).writes, .bool (strikeF s).down], .bool (struckF s), .int .i64 (keepF s)]) ∧ Sl w' 2 C' (strikeF s).armed.length c' (crashL (strikeF s).armed) ∧ ((C' = C ∧ c' = c ∧ (strikeF s).armed = s.armed) ∨ ∀ ad, C' = some ad → w.heap.size ≤ ad.block) ∧ Below w.heap.size w w'
set_option maxRecDepth 100000 in
set_option maxHeartbeats 1600000 in
theorem ref_struck (w : World) (s : FSt) (hk : FOk s) (z : Nat) (A B C : Option Addr) (n m a b c : Nat) (hC : Sl w 2 C s.armed.length c (crashL s.armed)) :
    Calls Try.prog 120 #[.agg #[.int .i64 z, .slice A n a, .slice B m b, .slice C s.armed.length c, .int .i64 s.count, .int .i64 s.writes, .bool s.down]] w (StruckR w z A B C n m a b c s) := by
  have hwr := hk.writes
  have hct := hk.count
  have har := hk.armed
  obtain ⟨wrt, hwe⟩ : ∃ x, x = s.writes := ⟨_, rfl⟩
  obtain ⟨cnt, hce⟩ : ∃ x, x = s.count := ⟨_, rfl⟩
  obtain ⟨dn, hde⟩ : ∃ x, x = s.down := ⟨_, rfl⟩
  have HE := Lib.hid (And.intro hwe (And.intro hce hde))
  rw [← hwe] at hwr
  rw [← hce] at hct
  rw [← hwe, ← hce, ← hde]
  clear hwe hce hde hk
  cases harm : s.armed with
  | nil =>
    have HR : Hid (strikeF s = { s with writes := wrt + 1 } ∧ struckF s = false ∧ keepF s = 0) := Lib.hid (by simp [strikeF, struckF, keepF, harm, HE.out.1])
    rw [harm] at hC har
    have HC := Lib.hid hC
    have HA := Lib.hid harm
    clear hC harm
    go_enter Try.func120, Try.ntmps120
    go_wp2
    refine bodyPost_ret (results_c3 (P := Try.prog) rfl _ _ _ _ _ _ _ (by rfl) (heap_alloc2 _ _ _) Try.underlying37 rfl (by kernel_rfl)) rfl ?_
    unfold StruckR
    rw [HR.out.1, HR.out.2.1, HR.out.2.2]
    refine ⟨C, c, ?_, ?_, .inl ⟨rfl, rfl, rfl⟩, below2 _ _ _⟩
    · simp only [HA.out, ← HE.out.2.1, ← HE.out.2.2]
      rfl
    · rw [HA.out]
      exact HC.out.below (below2 _ _ _)
  | cons c0 r =>
    obtain ⟨c1, c2⟩ := c0
    rw [harm] at hC har
    obtain ⟨b0, off, rfl⟩ := hC.form (by simp)
    obtain ⟨g0, g1⟩ := hC.crash 0 (by simp)
    simp only [Nat.zero_mul, Nat.add_zero, List.getElem_cons_zero] at g0 g1
    have hcc := hC.le; have hcm := hC.max
    obtain ⟨q, hq⟩ : ∃ q, q = r.length := ⟨_, rfl⟩
    have HQ := Lib.hid hq
    rw [show ((c1, c2) :: r).length = q + 1 by rw [hq]; rfl] at hC hcc har ⊢
    have HC := Lib.hid hC
    have HA := Lib.hid harm
    clear hC harm hq
    obtain ⟨W1, hW1⟩ : ∃ W1, W1 = (w.alloc (.cells #[.int .i64 z, .slice A n a, .slice B m b, .slice (some ⟨b0, off, none⟩) (q + 1) c, .int .i64 ((cnt : Int) + 1), .int .i64 ((wrt : Int) + 1), .bool dn] 37)).alloc (.cells #[.int .i64 0, .slice none 0 0, .slice none 0 0, .slice none 0 0, .int .i64 0, .int .i64 0, .bool false] 37) := ⟨_, rfl⟩
    have hb1 : Below w.heap.size w W1 := by rw [hW1]; exact below2 _ _ _
    have x0 : W1.heap[w.heap.size]? = some (.cells #[.int .i64 z, .slice A n a, .slice B m b, .slice (some ⟨b0, off, none⟩) (q + 1) c, .int .i64 ((cnt : Int) + 1), .int .i64 ((wrt : Int) + 1), .bool dn] 37 (0, 0)) := by rw [hW1]; exact heap_alloc1 _ _ _
    have x1 : W1.heap[w.heap.size + 1]? = some (.cells #[.int .i64 0, .slice none 0 0, .slice none 0 0, .slice none 0 0, .int .i64 0, .int .i64 0, .bool false] 37 (0, 0)) := by rw [hW1]; exact heap_alloc2 _ _ _
    have k0 := cell_below g0 hb1
    have k1 := cell_below g1 hb1
    have m0 : W1.cell? ⟨w.heap.size, 0, none⟩ = some (.int .i64 z) := box_cell x0 0 _ rfl
    have m1 : W1.cell? ⟨w.heap.size, 1, none⟩ = some (.slice A n a) := box_cell x0 1 _ rfl
    have m2 : W1.cell? ⟨w.heap.size, 2, none⟩ = some (.slice B m b) := box_cell x0 2 _ rfl
    have m3 : W1.cell? ⟨w.heap.size, 3, none⟩ = some (.slice (some ⟨b0, off, none⟩) (q + 1) c) := box_cell x0 3 _ rfl
    have m4 : W1.cell? ⟨w.heap.size, 4, none⟩ = some (.int .i64 ((cnt : Int) + 1)) := box_cell x0 4 _ rfl
    have m5 : W1.cell? ⟨w.heap.size, 5, none⟩ = some (.int .i64 ((wrt : Int) + 1)) := box_cell x0 5 _ rfl
    have m6 : W1.cell? ⟨w.heap.size, 6, none⟩ = some (.bool dn) := box_cell x0 6 _ rfl
    have r0 : W1.cell? ⟨w.heap.size + 1, 0, none⟩ = some (.int .i64 0) := box_cell x1 0 _ rfl
    have r1 : W1.cell? ⟨w.heap.size + 1, 1, none⟩ = some (.slice none 0 0) := box_cell x1 1 _ rfl
    have r2 : W1.cell? ⟨w.heap.size + 1, 2, none⟩ = some (.slice none 0 0) := box_cell x1 2 _ rfl
    have r3 : W1.cell? ⟨w.heap.size + 1, 3, none⟩ = some (.slice none 0 0) := box_cell x1 3 _ rfl
    have r4 : W1.cell? ⟨w.heap.size + 1, 4, none⟩ = some (.int .i64 0) := box_cell x1 4 _ rfl
    have r5 : W1.cell? ⟨w.heap.size + 1, 5, none⟩ = some (.int .i64 0) := box_cell x1 5 _ rfl
    have r6 : W1.cell? ⟨w.heap.size + 1, 6, none⟩ = some (.bool false) := box_cell x1 6 _ rfl
    have z0 := box_free x1 0
    have z1 := box_free x1 1
    have z2 := box_free x1 2
    have z3 := box_free x1 3
    have z4 := box_free x1 4
    have z5 := box_free x1 5
    have z6 := box_free x1 6
    have HX := Lib.hid (And.intro hb1 (And.intro x0 x1))
    clear hb1 x0 x1 g0 g1
    by_cases hlt : cnt + 1 < c1
    · have i1 : (cnt : Int) + 1 < (c1 : Int) := by omega
      have HR : Hid (strikeF s = { s with writes := wrt + 1, count := cnt + 1 } ∧ struckF s = false ∧ keepF s = 0) := Lib.hid (by
        have := strike_no HA.out (by rw [← HE.out.2.1]; exact hlt)
        rw [this.1, this.2.1, this.2.2, ← HE.out.1, ← HE.out.2.1]; exact ⟨rfl, rfl, rfl⟩)
      clear hlt
      go_enter Try.func120, Try.ntmps120
      go_wp2_with fail
      rw [← hW1]
      clear hW1
      go_quiet (fail)
      go_wp2
      have s7 := set7 (w := W1.drewN nq) (.int .i64 z) (.slice A n a) (.slice B m b) (.slice (some ⟨b0, off, none⟩) (q + 1) c) (.int .i64 ((cnt : Int) + 1)) (.int .i64 ((wrt : Int) + 1)) (.bool dn) HX.out.2.2
      refine bodyPost_ret (results_c3 (P := Try.prog) rfl _ _ _ _ _ _ _ (by rfl) s7.1 Try.underlying37 rfl (by kernel_rfl)) rfl ?_
      have hb2 : Below w.heap.size w (W1.drewN nq) := below_drewN HX.out.1 nq
      have hb3 := s7.2.below hb2 hb2.size (fun x hx => by simp at hx; omega)
      unfold StruckR
      rw [HR.out.1, HR.out.2.1, HR.out.2.2]
      refine ⟨some ⟨b0, off, none⟩, c, ?_, ?_, .inl ⟨rfl, rfl, rfl⟩, hb3⟩
      · simp only [HA.out, ← HE.out.2.2, List.length_cons, ← HQ.out]
        rfl
      · simp only [HA.out, List.length_cons, ← HQ.out]
        exact HC.out.below hb3
    · have i1 : decide ((cnt : Int) + 1 < (c1 : Int)) = false := decide_eq_false (by omega)
      have d15 : (((q : Int) + 1) == 0) = false := by simp; omega
      have HR : Hid (strikeF s = { s with writes := wrt + 1, armed := r, count := 0, down := true } ∧ struckF s = true ∧ keepF s = c2) := Lib.hid (by
        have := strike_yes HA.out (by rw [← HE.out.2.1]; exact hlt)
        rw [this.1, this.2.1, this.2.2, ← HE.out.1]; exact ⟨rfl, rfl, rfl⟩)
      clear hlt
      go_enter Try.func120, Try.ntmps120
      go_wp2_with fail
      rw [← hW1]
      clear hW1
      go_quiet (fail)
      go_wp2
      have HB1 := Lib.hid (below_drewN HX.out.1 nq)
      obtain ⟨W2, hW2⟩ : ∃ W2, W2 = W1.drewN nq := ⟨_, rfl⟩
      have HX2 : Hid (Below w.heap.size w W2 ∧ Below W1.heap.size W1 W2) := Lib.hid (by rw [hW2]; exact ⟨HB1.out, below_drewN (Below.refl _ _) nq⟩)
      rw [← hW2]
      clear hW2 HB1
      go_loopw [6, 7] (fun o i wr => ∃ (k : Nat) (v : Value), 1 ≤ k ∧ k ≤ q + 1 ∧ i = .int .i64 k ∧ o = v ∧ wr.ownsRow W2.heap.size 187 2 v (k - 1) (crashL (r.take (k - 1))) ∧ Below W2.heap.size W2 wr) (fun _ i _ => q + 1 - (intOf i).toNat)
      case atStart => exact ⟨1, _, by omega, by omega, rfl, rfl, World.ownsRow_nil .., Below.refl _ _⟩
      case round =>
        obtain ⟨k, v, hk1, hk, rfl, rfl, hst, hbl⟩ := hrel
        have hbw := bthen HX2.out.2 hbl
        have l3 := cell_below m3 hbw
        by_cases hlt : k < q + 1
        · have i3 : (k : Int) < (q : Int) + 1 := by omega
          have i4 : (0 : Int) ≤ (k : Int) := by omega
          have hjr : k - 1 < r.length := by rw [← HQ.out]; omega
          have hcr := (HC.out.below (bthen HX2.out.1 hbl)).crash k (by simp; omega)
          have HT := Lib.hid (crashL_take r (k - 1) hjr)
          have eg : ((c1, c2) :: r)[k]'(by simp; omega) = r[k - 1] := by
            obtain ⟨j, rfl⟩ : ∃ j, k = j + 1 := ⟨k - 1, by omega⟩
            rfl
          rw [eg] at hcr
          generalize r[k - 1] = cj at hcr HT
          obtain ⟨t0, t1⟩ := hcr
          rw [show k - 1 + 1 = k by omega] at HT
          clear eg
          go_wp2_with (first | (at_builtin; refine Stopped.out ?_) | (at_make; refine Stopped.out ?_))
          refine Stopped.mk (ap_own ECr rfl (.tmp 42) (.tmp 48) rfl rfl (own_below hst ((Below.refl _ wr).alloc (Nat.le_refl _) _)) rfl (Sl.fresh wr [.int .i64 (cj.1 : Int), .int .i64 (cj.2 : Int)] 187 1 2 rfl (by decide)) (by intro u hu; simp at hu; rcases hu with rfl | rfl <;> rfl) (by simp only [maxLen]; omega) (by omega) (by have := hbl.size; simp; omega) ?_)
          intro v2 w2 hst2 hg2 _
          rw [show k - 1 + 1 = k by omega] at hst2
          have HN := Lib.hid (And.intro hst2 ((hbl.alloc hbl.size _).grown hg2 (by have := hbl.size; simp; omega) (fun k hk => (hst.lt k hk).1)))
          clear hst hbl hst2 hg2 l3 t0 t1 hbw
          go_wp2
          first | go_roundw | refine ⟨?rel, ?measure⟩
          case rel => exact ⟨k + 1, v2, by omega, by omega, by go_num, rfl, by rw [Nat.add_sub_cancel, HT.out]; exact HN.out.1, HN.out.2⟩
          case measure => simp [intOf]; omega
        · have HJ := Lib.hid (show k - 1 = q by omega)
          rw [HJ.out] at hst
          have e9 : r.take q = r := List.take_of_length_le (by rw [← HQ.out]; exact Nat.le_refl _)
          rw [e9] at hst
          have hbz := bthen HX2.out.1 hbl
          have b0' := heap_below HX.out.2.1 hbw
          have b1' := heap_below HX.out.2.2 hbw
          have n0 := cell_below m0 hbw
          have n1 := cell_below m1 hbw
          have n2 := cell_below m2 hbw
          have n4 := cell_below m4 hbw
          have n5 := cell_below m5 hbw
          have n6 := cell_below m6 hbw
          have f3 := box_free b0' 3
          have f4 := box_free b0' 4
          have f6 := box_free b0' 6
          have y0 := cell_below r0 hbw
          have y1 := cell_below r1 hbw
          have y2 := cell_below r2 hbw
          have y3 := cell_below r3 hbw
          have y4 := cell_below r4 hbw
          have y5 := cell_below r5 hbw
          have y6 := cell_below r6 hbw
          have g0 := box_free b1' 0
          have g1 := box_free b1' 1
          have g2 := box_free b1' 2
          have g3 := box_free b1' 3
          have g4 := box_free b1' 4
          have g5 := box_free b1' 5
          have g6 := box_free b1' 6
          have HZ := Lib.hid (And.intro hst (And.intro hbz (And.intro b0' b1')))
          obtain ⟨C', c', rfl, _, _⟩ := own_sl hst
          clear hst hbl hbz b0' b1' hbw m0 m1 m2 m3 m4 m5 m6 r0 r1 r2 r3 r4 r5 r6 z0 z1 z2 z3 z4 z5 z6 k0 k1
          go_wp2
          have kb : Keep [w.heap.size] wr (((wr.setCell ⟨w.heap.size, 3, none⟩ (.slice C' q c')).setCell ⟨w.heap.size, 4, none⟩ (.int .i64 0)).setCell ⟨w.heap.size, 6, none⟩ (.bool true)) :=
            (((Keep.refl [w.heap.size] wr).setCell (p := ⟨w.heap.size, 3, none⟩) (.inl (by simp)) _).setCell (p := ⟨w.heap.size, 4, none⟩) (.inl (by simp)) _).setCell (p := ⟨w.heap.size, 6, none⟩) (.inl (by simp)) _
          have s7 := set7 (.int .i64 z) (.slice A n a) (.slice B m b) (.slice C' q c') (.int .i64 0) (.int .i64 ((wrt : Int) + 1)) (.bool true) (kb.heap HZ.out.2.2.2 (by simp))
          refine bodyPost_ret (results_c3 (P := Try.prog) rfl _ _ _ _ _ _ _ (by rfl) s7.1 Try.underlying37 rfl (by kernel_rfl)) rfl ?_
          have hbx := kb.below HZ.out.2.1 HZ.out.2.1.size (fun x hx => by simp at hx; omega)
          have hb3 := s7.2.below hbx hbx.size (fun x hx => by simp at hx; omega)
          unfold StruckR
          rw [HR.out.1, HR.out.2.1, HR.out.2.2]
          refine ⟨C', c', ?_, ?_, .inr (fun ad e => Nat.le_trans HX2.out.1.size ((own_sl' HZ.out.1).2.2 ad e).1), hb3⟩
          · simp only [← HQ.out]
            rfl
          · simp only [← HQ.out]
            have hlt2 := (own_sl' HZ.out.1).2.2
            refine (own_sl' HZ.out.1).2.1.keep ((kb.mono (M' := [w.heap.size, w.heap.size + 1]) (by intro x hx; simp at hx; simp [hx])).trans (s7.2.mono (by intro x hx; simp at hx; simp [hx]))) (fun ad e hx => ?_)
            have h1 := (hlt2 ad e).1
            have h2 := cell_lt (box_cell HX.out.2.2 0 _ rfl)
            have h3 := HX2.out.2.size
            simp at hx h2
            omega
end Go.Proofs.Ytpjmbhhfpoamnaa
