import Derived.Test.YtpjmbhhfpoamnaaFlash10
import Derived.Test.YtpjmbhhfpoamnaaMany
import Derived.Deep.RegionLaw
set_option linter.unusedVariables false
set_option linter.unusedSimpArgs false
namespace Go.Proofs.Ytpjmbhhfpoamnaa
open Go.RowKit
/-! ### a write, crashes and all -/
/-- the flash behind one write more -/
def strikeF (s : FSt) : FSt := match s.armed with
  | [] => { s with writes := s.writes + 1 }
  | c :: r => if s.count + 1 < c.1 then { s with writes := s.writes + 1, count := s.count + 1 } else { s with writes := s.writes + 1, armed := r, count := 0, down := true }
def struckF (s : FSt) : Bool := match s.armed with
  | [] => false
  | c :: _ => !decide (s.count + 1 < c.1)
def keepF (s : FSt) : Nat := match s.armed with
  | [] => 0
  | c :: _ => if s.count + 1 < c.1 then 0 else c.2
theorem crashL_cons (c : Nat × Nat) (r : List (Nat × Nat)) : crashL (c :: r) = .int .i64 (c.1 : Int) :: .int .i64 (c.2 : Int) :: crashL r := rfl
theorem crashL_len (r : List (Nat × Nat)) : (crashL r).length = r.length * 2 := by
  induction r with
  | nil => rfl
  | cons c r ih => rw [crashL_cons]; simp [ih]; omega
theorem crashL_one (r : List (Nat × Nat)) : ∀ u ∈ crashL r, u.oneCell' = true := by
  intro u hu
  unfold crashL at hu
  simp at hu
  obtain ⟨a, b, _, rfl | rfl⟩ := hu <;> rfl
theorem EC : ElemT Try.prog 126 138 (.agg #[.int .i64 0, .int .i64 0]) 2 16 := ⟨Try.underlying126, by kernel_rfl, rfl, by decide⟩
theorem clear_one (w : World) (g o : Nat) (c : Nat) (ty : TypeId) (hc : ∀ j, j < 2 → (w.cell? ⟨g, o + j, none⟩).isSome = true) (hf : ∀ j, j < 2 → w.frozen? ⟨g, o + j, none⟩ = false) :
    (Builtin.clear_ #[126] ty #[.slice (some ⟨g, o, none⟩) 1 c]).run Try.prog w = .ok (.tuple #[]) (w.setCells g o [.int .i64 0, .int .i64 0]) := by
  have hz : ∀ w : World, (zeroValue 138).run Try.prog w = .ok (.agg #[.int .i64 0, .int .i64 0]) w := fun w => by kernel_rfl
  have hst := run_storeCells_cells (P := Try.prog) g o [.int .i64 0, .int .i64 0] 0 w (by simpa using hc) (by simpa using hf) (by intro v hv; simp at hv; rw [hv]; rfl)
  simp only [Nat.add_zero] at hst
  simp [Builtin.clear_, run_underlying Try.underlying126, hz, Value.cells, Builtin.zeroCells]
  rw [show (List.map (fun i => [Value.int IntKind.i64 0, Value.int IntKind.i64 0][i % 2]?.getD default) (List.range 2)) = [.int .i64 0, .int .i64 0] from rfl, hst]
  rfl
def setL (xs : List Value) : Nat → List Value → List Value
  | _, [] => xs
  | o, v :: vs => setL (xs.set o v) (o + 1) vs
theorem setL_out : ∀ (vs xs : List Value) (o : Nat), xs.length ≤ o → setL xs o vs = xs
  | [], xs, o, _ => rfl
  | v :: vs, xs, o, h => by rw [setL, List.set_eq_of_length_le h]; exact setL_out vs xs (o + 1) (by omega)
theorem setL_in : ∀ (vs xs : List Value) (o : Nat), o + vs.length ≤ xs.length → setL xs o vs = xs.take o ++ vs ++ xs.drop (o + vs.length)
  | [], xs, o, h => by simp [setL]
  | v :: vs, xs, o, h => by
    simp only [List.length_cons] at h
    rw [setL, setL_in vs (xs.set o v) (o + 1) (by simp; omega)]
    rw [List.take_set, List.drop_set_of_lt (by omega), List.take_succ_eq_append_getElem (by omega), List.set_append_right _ _ (by simp; omega)]
    simp
    rw [Nat.min_eq_left (by omega)]
    simp
    congr 1
    omega
theorem own_setCells {base e size g n cap : Nat} : ∀ (vs : List Value) (o : Nat) (w : World) (xs : List Value), w.ownsRow base e size (.slice (some ⟨g, 0, none⟩) n cap) n xs → (w.setCells g o vs).ownsRow base e size (.slice (some ⟨g, 0, none⟩) n cap) n (setL xs o vs)
  | [], o, w, xs, h => h
  | v :: vs, o, w, xs, h => own_setCells vs (o + 1) _ _ (h.stored o v).1
theorem keep_setCells {M : List Nat} {g : Nat} (hg : g ∈ M) : ∀ (vs : List Value) (o : Nat) (w w0 : World), Keep M w0 w → Keep M w0 (w.setCells g o vs)
  | [], o, w, w0, h => h
  | v :: vs, o, w, w0, h => keep_setCells hg vs (o + 1) _ w0 (h.setCell (.inl hg) v)
theorem own_less {w : World} {base e size g n m cap : Nat} {xs : List Value} (h : w.ownsRow base e size (.slice (some ⟨g, 0, none⟩) n cap) n xs) (hm : m ≤ n) : w.ownsRow base e size (.slice (some ⟨g, 0, none⟩) m cap) m (xs.take (m * size)) := by
  rcases h.2 with ⟨h', _⟩ | ⟨g', cap', cur, h', hb, hg, h1, h2, h3, h4⟩
  · cases h'
  · injection h' with e1 e2 e3
    injection e1 with e1
    injection e1 with e1 _ _
    subst e1; subst e3
    have hle : m * size ≤ n * size := Nat.mul_le_mul_right _ hm
    refine ⟨by rw [List.length_take, h.1]; omega, .inr ⟨g, cap, cur, rfl, hb, hg, by omega, h2, h3, ?_⟩⟩
    rw [← h4, List.take_take, Nat.min_eq_left hle]
set_option maxRecDepth 100000 in
set_option maxHeartbeats 1600000 in
/-- slices.Delete of the first crash -/
theorem crash_Delete (w : World) {g cap : Nat} {c : Nat × Nat} {r : List (Nat × Nat)} (h : w.ownsRow 0 138 2 (.slice (some ⟨g, 0, none⟩) (r.length + 1) cap) (r.length + 1) (crashL (c :: r))) (hl : r.length ≤ 100) :
    Calls Try.prog 117 #[.slice (some ⟨g, 0, none⟩) (r.length + 1) cap, .int .i64 0, .int .i64 1] w fun e w' => e = .returned (.slice (some ⟨g, 0, none⟩) r.length cap) ∧
      w'.ownsRow 0 138 2 (.slice (some ⟨g, 0, none⟩) r.length cap) r.length (crashL r) ∧ Keep [g] w w' := by
  obtain ⟨_, s, _⟩ := own_sl' h
  have hc1 := s.le; have hc2 := s.max
  obtain ⟨n, hn⟩ : ∃ n, n = r.length := ⟨_, rfl⟩
  have HN := Lib.hid hn
  rw [← hn] at h hl s hc1 ⊢
  obtain ⟨i0, hi, hz0, hz1, hz2⟩ := info_parts EC.info
  have hfz : ∀ j, w.frozen? ⟨g, j, none⟩ = false := fun j => h.frozenAt j
  have hcl : ∀ j, j < (n + 1) * 2 → ∃ v, w.cell? ⟨g, j, none⟩ = some v := fun j hj => own_cell h j hj
  have H := Lib.hid h
  have hlen : (crashL r).length = n * 2 := by rw [crashL_len, hn]
  have hsrc : ∀ t u, (crashL r)[t]? = some u → w.drew.cell? ((⟨g, 2, none⟩ : Addr).add t) = some u := fun t u hu => by
    have ht : t < n * 2 := by rw [← hlen]; exact (List.getElem?_eq_some_iff.1 hu).1
    have e1 := h.cellAt (2 + t) (by omega)
    rw [crashL_cons] at e1
    have e2 : (⟨g, 2, none⟩ : Addr).add t = ⟨g, 2 + t, none⟩ := by unfold Addr.add; split <;> simp_all
    rw [e2]
    show w.cell? _ = _
    rw [e1, show 2 + t = t + 1 + 1 by omega]
    simpa using hu
  obtain ⟨A, hA, hs1⟩ : ∃ A : Addr, (if cap = 1 then (some (⟨g, 0, none⟩ : Addr)) else some ⟨g, 2, none⟩) = some A ∧ Hid (∀ t u, (crashL r)[t]? = some u → w.drew.cell? (A.add t) = some u) := by
    by_cases hcap : cap = 1
    · refine ⟨_, by rw [if_pos hcap], fun t u hu => ?_⟩
      have : (crashL r).length = 0 := by omega
      have := (List.getElem?_eq_some_iff.1 hu).1
      omega
    · exact ⟨_, by rw [if_neg hcap], hsrc⟩
  have hsp : Hid (∀ j, j < (crashL r).length → (w.drew.cell? ⟨g, 0 + 0 * 2 + j, none⟩).isSome = true ∧ w.drew.frozen? ⟨g, 0 + 0 * 2 + j, none⟩ = false) := Lib.hid (fun j hj => by
    obtain ⟨v, hv⟩ := hcl j (by omega)
    refine ⟨?_, hfz _⟩
    show (w.cell? _).isSome = true
    rw [show 0 + 0 * 2 + j = j by omega, hv]; rfl)
  have hlenH := Lib.hid hlen
  obtain ⟨W1, hW1⟩ : ∃ W1, W1 = w.drew.setCells g (0 + 0 * 2) (crashL r) := ⟨_, rfl⟩
  have O1 : W1.ownsRow 0 138 2 (.slice (some ⟨g, 0, none⟩) (n + 1) cap) (n + 1) (setL (crashL (c :: r)) 0 (crashL r)) := by
    rw [hW1]
    exact own_setCells (crashL r) 0 w.drew _ (own_below h ((Below.refl _ _).drew))
  have K1 : Keep [g] w W1 := by rw [hW1]; exact keep_setCells (by simp) _ _ _ _ ((Keep.refl _ _).drew)
  have hcl2 : ∀ ty, (Builtin.clear_ #[126] ty #[.slice (some ⟨g, n * 2, none⟩) 1 (cap - n)]).run Try.prog W1 = .ok (.tuple #[]) (W1.setCells g (n * 2) [.int .i64 0, .int .i64 0]) := fun ty => clear_one W1 g (n * 2) (cap - n) ty (fun j hj => by
    obtain ⟨v, hv⟩ := own_cell O1 (n * 2 + j) (by omega)
    rw [hv]; rfl) (fun j hj => O1.frozenAt _)
  have hfin : (W1.setCells g (n * 2) [.int .i64 0, .int .i64 0]).ownsRow 0 138 2 (.slice (some ⟨g, 0, none⟩) n cap) n (crashL r) ∧ Keep [g] w (W1.setCells g (n * 2) [.int .i64 0, .int .i64 0]) := by
    refine ⟨?_, keep_setCells (by simp) _ _ _ _ K1⟩
    have h1 := own_less (own_setCells [.int .i64 0, .int .i64 0] (n * 2) W1 _ O1) (Nat.le_succ n)
    have e1 : (setL (crashL (c :: r)) 0 (crashL r)) = crashL r ++ (crashL (c :: r)).drop (n * 2) := by
      rw [setL_in _ _ _ (by rw [crashL_cons]; simp; omega), hlen]
      simp
    have l1 : (crashL (c :: r)).length = n * 2 + 2 := by rw [crashL_cons]; simp [hlen]
    have e2 : (setL (setL (crashL (c :: r)) 0 (crashL r)) (n * 2) [.int .i64 0, .int .i64 0]).take (n * 2) = crashL r := by
      rw [e1, setL_in _ _ _ (by simp [hlen, l1]), List.append_assoc, List.take_append_of_le_length (by simp [hlen, l1]), List.take_take, Nat.min_self, List.take_append_of_le_length (by omega), List.take_of_length_le (by omega)]
    rwa [e2] at h1
  have HF := Lib.hid hfin
  have HW : Hid (W1 = w.drew.setCells g (0 + 0 * 2) (crashL r)) := Lib.hid hW1
  have i1 : (1 : Int) ≤ (n : Int) + 1 := by omega
  clear hfin O1 K1 hW1 hsrc hlen hcl hfz h s hn
  by_cases hcap : cap = 1
  · rw [if_pos hcap] at hA
    obtain rfl := Option.some.inj hA
    clear hA
    obtain rfl : n = 0 := by omega
    subst hcap
    go_enter Try.func117, Try.ntmps117
    go_wp2_with fail
    go_region_held3 (fun w' => True) (trivial) (first | (refine step_append_room rfl (.tmp 22) (.tmp 25) 126 rfl 138 i0 2 Try.underlying126 hi hz1 g 0 0 1 (by simp [Act.eval, Act.put]) ⟨g, 0, none⟩ 0 0 (crashL r) (by simp [Act.eval, Act.put]) hlenH.out hs1.out (crashL_one r) (by omega) hsp.out ?_; rw [← HW.out]))
    all_goals
      have hcl3 : ∀ ty, (Builtin.clear_ #[126] ty #[.slice (some ⟨g, 0, none⟩) 1 1]).run Try.prog W1 = .ok (.tuple #[]) (W1.setCells g 0 [.int .i64 0, .int .i64 0]) := fun ty => hcl2 ty
      clear hcl2
      go_wp2
      go_ret
      exact ⟨rfl, HF.out.1, HF.out.2⟩
  · rw [if_neg hcap] at hA
    obtain rfl := Option.some.inj hA
    clear hA
    go_enter Try.func117, Try.ntmps117
    go_wp2_with fail
    go_region_held3 (fun w' => True) (trivial) (first | (refine step_append_room rfl (.tmp 22) (.tmp 25) 126 rfl 138 i0 2 Try.underlying126 hi hz1 g 0 0 cap (by simp [Act.eval, Act.put]) ⟨g, 2, none⟩ n (cap - 1) (crashL r) (by simp [Act.eval, Act.put]) hlenH.out hs1.out (crashL_one r) (by omega) hsp.out ?_; rw [← HW.out]))
    all_goals
      go_wp2
      go_ret
      exact ⟨rfl, HF.out.1, HF.out.2⟩
/-- a flash's block behind two rows' worth of steps: the crashes turned -/
theorem Fl.struck {w w2 : World} {p : Nat} {G : List Nat} {s : FSt} (h : Fl w p G s) {v0 v1 va va' : Value} {cs : Array Value} (hb : w2.heap[p]? = some (.cells cs 128 (0, 0))) (s' : FSt) (hcs : cs = #[.int .i64 s'.size, v0, v1, va', .int .i64 s'.count, .int .i64 s'.writes, .bool s'.down])
    (h0 : w2.ownsRow 0 5 1 v0 s'.b0.length (s'.b0.map by8)) (h1 : w2.ownsRow 0 5 1 v1 s'.b1.length (s'.b1.map by8)) (ha : w2.ownsRow 0 138 2 va' s'.armed.length (crashL s'.armed))
    (k0 : ∀ k, v0.ownBlock = some k → k ≠ p ∧ k ∈ G ∧ v1.ownBlock ≠ some k ∧ va.ownBlock ≠ some k) (k1 : ∀ k, v1.ownBlock = some k → k ≠ p ∧ k ∈ G ∧ va.ownBlock ≠ some k) (ka : ∀ k, va.ownBlock = some k → k ≠ p ∧ k ∈ G) (hva : va'.ownBlock = va.ownBlock)
    (k : Keep G w w2) : FStep w w2 p G s' := by
  subst hcs
  exact ⟨G, ⟨⟨v0, v1, va', hb, h0, h1, ha, fun j hj => by rw [hva]; exact k0 j hj, fun j hj => by rw [hva]; exact k1 j hj, fun j hj => ka j (hva ▸ hj)⟩, h.mem, fun x hx => Nat.lt_of_lt_of_le (h.lts x hx) k.size⟩, k, fun x hx => .inl hx⟩
set_option maxRecDepth 100000 in
set_option maxHeartbeats 1600000 in
theorem flash_write (w : World) {p : Nat} {G : List Nat} {s : FSt} (h : Fl w p G s) (hw : s.writes ≤ 4611686018427387904) (hc : s.count ≤ 4611686018427387904) (hal : s.armed.length ≤ 100) (hav : ∀ c ∈ s.armed, c.1 ≤ 1000000 ∧ c.2 ≤ 1048576) :
    Calls Try.prog 76 #[.pointer (some ⟨p, 0, none⟩)] w fun e w' => e = .returned (.tuple #[.int .i64 (keepF s), .bool (struckF s)]) ∧ FStep w w' p G (strikeF s) := by
  cases harm : s.armed with
  | nil =>
    refine (flash_write_calm w h harm hw).mono fun e w' ⟨he, k⟩ => ⟨?_, ?_⟩
    · rw [he]; simp [keepF, struckF, harm]
    · simpa [strikeF, harm] using k
  | cons c r =>
    obtain ⟨v0, v1, va, hb, h0, h1, ha, k0, k1, ka⟩ := h.out
    have hm := h.mem
    rw [harm] at ha hal
    obtain ⟨g, cap, rfl, _, _, _⟩ := own_form ha (by simp)
    have hgp := (ka g rfl).1
    have hpg : ¬ p = g := fun e => hgp e.symm
    have cc0 : w.cell? ⟨g, 0, none⟩ = some (.int .i64 (c.1 : Int)) := ha.cellAt 0 (by simp)
    have cc1 : w.cell? ⟨g, 1, none⟩ = some (.int .i64 (c.2 : Int)) := ha.cellAt 1 (by simp; omega)
    obtain ⟨n, hn⟩ : ∃ n, n = r.length := ⟨_, rfl⟩
    rw [show (c :: r).length = n + 1 by rw [hn]; rfl] at hb ha hal
    have c3 : w.cell? ⟨p, 3, none⟩ = some (.slice (some ⟨g, 0, none⟩) (n + 1) cap) := box_cell hb 3 _ rfl
    have c4 : w.cell? ⟨p, 4, none⟩ = some (.int .i64 (s.count : Int)) := box_cell hb 4 _ rfl
    have c5 : w.cell? ⟨p, 5, none⟩ = some (.int .i64 (s.writes : Int)) := box_cell hb 5 _ rfl
    have c6 : w.cell? ⟨p, 6, none⟩ = some (.bool s.down) := box_cell hb 6 _ rfl
    have f3 := box_free hb 3; have f4 := box_free hb 4; have f5 := box_free hb 5; have f6 := box_free hb 6
    have hc1 := hav c (by rw [harm]; simp)
    obtain ⟨c1, c2⟩ := c
    obtain ⟨cnt, hcnt⟩ : ∃ x, x = s.count := ⟨_, rfl⟩
    obtain ⟨wrt, hwrt⟩ : ∃ x, x = s.writes := ⟨_, rfl⟩
    simp only at cc0 cc1 hc1
    have hpl := cell_lt c3
    have hgl := cell_lt cc0
    have HB := Lib.hid (And.intro (And.intro hb (And.intro h0 (And.intro h1 ha))) (And.intro k0 (And.intro k1 ka)))
    have HE := Lib.hid (And.intro (And.intro hcnt hwrt) (And.intro hn harm))
    have HH := Lib.hid h
    rw [← hcnt] at c4 hc; rw [← hwrt] at c5 hw
    clear hb h0 h1 ha k0 k1 ka hcnt hwrt hn harm h hav
    obtain ⟨W3, hW3⟩ : ∃ W3, W3 = ((w.setCell ⟨p, 5, none⟩ (.int .i64 ((wrt : Int) + 1))).setCell ⟨p, 4, none⟩ (.int .i64 ((cnt : Int) + 1))).alloc (.cells #[.int .i64 (c1 : Int), .int .i64 (c2 : Int)] 138) := ⟨_, rfl⟩
    have HS := HB.out
    have b1 := heap_setCell_same w p 5 _ _ (.int .i64 ((wrt : Int) + 1)) HS.1.1
    have b2 := heap_setCell_same _ p 4 _ _ (.int .i64 ((cnt : Int) + 1)) b1
    have k3 : Keep [p] w W3 := by rw [hW3]; exact (((Keep.refl [p] w).setCell (p := ⟨p, 5, none⟩) (.inl (by simp)) _).setCell (p := ⟨p, 4, none⟩) (.inl (by simp)) _).alloc _
    have b3 : W3.heap[p]? = some (.cells #[.int .i64 s.size, v0, v1, .slice (some ⟨g, 0, none⟩) (n + 1) cap, .int .i64 ((cnt : Int) + 1), .int .i64 ((wrt : Int) + 1), .bool s.down] 128 (0, 0)) := by
      rw [hW3]
      refine ((Keep.refl [] _).alloc _).heap ?_ (by simp)
      simpa using b2
    have n0 : W3.cell? ⟨w.heap.size, 0, none⟩ = some (.int .i64 (c1 : Int)) := by
      have := box_cell (heap_alloc_new ((w.setCell ⟨p, 5, none⟩ (.int .i64 ((wrt : Int) + 1))).setCell ⟨p, 4, none⟩ (.int .i64 ((cnt : Int) + 1))) (.cells #[.int .i64 (c1 : Int), .int .i64 (c2 : Int)] 138)) 0 _ rfl
      rw [hW3]; simpa using this
    have n1 : W3.cell? ⟨w.heap.size, 1, none⟩ = some (.int .i64 (c2 : Int)) := by
      have := box_cell (heap_alloc_new ((w.setCell ⟨p, 5, none⟩ (.int .i64 ((wrt : Int) + 1))).setCell ⟨p, 4, none⟩ (.int .i64 ((cnt : Int) + 1))) (.cells #[.int .i64 (c1 : Int), .int .i64 (c2 : Int)] 138)) 1 _ rfl
      rw [hW3]; simpa using this
    have d3 : W3.cell? ⟨p, 3, none⟩ = some (.slice (some ⟨g, 0, none⟩) (n + 1) cap) := box_cell b3 3 _ rfl
    have d4 : W3.cell? ⟨p, 4, none⟩ = some (.int .i64 ((cnt : Int) + 1)) := box_cell b3 4 _ rfl
    have o0 := k3.own HS.1.2.1 (fun k hk hx => by have := (HS.2.1 k hk).1; simp at hx; exact this hx)
    have o1 := k3.own HS.1.2.2.1 (fun k hk hx => by have := (HS.2.2.1 k hk).1; simp at hx; exact this hx)
    have oa := k3.own HS.1.2.2.2 (fun k hk hx => by have := (HS.2.2.2 k hk).1; simp at hx; exact this hx)
    have HO := Lib.hid (And.intro b3 (And.intro o0 (And.intro o1 (And.intro oa k3))))
    clear b1 b2 b3 o0 o1 oa k3 HS
    by_cases hlt : cnt + 1 < c1
    · have i1 : (cnt : Int) + 1 < (c1 : Int) := by omega
      have HR : Hid (keepF s = 0 ∧ struckF s = false ∧ strikeF s = { s with writes := wrt + 1, count := cnt + 1 }) := Lib.hid (by
        have h1 := HE.out.2.2
        have h2 : s.count + 1 < c1 := by rw [← HE.out.1.1]; exact hlt
        refine ⟨by simp [keepF, h1, h2], by simp [struckF, h1, h2], by simp [strikeF, h1, h2, HE.out.1.1, HE.out.1.2]⟩)
      clear hlt
      go_enter Try.func76, Try.ntmps76
      go_wp2_with fail
      rw [← hW3]
      clear hW3
      go_quiet (fail)
      go_wp2
      go_ret2
      have hdr : ∀ m, Below W3.heap.size W3 (W3.drewN m) := fun m => below_drewN (Below.refl _ _) m
      refine ⟨by rw [HR.out.1, HR.out.2.1]; rfl, ?_⟩
      rw [HR.out.2.2]
      refine HH.out.struck (w2 := W3.drewN nq) (va := .slice (some ⟨g, 0, none⟩) (n + 1) cap) (va' := .slice (some ⟨g, 0, none⟩) (n + 1) cap) (v0 := v0) (v1 := v1) (cs := #[.int .i64 s.size, v0, v1, .slice (some ⟨g, 0, none⟩) (n + 1) cap, .int .i64 ((cnt : Int) + 1), .int .i64 ((wrt : Int) + 1), .bool s.down]) HO.out.1 { s with writes := wrt + 1, count := cnt + 1 } rfl (own_below HO.out.2.1 (hdr nq)) (own_below HO.out.2.2.1 (hdr nq)) ?_ HB.out.2.1 HB.out.2.2.1 HB.out.2.2.2 rfl ?_
      · have := HO.out.2.2.2.1
        rw [← HE.out.2.2] at this
        have e : s.armed.length = n + 1 := by rw [HE.out.2.2, HE.out.2.1]; rfl
        show World.ownsRow _ _ _ _ _ s.armed.length _
        rw [e]
        exact own_below this (hdr nq)
      · exact (HO.out.2.2.2.2.mono (by intro x hx; simp at hx; subst hx; exact hm)).drewN _
    · have i1 : decide ((cnt : Int) + 1 < (c1 : Int)) = false := decide_eq_false (by omega)
      have HR : Hid (keepF s = c2 ∧ struckF s = true ∧ strikeF s = { s with writes := wrt + 1, count := 0, armed := r, down := true }) := Lib.hid (by
        have h1 := HE.out.2.2
        have h2 : ¬ s.count + 1 < c1 := by rw [← HE.out.1.1]; exact hlt
        refine ⟨by simp [keepF, h1, h2], by simp [struckF, h1, h2], by simp [strikeF, h1, h2, HE.out.1.2]⟩)
      have HD := Lib.hid (fun m : Nat => show Calls Try.prog 117 #[.slice (some ⟨g, 0, none⟩) (n + 1) cap, .int .i64 0, .int .i64 1] (W3.drewN m) (fun e w' => e = .returned (.slice (some ⟨g, 0, none⟩) n cap) ∧ w'.ownsRow 0 138 2 (.slice (some ⟨g, 0, none⟩) n cap) n (crashL r) ∧ Keep [g] (W3.drewN m) w') by
        have hn := HE.out.2.1
        have ho := own_below HO.out.2.2.2.1 (below_drewN (Below.refl _ W3) m)
        rw [hn] at ho ⊢
        exact crash_Delete (W3.drewN m) (c := (c1, c2)) ho (by omega))
      clear hlt
      go_enter Try.func76, Try.ntmps76
      go_wp2_with fail
      rw [← hW3]
      clear hW3
      go_quiet (fail)
      go_wp2_with (first | (at_builtin; refine Stopped.out ?_) | (at_make; refine Stopped.out ?_))
      refine (HD.out _).mono ?_
      rintro e w4 ⟨rfl, ra, hk4⟩
      have hk4' : Keep [g] W3 w4 := (Keep.of_below (below_drewN (Below.refl _ W3) nq) [g]).trans hk4
      have b4 := hk4'.heap HO.out.1 (by simpa using hpg)
      have e3 := box_cell b4 3 _ rfl
      have e4 := box_cell b4 4 _ rfl
      have e6 := box_cell b4 6 _ rfl
      have x3 := box_free b4 3; have x4 := box_free b4 4; have x6 := box_free b4 6
      have n1' := hk4'.cell n1 (by simp; omega)
      have hwp : ¬ p = w.heap.size := by omega
      have HZ := Lib.hid (And.intro b4 (And.intro (hk4'.own HO.out.2.1 (fun k hk hx => by have := (HB.out.2.1 k hk).2.2.2; simp at hx; subst hx; exact this rfl)) (And.intro (hk4'.own HO.out.2.2.1 (fun k hk hx => by have := (HB.out.2.2.1 k hk).2.2; simp at hx; subst hx; exact this rfl)) (And.intro ra (HO.out.2.2.2.2.mono (M' := G) (by intro x hx; simp at hx; subst hx; exact hm) |>.trans (hk4'.mono (by intro x hx; simp at hx; subst hx; exact (HB.out.2.2.2 _ rfl).2)))))))
      clear hk4 hk4' b4 ra d3 d4 n0 n1 cc0 cc1 c3 c4 c5 c6
      go_wp2
      go_ret2
      refine ⟨by rw [HR.out.1, HR.out.2.1]; rfl, ?_⟩
      rw [HR.out.2.2]
      have hb5 := heap_setCell_same _ p 6 _ _ (.bool true) (heap_setCell_same _ p 4 _ _ (.int .i64 0) (heap_setCell_same w4 p 3 _ _ (.slice (some ⟨g, 0, none⟩) n cap) HZ.out.1))
      have kk : Keep [p] w4 (((w4.setCell ⟨p, 3, none⟩ (.slice (some ⟨g, 0, none⟩) n cap)).setCell ⟨p, 4, none⟩ (.int .i64 0)).setCell ⟨p, 6, none⟩ (.bool true)) := (((Keep.refl [p] w4).setCell (p := ⟨p, 3, none⟩) (.inl (by simp)) _).setCell (p := ⟨p, 4, none⟩) (.inl (by simp)) _).setCell (p := ⟨p, 6, none⟩) (.inl (by simp)) _
      have hn : r.length = n := HE.out.2.1.symm
      refine HH.out.struck (va := .slice (some ⟨g, 0, none⟩) (n + 1) cap) (va' := .slice (some ⟨g, 0, none⟩) n cap) (v0 := v0) (v1 := v1) (cs := #[.int .i64 s.size, v0, v1, .slice (some ⟨g, 0, none⟩) n cap, .int .i64 0, .int .i64 ((wrt : Int) + 1), .bool true]) (by simpa using hb5) { s with writes := wrt + 1, armed := r, count := 0, down := true } rfl
        (kk.own HZ.out.2.1 (fun k hk hx => by have := (HB.out.2.1 k hk).1; simp at hx; exact this hx)) (kk.own HZ.out.2.2.1 (fun k hk hx => by have := (HB.out.2.2.1 k hk).1; simp at hx; exact this hx)) ?_ HB.out.2.1 HB.out.2.2.1 HB.out.2.2.2 rfl (HZ.out.2.2.2.2.trans (kk.mono (by intro x hx; simp at hx; subst hx; exact hm)))
      show World.ownsRow _ _ _ _ _ r.length _
      rw [hn]
      exact kk.own HZ.out.2.2.2.1 (fun k hk hx => by obtain rfl := Option.some.inj hk; simp at hx; exact hgp hx)
end Go.Proofs.Ytpjmbhhfpoamnaa
