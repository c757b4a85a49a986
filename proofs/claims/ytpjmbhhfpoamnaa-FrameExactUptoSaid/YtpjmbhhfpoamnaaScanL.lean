import Derived.Test.YtpjmbhhfpoamnaaScanK
set_option linter.unusedVariables false
set_option linter.unusedSimpArgs false
namespace Go.Proofs.Ytpjmbhhfpoamnaa
open Go.RowKit Go.Shelf
theorem sum_mem : ∀ (fs : List (UInt8 × List UInt8)) (x : UInt8 × List UInt8), x ∈ fs → x.2.length + 10 ≤ (fs.map fun x => x.2.length + 10).sum
  | [], x, h => by cases h
  | y :: r, x, h => by
    simp only [List.map_cons, List.sum_cons]
    rcases List.mem_cons.1 h with rfl | h1
    · omega
    · have := sum_mem r x h1; omega
theorem scan_mem {l : List UInt8} {x : UInt8 × List UInt8} (h : x ∈ (scanF l).1) : x.2.length ≤ l.length := by
  have hs := scan_sum _ l 0 (Nat.le_refl _) (Nat.zero_le _)
  have he := (scan_end _ l 0 (Nat.le_refl _) (Nat.zero_le _)).1
  simp only [List.drop_zero, Nat.zero_add] at hs he
  have := sum_mem _ x h
  omega
theorem xs_mem {l : List UInt8} {xs : List Yl} (h : xs.map Yl.pj = placedF 0 (scanF l).1) {x : Yl} (hx : x ∈ xs) : x.p.length ≤ l.length := by
  have h2 := congrArg (List.map fun x : Nat × UInt8 × List UInt8 => (x.2.1, x.2.2)) h
  rw [placedF_map, List.map_map] at h2
  have : (x.k, x.p) ∈ (scanF l).1 := by
    rw [← h2]
    exact List.mem_map.2 ⟨x, hx, rfl⟩
  exact scan_mem this
/-- the frames' row while it is written over -/
structure LR (B0 : Nat) (vl : Value) (nx : Nat) (xs : List Yl) (t : Nat) (wr : World) : Prop where
  own : ∃ Lc, wr.ownsRow B0 70 2 vl nx Lc ∧ ∀ (i : Nat) x, t ≤ i → xs[i]? = some x → Lc[i * 2 + 1]? = some (.slice (some ⟨x.g, 0, none⟩) x.p.length x.p.length)
variable {B0 nx t : Nat} {xs : List Yl} {wr w' : World} {M : List Nat}
theorem LR.keep {vl : Value} (h : LR B0 vl nx xs t wr) (k : Keep M wr w') (hM : ∀ b, vl.ownBlock = some b → b ∉ M) : LR B0 vl nx xs t w' := by
  obtain ⟨Lc, o, hc⟩ := h.own
  exact ⟨Lc, k.own o hM, hc⟩
theorem LR.below {vl : Value} (h : LR B0 vl nx xs t wr) (k : Below wr.heap.size wr w') : LR B0 vl nx xs t w' := h.keep (Keep.of_below k []) (by simp)
theorem LR.cell {g c : Nat} (h : LR B0 (.slice (some ⟨g, 0, none⟩) nx c) nx xs t wr) {x : Yl} (hx : xs[t]? = some x) : wr.cell? ⟨g, t * 2 + 1, none⟩ = some (.slice (some ⟨x.g, 0, none⟩) x.p.length x.p.length) := by
  obtain ⟨Lc, o, hc⟩ := h.own
  obtain ⟨h1, h2⟩ := List.getElem?_eq_some_iff.1 (hc t x (Nat.le_refl _) hx)
  have := (own_sl' o).2.1.cell (t * 2 + 1) h1
  rw [Nat.zero_add, h2] at this
  exact this
theorem LR.cell0 {g c : Nat} (h : LR B0 (.slice (some ⟨g, 0, none⟩) nx c) nx xs t wr) (ht : t < nx) : (∃ v, wr.cell? ⟨g, t * 2, none⟩ = some v) ∧ wr.frozen? ⟨g, t * 2, none⟩ = false ∧ wr.frozen? ⟨g, t * 2 + 1, none⟩ = false := by
  obtain ⟨Lc, o, hc⟩ := h.own
  exact ⟨own_cell o (t * 2) (by omega), o.frozenAt (t * 2), o.frozenAt (t * 2 + 1)⟩
theorem LR.store {g c : Nat} (h : LR B0 (.slice (some ⟨g, 0, none⟩) nx c) nx xs t wr) (u v : Value) : LR B0 (.slice (some ⟨g, 0, none⟩) nx c) nx xs (t + 1) ((wr.setCell ⟨g, t * 2, none⟩ u).setCell ⟨g, t * 2 + 1, none⟩ v) := by
  obtain ⟨Lc, o, hc⟩ := h.own
  have o2 := ((o.stored (t * 2) u).1.stored (t * 2 + 1) v).1
  refine ⟨_, o2, fun i x hi hx => ?_⟩
  rw [List.getElem?_set_ne (by omega), List.getElem?_set_ne (by omega)]
  exact hc i x (by omega) hx
end Go.Proofs.Ytpjmbhhfpoamnaa
