import Derived.Test.YtpjmbhhfpoamnaaJn10
set_option linter.unusedVariables false
set_option linter.unusedSimpArgs false
namespace Go.Proofs.Ytpjmbhhfpoamnaa
open Go.RowKit
/-- the content under way, in its variable at bc; W: the world ahead of the loop -/
structure RSt (W wr : World) (bc ep : Nat) (sv : Value) (rs : List (List UInt8)) (g : Nat) (v : Value) (vs : List Value) : Prop where
  box : wr.heap[bc]? = some (.cells #[.int .i64 ep, sv, v, .int .i64 g] 162 (0, 0))
  keep : Keep [bc] W wr
  bcl : bc < W.heap.size
  row : wr.ownsRow W.heap.size 22 1 v rs.length vs
  recs : ∀ (i : Nat) (r : List UInt8), rs[i]? = some r → ∃ gi, vs[i]? = some (.slice (some ⟨gi, 0, none⟩) r.length r.length) ∧ wr.ownsRow W.heap.size 5 1 (.slice (some ⟨gi, 0, none⟩) r.length r.length) r.length (r.map by8)
theorem RSt.then_ {W wr w' : World} {bc ep : Nat} {sv : Value} {rs : List (List UInt8)} {g : Nat} {v : Value} {vs : List Value} (h : RSt W wr bc ep sv rs g v vs) (k : Below wr.heap.size wr w') : RSt W w' bc ep sv rs g v vs :=
  ⟨heap_below h.box k, h.keep.trans (Keep.of_below k _), h.bcl, own_below h.row k, fun i r hr => let ⟨gi, h1, h2⟩ := h.recs i r hr; ⟨gi, h1, own_below h2 k⟩⟩
theorem RSt.step {W w1 w2 : World} {bc ep : Nat} {sv : Value} {rs : List (List UInt8)} {g : Nat} {v v' : Value} {vs : List Value} (h : RSt W w1 bc ep sv rs g v vs) {gi : Nat} {r : List UInt8} (o : w1.ownsRow W.heap.size 5 1 (.slice (some ⟨gi, 0, none⟩) r.length r.length) r.length (r.map by8))
    (o2 : w2.ownsRow W.heap.size 22 1 v' (rs.length + 1) (vs ++ [.slice (some ⟨gi, 0, none⟩) r.length r.length])) (hg : w1.grownBy w2 v.ownBlock) (g' : Nat) :
    RSt W ((w2.setCell ⟨bc, 2, none⟩ v').setCell ⟨bc, 3, none⟩ (.int .i64 g')) bc ep sv (rs ++ [r]) g' v' (vs ++ [.slice (some ⟨gi, 0, none⟩) r.length r.length]) := by
  have hvb : ∀ k, v.ownBlock = some k → W.heap.size ≤ k := fun k hk => (h.row.lt k hk).1
  have hbc := h.bcl
  have k1 : Keep v.ownBlock.toList w1 w2 := (Keep.refl _ w1).grown hg (fun k hk => .inl (by rw [hk]; simp))
  have kbc : ∀ x ∈ v.ownBlock.toList, x ≠ bc := fun x hx e => by
    have := hvb x (by simpa using hx); omega
  have z1 := k1.heap h.box (fun hx => kbc _ hx rfl)
  have z2 := heap_setCell_same _ bc 3 _ _ (.int .i64 (g' : Int)) (heap_setCell_same _ bc 2 _ _ v' z1)
  have k2 : Keep [bc] w2 ((w2.setCell ⟨bc, 2, none⟩ v').setCell ⟨bc, 3, none⟩ (.int .i64 g')) := ((Keep.refl [bc] w2).setCell (p := ⟨bc, 2, none⟩) (.inl (by simp)) _).setCell (p := ⟨bc, 3, none⟩) (.inl (by simp)) _
  have kr : ∀ {q : Nat} {l : List UInt8}, w1.ownsRow W.heap.size 5 1 (.slice (some ⟨q, 0, none⟩) l.length l.length) l.length (l.map by8) → ((w2.setCell ⟨bc, 2, none⟩ v').setCell ⟨bc, 3, none⟩ (.int .i64 g')).ownsRow W.heap.size 5 1 (.slice (some ⟨q, 0, none⟩) l.length l.length) l.length (l.map by8) := fun {q l} o3 =>
    k2.own (k1.own o3 (fun k hk hx => own_types' o3 h.row (by decide) hk (by simpa using hx))) (fun k hk hx => by
      have h1 := (o3.lt k hk).1
      simp at hx
      omega)
  refine ⟨z2, ?_, hbc, ?_, ?_⟩
  · exact (h.keep.grown hg (fun k hk => .inr (hvb k hk))).trans k2
  · rw [List.length_append, List.length_singleton]
    exact k2.own o2 (fun k hk hx => by have h1 := (o2.lt k hk).1; simp at hx; omega)
  · intro i r' hr'
    have hvl : vs.length = rs.length := by have := h.row.1; simpa using this
    by_cases hi : i < rs.length
    · rw [List.getElem?_append_left hi] at hr'
      obtain ⟨gj, h1, h2⟩ := h.recs i r' hr'
      exact ⟨gj, by rw [List.getElem?_append_left (by omega)]; exact h1, kr h2⟩
    · rw [List.getElem?_append_right (by omega)] at hr'
      have hi0 : i = rs.length := by
        have h3 := (List.getElem?_eq_some_iff.1 hr').1
        simp at h3; omega
      subst hi0
      simp at hr'
      subst hr'
      exact ⟨gi, by rw [List.getElem?_append_right (by omega), hvl]; simp, kr o⟩
theorem RSt.mid {W w1 w2 : World} {bc ep : Nat} {sv : Value} {rs : List (List UInt8)} {g : Nat} {v : Value} {vs : List Value} (h : RSt W w1 bc ep sv rs g v vs) (hg : w1.grownBy w2 v.ownBlock) : w2.heap[bc]? = some (.cells #[.int .i64 ep, sv, v, .int .i64 g] 162 (0, 0)) := by
  have hbc := h.bcl
  have k1 : Keep v.ownBlock.toList w1 w2 := (Keep.refl _ w1).grown hg (fun k hk => .inl (by rw [hk]; simp))
  exact k1.heap h.box (fun hx => by have := (h.row.lt bc (by simpa using hx)).1; omega)
/-- the records from a place on -/
def recG (l : List UInt8) (g : Nat) : List (List UInt8) × Nat := recsB ((l.drop g).length + 1) (l.drop g)
theorem recG_step (l : List UInt8) (g : Nat) : recG l g = if (wholeD (l.drop g)).2.2.1 = 0 ∨ (wholeD (l.drop g)).2.2.2 ≠ 0 ∨ (wholeD (l.drop g)).1 ≠ 82 then ([], 0) else ((wholeD (l.drop g)).2.1 :: (recG l (g + (wholeD (l.drop g)).2.2.1)).1, (wholeD (l.drop g)).2.2.1 + (recG l (g + (wholeD (l.drop g)).2.2.1)).2) := by
  rw [recG, recsB_step, recG, List.drop_drop]
theorem hdrCt_recG (l : List UInt8) : hdrCt l = ⟨be ((wholeD l).2.1.take 8), (wholeD l).2.1.drop 12, (recG l (wholeD l).2.2.1).1, (wholeD l).2.2.1 + (recG l (wholeD l).2.2.1).2⟩ := by
  unfold hdrCt recG
  rw [recsB_more (l.length + 1) _ (by simp)]
/-- where the loop stands -/
structure RLaw (l : List UInt8) (E g : Nat) (rs : List (List UInt8)) : Prop where
  recs : (recG l E).1 = rs ++ (recG l g).1
  used : E + (recG l E).2 = g + (recG l g).2
  le : g ≤ l.length
  few : rs.length ≤ g
theorem RLaw.next {l : List UInt8} {E g : Nat} {rs : List (List UInt8)} (h : RLaw l E g rs) (h1 : (wholeD (l.drop g)).2.2.1 ≠ 0) (h2 : (wholeD (l.drop g)).2.2.2 = 0) (h3 : (wholeD (l.drop g)).1 = 82) (hle : g + (wholeD (l.drop g)).2.2.1 ≤ l.length) : RLaw l E (g + (wholeD (l.drop g)).2.2.1) (rs ++ [(wholeD (l.drop g)).2.1]) := by
  have hs := recG_step l g
  rw [if_neg (by simp [h1, h2, h3])] at hs
  refine ⟨?_, ?_, hle, by have := h.few; simp; omega⟩
  · rw [h.recs, hs]; simp
  · rw [h.used, hs]; simp; omega
theorem RLaw.end_ {l : List UInt8} {E g : Nat} {rs : List (List UInt8)} (h : RLaw l E g rs) (hc : (wholeD (l.drop g)).2.2.1 = 0 ∨ (wholeD (l.drop g)).2.2.2 ≠ 0 ∨ (wholeD (l.drop g)).1 ≠ 82) : (recG l E).1 = rs ∧ E + (recG l E).2 = g := by
  have hs := recG_step l g
  rw [if_pos hc] at hs
  exact ⟨by rw [h.recs, hs]; simp, by rw [h.used, hs]; simp⟩
theorem readB_end {l : List UInt8} (ho : hdrOk l) {g : Nat} {rs : List (List UInt8)} (hr : (recG l (wholeD l).2.2.1).1 = rs) (hg : (wholeD l).2.2.1 + (recG l (wholeD l).2.2.1).2 = g) :
    readB l = if be (((wholeD l).2.1.drop 8).take 4) ≤ rs.length then some ⟨be ((wholeD l).2.1.take 8), (wholeD l).2.1.drop 12, rs, g⟩ else none := by
  rw [readB, hdrCt_recG, hr, hg]
  by_cases hc : be (((wholeD l).2.1.drop 8).take 4) ≤ rs.length
  · rw [if_pos ⟨ho, hc⟩, if_pos hc]
  · rw [if_neg (fun h => hc h.2), if_neg hc]
end Go.Proofs.Ytpjmbhhfpoamnaa
