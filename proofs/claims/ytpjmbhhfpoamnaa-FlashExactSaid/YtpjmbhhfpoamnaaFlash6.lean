import Derived.Test.YtpjmbhhfpoamnaaFlash5
set_option linter.unusedVariables false
set_option linter.unusedSimpArgs false
namespace Go.Proofs.Ytpjmbhhfpoamnaa
open Go.RowKit
/-- bank 0 behind an append and a store -/
theorem Fl.app0 {w w2 : World} {p : Nat} {G : List Nat} {s : FSt} (h : Fl w p G s) {v0 v1 va v' : Value} (hb : w.heap[p]? = some (.cells #[.int .i64 s.size, v0, v1, va, .int .i64 s.count, .int .i64 s.writes, .bool s.down] 128 (0, 0)))
    (h1 : w.ownsRow 0 5 1 v1 s.b1.length (s.b1.map by8)) (ha : w.ownsRow 0 138 2 va s.armed.length (crashL s.armed))
    (k0 : ∀ k, v0.ownBlock = some k → k ≠ p ∧ k ∈ G ∧ v1.ownBlock ≠ some k ∧ va.ownBlock ≠ some k) (k1 : ∀ k, v1.ownBlock = some k → k ≠ p ∧ k ∈ G ∧ va.ownBlock ≠ some k) (ka : ∀ k, va.ownBlock = some k → k ≠ p ∧ k ∈ G)
    {b : List UInt8} (ho : w2.ownsRow 0 5 1 v' b.length (b.map by8)) (hg : w.grownBy w2 v0.ownBlock) (hv : ∀ k, v'.ownBlock = some k → v0.ownBlock = some k ∨ k = w.heap.size) :
    FStep w (w2.setCell ⟨p, 1, none⟩ v') p G { s with b0 := b } := by
  have hm := h.mem; have hlts := h.lts
  have hp : p < w.heap.size := hlts p hm
  have kk : Keep v0.ownBlock.toList w w2 := (Keep.refl _ w).grown hg (fun k hk => .inl (by simp [hk]))
  have kG : Keep G w w2 := kk.mono (fun x hx => (k0 x (by simpa using hx)).2.1)
  have ks : Keep [p] w2 (w2.setCell ⟨p, 1, none⟩ v') := (Keep.refl [p] w2).setCell (.inl (by simp)) _
  have hb2 := kk.heap hb (fun hx => (k0 p (by simpa using hx)).1 rfl)
  have h12 := kk.own h1 (fun k hk hx => (k0 k (by simpa using hx)).2.2.1 hk)
  have ha2 := kk.own ha (fun k hk hx => (k0 k (by simpa using hx)).2.2.2 hk)
  have hfr : ∀ k, v1.ownBlock = some k → k < w.heap.size := fun k hk => hlts k (k1 k hk).2.1
  have hfa : ∀ k, va.ownBlock = some k → k < w.heap.size := fun k hk => hlts k (ka k hk).2
  have hv2 : ∀ k, v'.ownBlock = some k → k ≠ p ∧ v1.ownBlock ≠ some k ∧ va.ownBlock ≠ some k := fun k hk => by
    rcases hv k hk with h6 | h6
    · exact ⟨(k0 k h6).1, (k0 k h6).2.2⟩
    · exact ⟨by omega, fun h7 => by have := hfr k h7; omega, fun h7 => by have := hfa k h7; omega⟩
  refine ⟨v'.ownBlock.toList ++ G, ⟨⟨v', v1, va, ?_, ks.own ho (fun k hk => by have := (hv2 k hk).1; simpa using this), ks.own h12 (fun k hk => by have := (k1 k hk).1; simpa using this), ks.own ha2 (fun k hk => by have := (ka k hk).1; simpa using this), fun k hk => ⟨(hv2 k hk).1, List.mem_append_left _ (by simp [hk]), (hv2 k hk).2⟩, fun k hk => ⟨(k1 k hk).1, List.mem_append_right _ (k1 k hk).2.1, (k1 k hk).2.2⟩, fun k hk => ⟨(ka k hk).1, List.mem_append_right _ (ka k hk).2⟩⟩, List.mem_append_right _ hm, ?_⟩, kG.setCell (.inl hm) _, ?_⟩
  · have := heap_setCell_same w2 p 1 _ _ v' hb2
    simpa using this
  · intro x hx
    rcases List.mem_append.1 hx with h6 | h6
    · have := (ho.lt x (by simpa using h6)).2
      simpa using this
    · have := Nat.lt_of_lt_of_le (hlts x h6) kk.size
      simpa using this
  · intro x hx
    rcases List.mem_append.1 hx with h6 | h6
    · rcases hv x (by simpa using h6) with h7 | h7
      · exact .inl (k0 x h7).2.1
      · exact .inr (Nat.le_of_eq h7.symm)
    · exact .inl h6
/-- bank 1 behind an append and a store -/
theorem Fl.app1 {w w2 : World} {p : Nat} {G : List Nat} {s : FSt} (h : Fl w p G s) {v0 v1 va v' : Value} (hb : w.heap[p]? = some (.cells #[.int .i64 s.size, v0, v1, va, .int .i64 s.count, .int .i64 s.writes, .bool s.down] 128 (0, 0)))
    (h0 : w.ownsRow 0 5 1 v0 s.b0.length (s.b0.map by8)) (ha : w.ownsRow 0 138 2 va s.armed.length (crashL s.armed))
    (k0 : ∀ k, v0.ownBlock = some k → k ≠ p ∧ k ∈ G ∧ v1.ownBlock ≠ some k ∧ va.ownBlock ≠ some k) (k1 : ∀ k, v1.ownBlock = some k → k ≠ p ∧ k ∈ G ∧ va.ownBlock ≠ some k) (ka : ∀ k, va.ownBlock = some k → k ≠ p ∧ k ∈ G)
    {b : List UInt8} (ho : w2.ownsRow 0 5 1 v' b.length (b.map by8)) (hg : w.grownBy w2 v1.ownBlock) (hv : ∀ k, v'.ownBlock = some k → v1.ownBlock = some k ∨ k = w.heap.size) :
    FStep w (w2.setCell ⟨p, 2, none⟩ v') p G { s with b1 := b } := by
  have hm := h.mem; have hlts := h.lts
  have hp : p < w.heap.size := hlts p hm
  have kk : Keep v1.ownBlock.toList w w2 := (Keep.refl _ w).grown hg (fun k hk => .inl (by simp [hk]))
  have kG : Keep G w w2 := kk.mono (fun x hx => (k1 x (by simpa using hx)).2.1)
  have ks : Keep [p] w2 (w2.setCell ⟨p, 2, none⟩ v') := (Keep.refl [p] w2).setCell (.inl (by simp)) _
  have hb2 := kk.heap hb (fun hx => (k1 p (by simpa using hx)).1 rfl)
  have h02 := kk.own h0 (fun k hk hx => (k0 k hk).2.2.1 (by simpa using hx))
  have ha2 := kk.own ha (fun k hk hx => (k1 k (by simpa using hx)).2.2 hk)
  have hfr : ∀ k, v0.ownBlock = some k → k < w.heap.size := fun k hk => hlts k (k0 k hk).2.1
  have hfa : ∀ k, va.ownBlock = some k → k < w.heap.size := fun k hk => hlts k (ka k hk).2
  have hv2 : ∀ k, v'.ownBlock = some k → k ≠ p ∧ v0.ownBlock ≠ some k ∧ va.ownBlock ≠ some k := fun k hk => by
    rcases hv k hk with h6 | h6
    · exact ⟨(k1 k h6).1, fun h7 => (k0 k h7).2.2.1 h6, (k1 k h6).2.2⟩
    · exact ⟨by omega, fun h7 => by have := hfr k h7; omega, fun h7 => by have := hfa k h7; omega⟩
  refine ⟨v'.ownBlock.toList ++ G, ⟨⟨v0, v', va, ?_, ks.own h02 (fun k hk => by have := (k0 k hk).1; simpa using this), ks.own ho (fun k hk => by have := (hv2 k hk).1; simpa using this), ks.own ha2 (fun k hk => by have := (ka k hk).1; simpa using this), fun k hk => ⟨(k0 k hk).1, List.mem_append_right _ (k0 k hk).2.1, fun h7 => (hv2 k h7).2.1 hk, (k0 k hk).2.2.2⟩, fun k hk => ⟨(hv2 k hk).1, List.mem_append_left _ (by simp [hk]), (hv2 k hk).2.2⟩, fun k hk => ⟨(ka k hk).1, List.mem_append_right _ (ka k hk).2⟩⟩, List.mem_append_right _ hm, ?_⟩, kG.setCell (.inl hm) _, ?_⟩
  · have := heap_setCell_same w2 p 2 _ _ v' hb2
    simpa using this
  · intro x hx
    rcases List.mem_append.1 hx with h6 | h6
    · have := (ho.lt x (by simpa using h6)).2
      simpa using this
    · have := Nat.lt_of_lt_of_le (hlts x h6) kk.size
      simpa using this
  · intro x hx
    rcases List.mem_append.1 hx with h6 | h6
    · rcases hv x (by simpa using h6) with h7 | h7
      · exact .inl (k1 x h7).2.1
      · exact .inr (Nat.le_of_eq h7.symm)
    · exact .inl h6
end Go.Proofs.Ytpjmbhhfpoamnaa
