import Derived.Test.YtpjmbhhfpoamnaaScanJ
set_option linter.unusedVariables false
set_option linter.unusedSimpArgs false
namespace Go.Proofs.Ytpjmbhhfpoamnaa
open Go.RowKit Go.Shelf
/-- payloads that join the shelf, one behind the other; M: what else may be written -/
structure PL (W W8 : World) (B0 p v0 N : Nat) (G1 M : List Nat) (xs : List Yl) (j : Nat) (wr : World) : Prop where
  sh : ∃ G' vs' ws' ls', Shf W wr p G' vs' ws' ls' N ∧ vs'.length = v0 + j ∧ ∀ y ∈ G', y ∈ G1 ∨ y ∈ (xs.take j).map Yl.g ∨ W8.heap.size ≤ y
  keep : Keep (G1 ++ (xs.map Yl.g ++ M)) W8 wr
  rows : ∀ (i : Nat) x, j ≤ i → xs[i]? = some x → wr.ownsRow B0 5 1 (.slice (some ⟨x.g, 0, none⟩) x.p.length x.p.length) x.p.length (x.p.map by8)
  nonc : NonC W8 wr
/-- what does not change meanwhile -/
structure PC (W W8 : World) (B0 N : Nat) (G1 M : List Nat) (xs : List Yl) : Prop where
  nodup : (xs.map Yl.g).Nodup
  outG : ∀ x ∈ xs, x.g ∉ G1
  outM : ∀ x ∈ xs, x.g ∉ M
  lt : ∀ x ∈ xs, x.g < W8.heap.size
  gM : ∀ y ∈ M, y ∉ G1 ∧ y < W8.heap.size ∧ W.heap.size ≤ y
  len : ∀ x ∈ xs, x.p.length ≤ N
  base : W.heap.size ≤ B0
variable {W W8 wr w' : World} {B0 p v0 N : Nat} {G1 M : List Nat} {xs : List Yl} {j : Nat}
theorem take_g {i : Nat} {x : Yl} (hn : (xs.map Yl.g).Nodup) (hi : j ≤ i) (hx : xs[i]? = some x) : x.g ∉ (xs.take j).map Yl.g := fun h => by
  obtain ⟨hi2, hx2⟩ := List.getElem?_eq_some_iff.1 hx
  rw [List.map_take] at h
  obtain ⟨k, hk, e⟩ := List.mem_take_iff_getElem.1 h
  have hk2 : k < (xs.map Yl.g).length := by omega
  have h1 := List.pairwise_iff_getElem.1 hn k i hk2 (by simpa using hi2) (by omega)
  apply h1
  rw [e]
  simp [hx2]
theorem PL.start {vs ws : List Value} {ls : List (List UInt8)} (h : Shf W W8 p G1 vs ws ls N) (hr : ∀ x ∈ xs, W8.ownsRow B0 5 1 (.slice (some ⟨x.g, 0, none⟩) x.p.length x.p.length) x.p.length (x.p.map by8)) : PL W W8 B0 p vs.length N G1 M xs 0 W8 :=
  ⟨⟨G1, vs, ws, ls, h, rfl, fun y hy => .inl hy⟩, Keep.refl _ _, fun i x _ hx => hr x (List.mem_of_getElem? hx), fun _ _ h _ => h⟩
theorem PL.out (h : PL W W8 B0 p v0 N G1 M xs j wr) (c : PC W W8 B0 N G1 M xs) {G' : List Nat} (hG : ∀ y ∈ G', y ∈ G1 ∨ y ∈ (xs.take j).map Yl.g ∨ W8.heap.size ≤ y) {i : Nat} {x : Yl} (hi : j ≤ i) (hx : xs[i]? = some x) : x.g ∉ G' := fun hy => by
  have hm := List.mem_of_getElem? hx
  rcases hG _ hy with h1 | h1 | h1
  · exact c.outG x hm h1
  · exact take_g c.nodup hi hx h1
  · have := c.lt x hm; omega
theorem PL.below (h : PL W W8 B0 p v0 N G1 M xs j wr) (k : Below wr.heap.size wr w') : PL W W8 B0 p v0 N G1 M xs j w' := by
  obtain ⟨G', vs', ws', ls', h1, h2, h3⟩ := h.sh
  exact ⟨⟨G', vs', ws', ls', h1.then_ k, h2, h3⟩, h.keep.trans (Keep.of_below k _), fun i x hi hx => own_below (h.rows i x hi hx) k, h.nonc.trans (NonC.below k)⟩
theorem PL.mod (h : PL W W8 B0 p v0 N G1 M xs j wr) (c : PC W W8 B0 N G1 M xs) {M' : List Nat} (k : Keep M' wr w') (hM : ∀ y ∈ M', y ∈ M) (hn : NonC wr w') : PL W W8 B0 p v0 N G1 M xs j w' := by
  obtain ⟨G', vs', ws', ls', h1, h2, h3⟩ := h.sh
  refine ⟨⟨G', vs', ws', ls', h1.keep k (fun y hy hx => ?_) (fun y hy => (c.gM y (hM y hy)).2.2), h2, h3⟩, h.keep.trans (k.mono (fun y hy => by simp [hM y hy])), fun i x hi hx => k.own (h.rows i x hi hx) (fun b hb hy => ?_), h.nonc.trans hn⟩
  · have hy2 := hM y hx
    rcases h3 y hy with h4 | h4 | h4
    · exact (c.gM y hy2).1 h4
    · obtain ⟨x, hx1, hx2⟩ := List.mem_map.1 h4
      exact c.outM x (List.mem_of_mem_take hx1) (hx2 ▸ hy2)
    · have := (c.gM y hy2).2.1; omega
  · have e : x.g = b := Option.some.inj hb
    exact c.outM x (List.mem_of_getElem? hx) (e ▸ hM b hy)
theorem PL.put (h : PL W W8 B0 p v0 N G1 M xs j wr) (c : PC W W8 B0 N G1 M xs) {x : Yl} (hx : xs[j]? = some x) (hN : N ≤ 100000000) (hv : v0 + j ≤ 1000000000) :
    Calls Try.prog 100 #[.pointer (some ⟨p, 0, none⟩), .slice (some ⟨x.g, 0, none⟩) x.p.length x.p.length] wr fun e w' => e = .returned (.tuple #[]) ∧ PL W W8 B0 p v0 N G1 M xs (j + 1) w' ∧ ∃ G', Keep G' wr w' ∧ ∀ y ∈ G', y ∈ G1 ∨ y ∈ xs.map Yl.g ∨ W8.heap.size ≤ y := by
  obtain ⟨G', vs', ws', ls', h1, h2, h3⟩ := h.sh
  have hm := List.mem_of_getElem? hx
  refine (put13 wr h1 (own_mono (h.rows j x (Nat.le_refl _) hx) c.base) (fun b hb hy => by have e : x.g = b := Option.some.inj hb; subst e; exact h.out c h3 (Nat.le_refl _) hx hy) (c.len x hm) hN (by omega)).mono ?_
  rintro e w' ⟨he, v2, G2, s, k, hG2, hn⟩
  have hjl : j < xs.length := (List.getElem?_eq_some_iff.1 hx).1
  refine ⟨he, ⟨⟨G2, _, _, _, s, by simp; omega, fun y hy => ?_⟩, h.keep.trans' k (fun y hy => ?_), fun i u hi hu => k.own (h.rows i u (by omega) hu) (fun b hb hy => ?_), h.nonc.trans hn⟩, G', k, fun y hy => ?_⟩
  · rcases hG2 y hy with h4 | h4 | h4
    · rcases h3 y h4 with h5 | h5 | h5
      · exact .inl h5
      · refine .inr (.inl ?_)
        rw [List.take_succ_eq_append_getElem hjl, List.map_append]
        exact List.mem_append_left _ h5
      · exact .inr (.inr h5)
    · have e : x.g = y := Option.some.inj h4
      refine .inr (.inl ?_)
      rw [List.take_succ_eq_append_getElem hjl, (List.getElem?_eq_some_iff.1 hx).2, List.map_append]
      simp [e]
    · exact .inr (.inr (Nat.le_trans h.keep.size h4))
  · rcases h3 y hy with h5 | h5 | h5
    · exact .inl (List.mem_append_left _ h5)
    · obtain ⟨u, hu1, hu2⟩ := List.mem_map.1 h5
      refine .inl (List.mem_append_right _ (List.mem_append_left _ (List.mem_map.2 ⟨u, List.mem_of_mem_take hu1, hu2⟩)))
    · exact .inr h5
  · have e : u.g = b := Option.some.inj hb
    subst e
    exact h.out c h3 (by omega) hu hy
  · rcases h3 y hy with h5 | h5 | h5
    · exact .inl h5
    · obtain ⟨u, hu1, hu2⟩ := List.mem_map.1 h5
      exact .inr (.inl (List.mem_map.2 ⟨u, List.mem_of_mem_take hu1, hu2⟩))
    · exact .inr (.inr h5)
end Go.Proofs.Ytpjmbhhfpoamnaa
