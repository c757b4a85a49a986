import Derived.Test.YtpjmbhhfpoamnaaScanI
set_option linter.unusedVariables false
set_option linter.unusedSimpArgs false
namespace Go.Proofs.Ytpjmbhhfpoamnaa
open Go.RowKit Go.Shelf
theorem NonC.trans {a b c : World} (h : NonC a b) (k : NonC b c) : NonC a c := fun i o hi ho => k i o (h i o hi ho) ho
theorem NonC.below {w w' : World} (h : Below w.heap.size w w') : NonC w w' := fun i o hi _ => (h.block i (Array.getElem?_eq_some_iff.1 hi).1).trans hi
theorem NonC.from {w w' : World} (h : NonC w w') (hs : w.heap.size ≤ w'.heap.size) (B : Nat) : KeepsFrom B w w' := ⟨hs, fun i o _ hi ho => h i o hi ho⟩
/-- a round's end -/
theorem AI.step {W U V V2 V3 : World} {p bn ba v0 N B0 Bx : Nat} {G G1 G2 : List Nat} {l : List UInt8} {pre : List Yl} {x : Yl} {vs1 ws2 : List Value} {ls2 : List (List UInt8)} {v : Value}
    (hA : AI W U p bn ba v0 N G l pre x Bx V) (hW : W.heap.size ≤ B0) (hG : ∀ y ∈ G, y < B0) (hb : B0 ≤ bn ∧ bn < ba ∧ ba < U.heap.size)
    (kV2 : Keep (G ++ [bn, ba]) V V2) (n2 : NonC V V2) (ab2 : V2.heap[ba]? = some (.cells #[.int .i64 ((sumP pre : Nat) + (x.p.length : Int) + 10)] 3 (0, 0))) (nb2 : V2.heap[bn]? = some (.cells #[.int .i64 (pre.length : Nat)] 3 (0, 0)))
    (hv1 : vs1.length = v0 + pre.length) (hG1 : ∀ y ∈ G1, y ∈ G ∨ U.heap.size ≤ y) (k3 : Keep G1 V2 V3) (n3 : NonC V2 V3) (sh6 : Shf W V3 p G2 (vs1 ++ [v]) ws2 ls2 N) (hG2 : ∀ y ∈ G2, y ∈ G1 ∨ x.g = y ∨ V2.heap.size ≤ y) :
    KeepsFrom U.heap.size V (V3.setCell ⟨bn, 0, none⟩ (.int .i64 ((pre.length : Int) + 1))) ∧ KpB U.heap.size (G ++ [bn, ba]) V (V3.setCell ⟨bn, 0, none⟩ (.int .i64 ((pre.length : Int) + 1))) ∧ SI W U p bn ba v0 N G l (pre ++ [x]) (V3.setCell ⟨bn, 0, none⟩ (.int .i64 ((pre.length : Int) + 1))) := by
  obtain ⟨b1, b2, b3⟩ := hb
  have hUV := hA.keep.size
  have hV2 := kV2.size
  have hnew := hA.new
  have hGi : ∀ y ∈ G1, y < B0 ∨ U.heap.size ≤ y := fun y hy => (hG1 y hy).imp (fun h => hG y h) id
  have hbn1 : bn ∉ G1 := fun hx => by have := hGi _ hx; omega
  have hba1 : ba ∉ G1 := fun hx => by have := hGi _ hx; omega
  have nb3 := k3.heap nb2 hbn1
  have ab3 := k3.heap ab2 hba1
  have ks : Keep [bn] V3 (V3.setCell ⟨bn, 0, none⟩ (.int .i64 ((pre.length : Int) + 1))) := (Keep.refl _ V3).setCell (.inl (by simp)) _
  have hn4 := heap_setCell_same V3 bn 0 _ _ (.int .i64 ((pre.length : Int) + 1)) nb3
  have n4 : NonC V3 (V3.setCell ⟨bn, 0, none⟩ (.int .i64 ((pre.length : Int) + 1))) := nonC_of ks (fun y hy => by simp at hy; subst hy; exact ⟨_, _, _, nb3⟩)
  have kU2 := hA.keep.trans kV2
  have kU3 : Keep (G ++ [bn, ba]) U V3 := kU2.trans' k3 (fun y hy => (hG1 y hy).imp (fun h => by simp [h]) id)
  have kU4 : Keep (G ++ [bn, ba]) U (V3.setCell ⟨bn, 0, none⟩ (.int .i64 ((pre.length : Int) + 1))) := kU3.trans (ks.mono (by simp))
  have kV4 : Keep (G ++ [bn, ba] ++ G1) V (V3.setCell ⟨bn, 0, none⟩ (.int .i64 ((pre.length : Int) + 1))) :=
    ((kV2.mono (fun y hy => List.mem_append_left _ hy)).trans (k3.mono (fun y hy => List.mem_append_right _ hy))).trans (ks.mono (by simp))
  have hbn2 : bn ∉ G2 := fun hx => by
    rcases hG2 _ hx with h1 | h1 | h1
    · exact hbn1 h1
    · omega
    · omega
  obtain ⟨rest, hof⟩ := hA.of
  refine ⟨((n2.trans n3).trans n4).from kV4.size _, kpb_of kV4 (fun y hy => ?_), ⟨kU4, ?_, ?_, ⟨G2, _, _, _, sh6.keep ks (fun y hy hx => by simp at hx; subst hx; exact hbn2 hy) (fun y hy => by simp at hy; omega), by simp [hv1]; omega, fun y hy => ?_⟩, ⟨rest, hof⟩⟩⟩
  · rcases List.mem_append.1 hy with h1 | h1
    · exact .inl h1
    · exact (hG1 y h1).imp (fun h => by simp [h]) id
  · have e : ((pre ++ [x]).length : Int) = (pre.length : Int) + 1 := by simp
    rw [show (Value.int .i64 (((pre ++ [x]).length : Nat) : Int)) = .int .i64 ((pre.length : Int) + 1) by rw [e]]
    exact hn4
  · have h1 := ks.heap ab3 (by simp; omega)
    have e : ((sumP (pre ++ [x]) : Nat) : Int) = (sumP pre : Nat) + (x.p.length : Int) + 10 := by rw [sumP_snoc]; omega
    rw [e]
    exact h1
  · rcases hG2 y hy with h1 | h1 | h1
    · exact hG1 y h1
    · exact .inr (by omega)
    · exact .inr (by omega)
end Go.Proofs.Ytpjmbhhfpoamnaa
