import Derived.Test.YtpjmbhhfpoamnaaFrRange
set_option linter.unusedVariables false
set_option linter.unusedSimpArgs false
namespace Go.Proofs.Ytpjmbhhfpoamnaa
open Go.RowKit
/-- a range over a function in its block, left by a break or at its end: what stands behind it is asked once -/
theorem rangeB {P : Program} {α : Type} {g : Operand} {ps : Array Tmp} {assign body : Code} {Q0 : Exit → Act → World → Prop} {a : Act} {w : World} {id : Nat}
    (n : Nat) (h1 : 1 ≤ n) {gf : Nat} {lb : Array Value} (hg : a.eval g = .func (.func gf) #[] lb) (eg : ∀ args w, (callFunc gf args).run P w = .ok (.enter gf args) w)
    {encs : α → Array Value} {Kp : World → World → Prop} {G : List α → α → World → World → Prop} {S Sp : List α → Prop} (hseq : SeqG Fence.wide (n - 1) P gf lb encs Kp G S Sp w)
    (hKt : ∀ {A B C : World}, Kp A B → Kp B C → Kp A C) (hKb : ∀ (W : World) (l : Nat) (o o' : Obj), w.heap.size ≤ l → W.heap[l]? = some o → o.isCells = false → o.isWalk = false → Kp W (W.putObj l o'))
    (hps : ∀ x, (encs x).size = ps.size)
    (I : List α → World → Prop) (Bk : List α → Prop) (hI : ∀ s A B, I s A → Nc w.heap.size A B → I s B) (h0 : I [] w)
    (Ax : Act → List α → α → Act → World → Prop) (hAx : ∀ pre x a' A B, Ax a pre x a' A → Nc w.heap.size A B → Ax a pre x a' B)
    (hassign : ∀ (l : Nat) (pre : List α) (x : α) (W0 W : World) (K : Act → World → Prop), I pre W0 → Below W0.heap.size W0 W → G pre x W0 W → (∀ a' W', KeepsFrom w.heap.size W W' → Kp W W' → Ax a pre x a' W' → K a' W') →
      assign.wpIn (Fence.wide.inRound l) (n - 1 - 1) P (Exit.then K (fun _ _ _ => False)) { tmps := (ps.zip (encs x)).foldl (fun t (p, v) => t.setIfInBounds p v) a.tmps, defers := [] } W)
    (hbody : ∀ (l : Nat) (pre : List α) (x : α) (a' : Act) (W : World), Ax a pre x a' W → body.wpIn (Fence.wide.inRound l) (n - 1 - 1) P (ownPostG w.heap.size Kp I (fun c pre W => c = .exit id ∧ I pre W ∧ Bk pre) (pre ++ [x]) W) a' W)
    (hgo : ∀ (D : Nat) (pre : List α) (W : World), w.heap.size ≤ D → S pre ∨ Bk pre → I pre W → W.heap[D]? = some (.deferred (some [])) → Q0 .normal { a with defers := { target := .collected D, args := #[] } :: a.defers } W) :
    (Code.rangeFunc g ps assign body).wp P (Exit.inBlock id Q0) a w := by
  refine (wpIn_wide (n := n)).1 (rangeG (F := Fence.wide) rfl h1 hg trivial eg hseq hKt hKb (Below.refl _ _) hps I (fun c pre W => c = .exit id ∧ I pre W ∧ Bk pre) hI (fun c s A B h k => ⟨h.1, hI _ _ _ h.2.1 k, h.2.2⟩) h0 (Ax a) hAx hassign hbody (fun D xs W hD hS hi hk => ?_) (fun D c pre W hD hS hi hk => ?_))
  · exact hgo D xs W hD (.inl hS) hi hk
  · obtain ⟨rfl, hi, hs⟩ := hi
    refine wpIn_wide.2 ?_
    have := hgo D pre W hD (.inr hs) hi hk
    refine wp_exit ?_
    simpa [Exit.inBlock] using this
end Go.Proofs.Ytpjmbhhfpoamnaa
