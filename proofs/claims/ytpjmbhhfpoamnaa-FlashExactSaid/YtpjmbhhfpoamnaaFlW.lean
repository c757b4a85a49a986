import Derived.Test.YtpjmbhhfpoamnaaFlash10
import Derived.Test.YtpjmbhhfpoamnaaMany
set_option linter.unusedVariables false
set_option linter.unusedSimpArgs false
namespace Go.Proofs.Ytpjmbhhfpoamnaa
open Go.RowKit
/-- the flash beside what came in -/
structure FlW (W w : World) (p : Nat) (s : FSt) : Prop where
  out : ∃ G, Fl w p G s ∧ ∀ x ∈ G, W.heap.size ≤ x
  below : Below W.heap.size W w
theorem FlW.then_ {W w w' : World} {p : Nat} {s : FSt} (h : FlW W w p s) (k : Below w.heap.size w w') : FlW W w' p s :=
  let ⟨G, h1, h2⟩ := h.out; ⟨⟨G, h1.below k, h2⟩, bthen h.below k⟩
theorem FlW.step {W w : World} {p : Nat} {s s' : FSt} (h : FlW W w p s) {Q : Ending → Prop} {f : FuncId} {args : Array Value} (hc : ∀ G, Fl w p G s → (∀ x ∈ G, W.heap.size ≤ x ∧ x < w.heap.size) → Calls Try.prog f args w fun e w' => Q e ∧ FStep w w' p G s') :
    Calls Try.prog f args w fun e w' => Q e ∧ FlW W w' p s' := by
  obtain ⟨G, h1, h2⟩ := h.out
  refine (hc G h1 (fun x hx => ⟨h2 x hx, h1.lts x hx⟩)).mono fun e w' ⟨he, k⟩ => ⟨he, ?_⟩
  obtain ⟨G', k1, k2, k3, _⟩ := k.below h.below h2
  exact ⟨⟨G', k1, k3⟩, k2⟩
end Go.Proofs.Ytpjmbhhfpoamnaa
