import Derived.Test.YtikjhandhgfohaaNums
import Derived.Test.YtikjhandhgfohaaOpenOp
set_option linter.unusedVariables false
set_option linter.unusedSimpArgs false
namespace Go.Proofs.Ytikjhandhgfohaa
open Go.RowKit

/-! ### the steps of layer 9 -/
structure St9 where
  kd : Int
  x : Nat
  b : List UInt8
  ns : List UInt64
  n : Int
  most : Int
instance : Inhabited St9 := ⟨⟨0, 0, [], [], 0, 0⟩⟩
structure StRd (w : World) (cs : List Value) (s : St9) : Prop where
  form : ∃ (ba : Option Addr) (bn bc : Nat) (la : Option Addr) (ln lc : Nat), cs = [.int .i64 s.kd, .int .u64 s.x, .slice ba bn bc, .slice la ln lc, .int .i64 s.n, .int .i64 s.most] ∧
    Sl w 1 ba bn bc (s.b.map by8) ∧ Sl w 1 la ln lc (s.ns.map by64) ∧ bn ≤ 140737488351232 ∧ ln * 8 ≤ 140737488351232
  x : s.x < 18446744073709551616
  kd : -9223372036854775808 ≤ s.kd ∧ s.kd ≤ 9223372036854775807
  n : -9223372036854775808 ≤ s.n ∧ s.n ≤ 9223372036854775807
  most : -9223372036854775808 ≤ s.most ∧ s.most ≤ 9223372036854775807
theorem StRd.below {w w' : World} {cs : List Value} {s : St9} (h : StRd w cs s) (k : Below w.heap.size w w') : StRd w' cs s := by
  obtain ⟨ba, bn, bc, la, ln, lc, e, h1, h2, h3, h4⟩ := h.form
  exact ⟨⟨ba, bn, bc, la, ln, lc, e, h1.below k, h2.below k, h3, h4⟩, h.x, h.kd, h.n, h.most⟩
structure Sts (w : World) (A : Option Addr) (n c : Nat) (vs : List Value) (ss : List St9) : Prop where
  sl : Sl w 6 A n c vs
  len : ss.length = n
  at_ : ∀ i s, ss[i]? = some s → ∃ cs, StRd w cs s ∧ ∀ j v, cs[j]? = some v → vs[i * 6 + j]? = some v
theorem Sts.below {w w' : World} {A : Option Addr} {n c : Nat} {vs : List Value} {ss : List St9} (h : Sts w A n c vs ss) (k : Below w.heap.size w w') : Sts w' A n c vs ss :=
  ⟨h.sl.below k, h.len, fun i s hi => by
    obtain ⟨cs, h1, h2⟩ := h.at_ i s hi
    exact ⟨cs, h1.below k, h2⟩⟩
/-- a step at its place -/
theorem Sts.get {w : World} {b off n c : Nat} {vs : List Value} {ss : List St9} (h : Sts w (some ⟨b, off, none⟩) n c vs ss) (i : Nat) (hi : i < ss.length) : ∃ (ba : Option Addr) (bn bc : Nat) (la : Option Addr) (ln lc : Nat),
    w.cell? ⟨b, off + i * 6, none⟩ = some (.int .i64 ss[i].kd) ∧ w.cell? ⟨b, off + i * 6 + 1, none⟩ = some (.int .u64 ss[i].x) ∧ w.cell? ⟨b, off + i * 6 + 2, none⟩ = some (.slice ba bn bc) ∧
    w.cell? ⟨b, off + i * 6 + 3, none⟩ = some (.slice la ln lc) ∧ w.cell? ⟨b, off + i * 6 + 4, none⟩ = some (.int .i64 ss[i].n) ∧ w.cell? ⟨b, off + i * 6 + 5, none⟩ = some (.int .i64 ss[i].most) ∧
    Sl w 1 ba bn bc (ss[i].b.map by8) ∧ Sl w 1 la ln lc (ss[i].ns.map by64) ∧ bn ≤ 140737488351232 ∧ ln * 8 ≤ 140737488351232 ∧ ss[i].x < 18446744073709551616 := by
  obtain ⟨cs, hr, hc⟩ := h.at_ i ss[i] (List.getElem?_eq_getElem hi)
  obtain ⟨ba, bn, bc, la, ln, lc, rfl, h1, h2, h3, h4⟩ := hr.form
  have g : ∀ j v, ([Value.int .i64 ss[i].kd, .int .u64 ss[i].x, .slice ba bn bc, .slice la ln lc, .int .i64 ss[i].n, .int .i64 ss[i].most] : List Value)[j]? = some v → w.cell? ⟨b, off + i * 6 + j, none⟩ = some v := fun j v hj => by
    have h5 := hc j v hj
    obtain ⟨h6, h7⟩ := List.getElem?_eq_some_iff.1 h5
    have h8 := h.sl.cell (i * 6 + j) h6
    rw [h7, ← Nat.add_assoc] at h8
    exact h8
  exact ⟨ba, bn, bc, la, ln, lc, g 0 _ rfl, g 1 _ rfl, g 2 _ rfl, g 3 _ rfl, g 4 _ rfl, g 5 _ rfl, h1, h2, h3, h4, hr.x⟩
theorem list6 {α : Type} {l : List α} (h : l.length = 6) : ∃ a b c d e f, l = [a, b, c, d, e, f] := by
  rcases l with _ | ⟨a, _ | ⟨b, _ | ⟨c, _ | ⟨d, _ | ⟨e, _ | ⟨f, _ | ⟨g, l⟩⟩⟩⟩⟩⟩⟩ <;> simp_all
section
variable {H : Type} {enc : TypeId × Value → H} {w : World}
end

/-- what the steps hold -/
def size9 (ss : List St9) : Nat := (ss.map fun s => s.b.length + 10 * s.ns.length).sum
theorem size9_take (ss : List St9) (k : Nat) (h : k < ss.length) : size9 (ss.take (k + 1)) = size9 (ss.take k) + (ss[k].b.length + 10 * ss[k].ns.length) := by
  unfold size9
  rw [List.take_succ_eq_append_getElem h, List.map_append, List.sum_append]
  simp
theorem size9_take_le (ss : List St9) (k : Nat) : size9 (ss.take k) ≤ size9 ss := by
  conv => rhs; rw [← List.take_append_drop k ss]
  unfold size9
  rw [List.map_append, List.sum_append]
  omega
end Go.Proofs.Ytikjhandhgfohaa
