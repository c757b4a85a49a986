import Derived.Test.YtikjhandhgfohaaOpen
import Derived.Test.YtikjhandhgfohaaP33a
set_option linter.unusedVariables false
set_option linter.unusedSimpArgs false
namespace Go.Proofs.Ytikjhandhgfohaa
open Go.ChangeShapes Go.WideShapes Go.ChangeAt Go.RowKit
section
variable {H : Type} {enc : TypeId × Value → H} {P : Program} {w : World}
/-- a struct, whatever its fields -/
theorem T0.structG {t : TypeId} {cs : List Value} {d : DataW H} {fs : Array Field} (h : T0 enc P w t cs d) (z : Szd P t d) (ht : P.underlying t = some (.struct fs)) :
    cs.length = P.cellsOf t ∧ ∃ ds : List (DataW H), ds.length = fs.size ∧ d = .agg ds ∧ ∀ (j : Nat) (f : Field) (e : DataW H), fs[j]? = some f → ds[j]? = some e → T0 enc P w f.type ((cs.drop f.offset).take (P.cellsOf f.type)) e ∧ Szd P f.type e := by
  obtain ⟨fuel, ps, hf⟩ := h
  obtain ⟨xs, n, _, hx, hl, hxl, hfs⟩ := DataW.trod_struct ht hf
  injection hx with hx _
  subst hx
  refine ⟨hl, xs.map (·.1), by simpa using hxl, rfl, fun j f e hfj hej => ?_⟩
  have h1 := hfs j f hfj
  rw [List.getElem?_map] at hej
  cases hxj : xs[j]? with
  | none => rw [hxj] at hej; cases hej
  | some y =>
    rw [hxj] at hej h1
    obtain rfl := Option.some.inj hej
    refine ⟨⟨n, y.2, h1⟩, fun m hm => z m ?_⟩
    rw [DataW.weights, ht]
    refine DataW.weights_mem_each (j := j) (t := f.type) (d := y.1) ?_ ?_ m hm
    · simp [hfj]
    · simp [hxj]
theorem u8_wf {n : Int} (h : (Lit.int .u8 n).wf = true) : ∃ m : Nat, n = m ∧ m < 256 := by
  have hx : 0 ≤ n ∧ n ≤ 255 := by simpa [Lit.wf, IntKind.min, IntKind.max, IntKind.signed, IntKind.bits] using h
  exact ⟨n.toNat, by omega, by omega⟩
/-- eight bytes -/
theorem T0.arr8 {cs : List Value} {d : DataW H} (h : T0 enc Try.prog w 22 cs d) : ∃ t : Nat → Nat, (∀ i, t i < 256) ∧ cs = [.int .u8 (t 0), .int .u8 (t 1), .int .u8 (t 2), .int .u8 (t 3), .int .u8 (t 4), .int .u8 (t 5), .int .u8 (t 6), .int .u8 (t 7)] := by
  obtain ⟨fuel, ps, hf⟩ := h
  obtain ⟨xs, n, _, hx, hl, hxl, hfs⟩ := DataW.trod_array Try.underlying22 hf
  have hc : Try.prog.cellsOf 5 = 1 := by kernel_rfl
  have hc8 : Try.prog.cellsOf 22 = 8 := by kernel_rfl
  rw [hc8] at hl
  have hb : ∀ i, i < 8 → ∃ m : Nat, m < 256 ∧ cs[i]? = some (.int .u8 (m : Int)) := fun i hi => by
    have h1 := hfs i hi
    rw [hc, Nat.mul_one] at h1
    have h2 : xs[i]? = some (xs[i]'(by omega)) := List.getElem?_eq_getElem (by omega)
    rw [h2] at h1
    obtain ⟨m, h3, _, h4⟩ := DataW.trod_int Try.underlying5 h1
    obtain ⟨k, rfl, hk⟩ := u8_wf h4
    refine ⟨k, hk, ?_⟩
    have := congrArg (·[0]?) h3
    simpa [List.getElem?_take, List.getElem?_drop] using this
  obtain ⟨m0, k0, e0⟩ := hb 0 (by decide)
  obtain ⟨m1, k1, e1⟩ := hb 1 (by decide)
  obtain ⟨m2, k2, e2⟩ := hb 2 (by decide)
  obtain ⟨m3, k3, e3⟩ := hb 3 (by decide)
  obtain ⟨m4, k4, e4⟩ := hb 4 (by decide)
  obtain ⟨m5, k5, e5⟩ := hb 5 (by decide)
  obtain ⟨m6, k6, e6⟩ := hb 6 (by decide)
  obtain ⟨m7, k7, e7⟩ := hb 7 (by decide)
  refine ⟨fun i => match i with | 0 => m0 | 1 => m1 | 2 => m2 | 3 => m3 | 4 => m4 | 5 => m5 | 6 => m6 | 7 => m7 | _ => 0, fun i => ?_, ?_⟩
  · dsimp only
    split <;> first | assumption | decide
  · match cs, hl, e0, e1, e2, e3, e4, e5, e6, e7 with
    | [c0, c1, c2, c3, c4, c5, c6, c7], _, e0, e1, e2, e3, e4, e5, e6, e7 =>
      obtain rfl := Option.some.inj e0
      obtain rfl := Option.some.inj e1
      obtain rfl := Option.some.inj e2
      obtain rfl := Option.some.inj e3
      obtain rfl := Option.some.inj e4
      obtain rfl := Option.some.inj e5
      obtain rfl := Option.some.inj e6
      obtain rfl := Option.some.inj e7
      rfl
theorem T0.piece {cs : List Value} {d : DataW H} (h : T0 enc Try.prog w 25 cs d) (z : Szd Try.prog 25 d) :
    ∃ (x : Nat) (nd : Int) (t : Nat → Nat) (a : Option Addr) (n c : Nat) (l : List UInt8), cs = (pcA x nd t a n c).toList ∧ x < 256 ∧ (∀ i, t i < 256) ∧ Sl w 1 a n c (l.map by8) := by
  obtain ⟨hl, ds, hdl, rfl, hf⟩ := h.structG z Try.underlying25
  have hc : Try.prog.cellsOf 25 = 11 := by kernel_rfl
  have c1 : Try.prog.cellsOf 5 = 1 := by kernel_rfl
  have c2 : Try.prog.cellsOf 3 = 1 := by kernel_rfl
  have c3 : Try.prog.cellsOf 22 = 8 := by kernel_rfl
  have c4 : Try.prog.cellsOf 23 = 1 := by kernel_rfl
  rw [hc] at hl
  have hd4 : ds.length = 4 := hdl
  match cs, ds, hl, hd4 with
  | [v0, v1, v2, v3, v4, v5, v6, v7, v8, v9, v10], [d0, d1, d2, d3], _, _ =>
    have t0 : T0 enc Try.prog w 5 (([v0, v1, v2, v3, v4, v5, v6, v7, v8, v9, v10].drop 0).take (Try.prog.cellsOf 5)) d0 := (hf 0 _ d0 rfl rfl).1
    have t1 : T0 enc Try.prog w 3 (([v0, v1, v2, v3, v4, v5, v6, v7, v8, v9, v10].drop 1).take (Try.prog.cellsOf 3)) d1 := (hf 1 _ d1 rfl rfl).1
    have t2 : T0 enc Try.prog w 22 (([v0, v1, v2, v3, v4, v5, v6, v7, v8, v9, v10].drop 2).take (Try.prog.cellsOf 22)) d2 := (hf 2 _ d2 rfl rfl).1
    have t3 : T0 enc Try.prog w 23 (([v0, v1, v2, v3, v4, v5, v6, v7, v8, v9, v10].drop 10).take (Try.prog.cellsOf 23)) d3 := (hf 3 _ d3 rfl rfl).1
    have z3 : Szd Try.prog 23 d3 := (hf 3 _ d3 rfl rfl).2
    rw [c1] at t0; rw [c2] at t1; rw [c3] at t2; rw [c4] at t3
    obtain ⟨x0, h0, w0⟩ := t0.int Try.underlying5
    obtain ⟨nd, h1, w1⟩ := t1.int Try.underlying3
    obtain ⟨t, ht, h2⟩ := T0.arr8 t2
    obtain ⟨a, n, c, l, h3, hs, _⟩ := T0.bytes t3 z3 Try.underlying23 Try.underlying5 (by kernel_rfl) (by kernel_rfl)
    obtain ⟨x, rfl, hx⟩ := u8_wf w0
    simp at h0 h1 h2 h3
    obtain ⟨rfl, rfl, rfl, rfl, rfl, rfl, rfl, rfl⟩ := h2
    subst h0; subst h1; subst h3
    exact ⟨x, nd, t, a, n, c, l, rfl, hx, ht, hs⟩
end
end Go.Proofs.Ytikjhandhgfohaa
