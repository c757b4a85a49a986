import Derived.Test.YtcpbdgedbjbgfaaDoorOpen
import Derived.Test.YtcpbdgedbjbgfaaDoorShShow
set_option linter.unusedVariables false
set_option linter.unusedSimpArgs false
namespace Go.Proofs.YtcpbdgedbjbgfaaDoor
open Go.ChangeShapes Go.WideShapes Go.ChangeAt Go.RowKit
open Go.Deep (oneCellFields hone_of)
section
variable {H : Type} {enc : TypeId × Value → H} {w : World}
theorem bI_wf {n : Int} (h : (Lit.int .i64 n).wf = true) : bI n := by
  unfold bI
  simpa [Lit.wf, IntKind.min, IntKind.max, IntKind.signed, IntKind.bits] using h
theorem T0.i64s {cs : List Value} {d : DataW H} (h : T0 enc Tryd.prog w 23 cs d) (z : Szd Tryd.prog 23 d) :
    ∃ (a : Option Addr) (len cap : Nat) (l : List Int), cs = [.slice a len cap] ∧ Sl w 1 a len cap (l.map (Value.int .i64)) ∧ ∀ k ∈ l, bI k := by
  obtain ⟨a, len, cap, rows, ds, rfl, hl, hdl, hk, hs, hz, _, hel⟩ := h.slice z Tryd.underlying23 (k := 1) (by kernel_rfl) (by decide)
  have hrow : ∀ i (hi : i < rows.length), ∃ n, rows[i] = [.int .i64 n] ∧ bI n := fun i hi => by
    have hdi : i < ds.length := by omega
    obtain ⟨hT, _⟩ := hel i rows[i] ds[i] (List.getElem?_eq_getElem hi) (List.getElem?_eq_getElem hdi)
    obtain ⟨n, hn, hwf⟩ := hT.int Tryd.underlying2
    exact ⟨n, hn, bI_wf hwf⟩
  have e1 : (rows.map fun r => match r with | [.int _ n] => n | _ => 0).map (Value.int .i64) = rows.flatten := by
    refine List.ext_getElem (by rw [flatten_len 1 _ hk]; simp) fun i h1 h2 => ?_
    have hi : i < rows.length := by simpa using h1
    obtain ⟨n, hn, -⟩ := hrow i hi
    have h3 := flatten_get 1 rows i 0 rows[i] (.int .i64 n) hk (List.getElem?_eq_getElem hi) (by rw [hn]; rfl)
    simp only [List.getElem_map, hn]
    rw [Nat.mul_one, Nat.add_zero, List.getElem?_eq_getElem h2] at h3
    exact (Option.some.inj h3).symm
  refine ⟨a, len, cap, _, rfl, by rw [e1]; exact hs, fun k hk2 => ?_⟩
  obtain ⟨r, hr, rfl⟩ := List.mem_map.1 hk2
  obtain ⟨i, hi, rfl⟩ := List.getElem_of_mem hr
  obtain ⟨n, hn, hb⟩ := hrow i hi
  rw [hn]
  exact hb
theorem T0.reply {cs : List Value} {d : DataW H} (h : T0 enc Tryd.prog w 25 cs d) (z : Szd Tryd.prog 25 d) :
    ∃ (er : Int) (a : Option Addr) (len cap : Nat) (l : List Int), cs = [.int .i64 er, .slice a len cap] ∧ bI er ∧ Sl w 1 a len cap (l.map (Value.int .i64)) ∧ ∀ k ∈ l, bI k := by
  obtain ⟨hl, ds, hdl, rfl, hf⟩ := h.struct z Tryd.underlying25 (by kernel_rfl) (by kernel_rfl)
  have h2 : cs.length = 2 := hl
  have hd2 : ds.length = 2 := hdl
  match cs, ds, h2, hd2 with
  | [c0, c1], [d0, d1], _, _ =>
    obtain ⟨t0, -⟩ := hf 0 _ c0 d0 rfl rfl rfl
    obtain ⟨t1, z1⟩ := hf 1 _ c1 d1 rfl rfl rfl
    obtain ⟨er, he, hw⟩ := t0.int Tryd.underlying22
    obtain ⟨a, len, cap, l, hs, hsl, hb⟩ := T0.i64s t1 z1
    obtain rfl := List.cons.inj he |>.1
    obtain rfl := List.cons.inj hs |>.1
    exact ⟨er, a, len, cap, l, rfl, bI_wf hw, hsl, hb⟩
end
end Go.Proofs.YtcpbdgedbjbgfaaDoor
