import Derived.Test.YtikjhandhgfohaaOpen
set_option linter.unusedVariables false
set_option linter.unusedSimpArgs false
namespace Go.Proofs.Ytikjhandhgfohaa
open Go.ChangeShapes Go.WideShapes Go.ChangeAt Go.RowKit
section
variable {H : Type} {enc : TypeId × Value → H} {w : World}
theorem list8 {α : Type} {l : List α} (h : l.length = 8) : ∃ a b c d e f g i, l = [a, b, c, d, e, f, g, i] := by
  match l, h with
  | [a, b, c, d, e, f, g, i], _ => exact ⟨a, b, c, d, e, f, g, i, rfl⟩
theorem choose_upto {α : Type} [Inhabited α] {n : Nat} {R : Nat → α → Prop} (h : ∀ i, i < n → ∃ x, R i x) : ∃ f : Nat → α, ∀ i, i < n → R i (f i) :=
  ⟨fun i => if hi : i < n then (h i hi).choose else default, fun i hi => by simp only [dif_pos hi]; exact (h i hi).choose_spec⟩
theorem T0.bytess {cs : List Value} {d : DataW H} (h : T0 enc Try.prog w 27 cs d) (z : Szd Try.prog 27 d) :
    ∃ (a : Option Addr) (len cap : Nat) (vs : List Value) (ll : List (List UInt8)), cs = [.slice a len cap] ∧ Sls w a len cap vs ll ∧ len * 24 ≤ 140737488351232 := by
  obtain ⟨a, len, cap, rows, ds, rfl, hl, hdl, hk, hs, hz, _, hel⟩ := h.slice z Try.underlying27 (k := 1) (by kernel_rfl) (by decide)
  have hb : Try.prog.bytesOf 23 = 24 := by kernel_rfl
  rw [hb] at hz
  have hel2 : ∀ i, i < len → ∃ (a : Option Addr) (m c : Nat) (l : List UInt8), rows[i]? = some [.slice a m c] ∧ Sl w 1 a m c (l.map by8) ∧ m ≤ 140737488351232 := by
    intro i hi
    have h1 : i < rows.length := by omega
    have h2 : i < ds.length := by omega
    obtain ⟨hT, hZ⟩ := hel i rows[i] ds[i] (List.getElem?_eq_getElem h1) (List.getElem?_eq_getElem h2)
    obtain ⟨a, m, c, l, e1, e2, e3⟩ := hT.bytes hZ Try.underlying23 Try.underlying5 (by kernel_rfl) (by kernel_rfl)
    exact ⟨a, m, c, l, by rw [List.getElem?_eq_getElem h1, e1], e2, e3⟩
  have hch := choose_upto (n := len) (R := fun i (l : List UInt8) => ∃ (a : Option Addr) (m c : Nat), rows[i]? = some [.slice a m c] ∧ Sl w 1 a m c (l.map by8) ∧ m ≤ 140737488351232) (fun i hi => by
    obtain ⟨a, m, c, l, h1, h2, h3⟩ := hel2 i hi
    exact ⟨l, a, m, c, h1, h2, h3⟩)
  obtain ⟨f, hf⟩ := hch
  refine ⟨a, len, cap, rows.flatten, (List.range len).map f, rfl, ⟨hs, by simp, fun i l hl2 => ?_⟩, hz⟩
  have hi : i < len := by
    have := (List.getElem?_eq_some_iff.1 hl2).1
    simpa using this
  have e : l = f i := by
    rw [List.getElem?_map, List.getElem?_range hi] at hl2
    exact (Option.some.inj hl2).symm
  subst e
  obtain ⟨a, m, c, h1, h2, h3⟩ := hf i hi
  refine ⟨a, m, c, ?_, h2, h3⟩
  have := flatten_get 1 rows i 0 _ (.slice a m c) hk h1 rfl
  simpa using this
/-- an operation of layer 1 -/
structure OpRd (w : World) (cs : List Value) (kd : Int) (a : Nat) (l : Nat) (n : Int) (x y : List UInt8) (ll : List (List UInt8)) (s : ByteArray) : Prop where
  form : ∃ (xa : Option Addr) (xn xc : Nat) (ya : Option Addr) (yn yc : Nat) (pa : Option Addr) (pn pc : Nat) (vs : List Value),
    cs = [.int .i64 kd, .int .u32 a, .int .u64 l, .int .i64 n, .slice xa xn xc, .slice ya yn yc, .slice pa pn pc, .string s] ∧
    Sl w 1 xa xn xc (x.map by8) ∧ Sl w 1 ya yn yc (y.map by8) ∧ Sls w pa pn pc vs ll ∧ xn ≤ 140737488351232 ∧ yn ≤ 140737488351232 ∧ pn * 24 ≤ 140737488351232
  kd : -9223372036854775808 ≤ kd ∧ kd ≤ 9223372036854775807
  a : a < 4294967296
  l : l < 18446744073709551616
  n : -9223372036854775808 ≤ n ∧ n ≤ 9223372036854775807
  s : s.size ≤ 140737488351232
end
end Go.Proofs.Ytikjhandhgfohaa
