import Derived.Test.YtpjmbhhfpoamnaaJm3
set_option linter.unusedVariables false
set_option linter.unusedSimpArgs false
namespace Go.Proofs.Ytpjmbhhfpoamnaa
open Go.RowKit
/-! ### the calls of layer 14 -/
structure Op14 where
  kd : Int
  data : List UInt8
  snap : List UInt8
  after : Int
  keep : Int
instance : Inhabited Op14 := ⟨⟨0, [], [], 0, 0⟩⟩
structure OpR14 (w : World) (cs : List Value) (s : Op14) : Prop where
  form : ∃ (a : Option Addr) (n c : Nat) (b : Option Addr) (m d : Nat), cs = [.int .i64 s.kd, .slice a n c, .slice b m d, .int .i64 s.after, .int .i64 s.keep] ∧ Sl w 1 a n c (s.data.map by8) ∧ n ≤ 140737488351232 ∧ Sl w 1 b m d (s.snap.map by8) ∧ m ≤ 140737488351232
  kd : -9223372036854775808 ≤ s.kd ∧ s.kd ≤ 9223372036854775807
  after : -9223372036854775808 ≤ s.after ∧ s.after ≤ 9223372036854775807
  keep : -9223372036854775808 ≤ s.keep ∧ s.keep ≤ 9223372036854775807
structure Ops14 (w : World) (A : Option Addr) (n c : Nat) (vs : List Value) (ss : List Op14) : Prop where
  sl : Sl w 5 A n c vs
  len : ss.length = n
  at_ : ∀ i s, ss[i]? = some s → ∃ cs, OpR14 w cs s ∧ ∀ j v, cs[j]? = some v → vs[i * 5 + j]? = some v
/-- a call at its place -/
theorem Ops14.get {w : World} {b off n c : Nat} {vs : List Value} {ss : List Op14} (h : Ops14 w (some ⟨b, off, none⟩) n c vs ss) (i : Nat) (hi : i < ss.length) : ∃ (da : Option Addr) (dn dc : Nat) (sa : Option Addr) (sn sc : Nat),
    w.cell? ⟨b, off + i * 5, none⟩ = some (.int .i64 ss[i].kd) ∧ w.cell? ⟨b, off + i * 5 + 1, none⟩ = some (.slice da dn dc) ∧ w.cell? ⟨b, off + i * 5 + 2, none⟩ = some (.slice sa sn sc) ∧
    w.cell? ⟨b, off + i * 5 + 3, none⟩ = some (.int .i64 ss[i].after) ∧ w.cell? ⟨b, off + i * 5 + 4, none⟩ = some (.int .i64 ss[i].keep) ∧
    Sl w 1 da dn dc (ss[i].data.map by8) ∧ dn ≤ 140737488351232 ∧ Sl w 1 sa sn sc (ss[i].snap.map by8) ∧ sn ≤ 140737488351232 := by
  obtain ⟨cs, hr, hc⟩ := h.at_ i ss[i] (List.getElem?_eq_getElem hi)
  obtain ⟨da, dn, dc, sa, sn, sc, rfl, h1, h2, h3, h4⟩ := hr.form
  have g : ∀ j v, ([Value.int .i64 ss[i].kd, .slice da dn dc, .slice sa sn sc, .int .i64 ss[i].after, .int .i64 ss[i].keep] : List Value)[j]? = some v → w.cell? ⟨b, off + i * 5 + j, none⟩ = some v := fun j v hj => by
    have h5 := hc j v hj
    obtain ⟨h6, h7⟩ := List.getElem?_eq_some_iff.1 h5
    have h8 := h.sl.cell (i * 5 + j) h6
    rw [h7, ← Nat.add_assoc] at h8
    exact h8
  exact ⟨da, dn, dc, sa, sn, sc, g 0 _ rfl, g 1 _ rfl, g 2 _ rfl, g 3 _ rfl, g 4 _ rfl, h1, h2, h3, h4⟩
theorem Sl.lt {w : World} {sz : Nat} {A : Option Addr} {n c : Nat} {vs : List Value} (h : Sl w sz A n c vs) (hz : 0 < sz := by decide) : ∀ ad, A = some ad → 0 < n → ad.block < w.heap.size := fun ad e hn => by
  have h0 : 0 < vs.length := by rw [h.len]; exact Nat.mul_pos hn hz
  have h1 := (h.at_ ad e h0).2 0 h0
  exact cell_lt (a := ⟨ad.block, ad.off + 0, none⟩) h1
section
variable {H : Type} {enc : TypeId × Value → H} {w : World}
theorem T0.op14 {cs : List Value} {d : DataW H} (h : T0 enc Try.prog w 97 cs d) (z : Szd Try.prog 97 d) : ∃ s, OpR14 w cs s := by
  obtain ⟨hl, ds, hdl, _, hf⟩ := h.struct z Try.underlying97 (by kernel_rfl) (by kernel_rfl)
  obtain ⟨c0, c1, c2, c3, c4, rfl⟩ := list5 hl
  obtain ⟨d0, d1, d2, d3, d4, rfl⟩ := list5 hdl
  obtain ⟨t0, z0⟩ := hf 0 _ c0 d0 rfl rfl rfl
  obtain ⟨t1, z1⟩ := hf 1 _ c1 d1 rfl rfl rfl
  obtain ⟨t2, z2⟩ := hf 2 _ c2 d2 rfl rfl rfl
  obtain ⟨t3, z3⟩ := hf 3 _ c3 d3 rfl rfl rfl
  obtain ⟨t4, z4⟩ := hf 4 _ c4 d4 rfl rfl rfl
  obtain ⟨n0, e0, w0⟩ := t0.int Try.underlying3
  obtain ⟨a1, m1, p1, l1, e1, s1, b1⟩ := t1.bytes z1 Try.underlying22 Try.underlying5 (by kernel_rfl) (by kernel_rfl)
  obtain ⟨a2, m2, p2, l2, e2, s2, b2⟩ := t2.bytes z2 Try.underlying22 Try.underlying5 (by kernel_rfl) (by kernel_rfl)
  obtain ⟨n3, e3, w3⟩ := t3.int Try.underlying3
  obtain ⟨n4, e4, w4⟩ := t4.int Try.underlying3
  injection e0 with e0; injection e1 with e1; injection e2 with e2; injection e3 with e3; injection e4 with e4
  subst e0; subst e1; subst e2; subst e3; subst e4
  exact ⟨⟨n0, l1, l2, n3, n4⟩, ⟨_, _, _, _, _, _, rfl, s1, b1, s2, b2⟩, wf_i64 w0, wf_i64 w3, wf_i64 w4⟩
theorem T0.ops14 {cs : List Value} {d : DataW H} (h : T0 enc Try.prog w 95 cs d) (z : Szd Try.prog 95 d) :
    ∃ (a : Option Addr) (len cap : Nat) (vs : List Value) (ss : List Op14), cs = [.slice a len cap] ∧ Ops14 w a len cap vs ss ∧ len ≤ 1954687338213 := by
  obtain ⟨a, len, cap, rows, ds, rfl, hl, hdl, hk, hs, hz, _, hel⟩ := h.slice z Try.underlying95 (k := 5) (by kernel_rfl) (by decide)
  have h72 : Try.prog.bytesOf 97 = 72 := by kernel_rfl
  rw [h72] at hz
  have hel2 : ∀ i, i < len → ∃ (s : Op14), ∃ r, rows[i]? = some r ∧ OpR14 w r s := by
    intro i hi
    have h1 : i < rows.length := by omega
    have h2 : i < ds.length := by omega
    obtain ⟨hT, hZ⟩ := hel i rows[i] ds[i] (List.getElem?_eq_getElem h1) (List.getElem?_eq_getElem h2)
    obtain ⟨s, hs⟩ := hT.op14 hZ
    exact ⟨s, rows[i], List.getElem?_eq_getElem h1, hs⟩
  obtain ⟨f, hf⟩ := choose_upto (n := len) (R := fun i (s : Op14) => ∃ r, rows[i]? = some r ∧ OpR14 w r s) hel2
  refine ⟨a, len, cap, rows.flatten, (List.range len).map f, rfl, ⟨hs, by simp, fun i s hs2 => ?_⟩, by omega⟩
  have hi : i < len := by
    have := (List.getElem?_eq_some_iff.1 hs2).1
    simpa using this
  have e : s = f i := by
    rw [List.getElem?_map, List.getElem?_range hi] at hs2
    exact (Option.some.inj hs2).symm
  subst e
  obtain ⟨r, h1, h2⟩ := hf i hi
  exact ⟨r, h2, fun j v hj => flatten_get 5 rows i j r v hk h1 hj⟩
end
end Go.Proofs.Ytpjmbhhfpoamnaa
