import Derived.Test.YtdooabbeolfgfaaNums
import Derived.Test.YtdooabbeolfgfaaOpenOp
set_option linter.unusedVariables false
set_option linter.unusedSimpArgs false
namespace Go.Proofs.Ytdooabbeolfgfaa
open Go.RowKit

/-! ### the steps of layer 9 -/
structure St9 where
  kd : Int
  x : Nat
  b : List UInt8
  ns : List UInt64
  n : Int
  most : Int
instance : Inhabited St9 := ⟨⟨0, 0, [], [], 0, 0⟩⟩
structure StRd (w : World) (cs : List Value) (s : St9) : Prop where
  form : ∃ (ba : Option Addr) (bn bc : Nat) (la : Option Addr) (ln lc : Nat), cs = [.int .i64 s.kd, .int .u64 s.x, .slice ba bn bc, .slice la ln lc, .int .i64 s.n, .int .i64 s.most] ∧
    Sl w 1 ba bn bc (s.b.map by8) ∧ Sl w 1 la ln lc (s.ns.map by64) ∧ bn ≤ 140737488351232 ∧ ln * 8 ≤ 140737488351232
  x : s.x < 18446744073709551616
  kd : -9223372036854775808 ≤ s.kd ∧ s.kd ≤ 9223372036854775807
  n : -9223372036854775808 ≤ s.n ∧ s.n ≤ 9223372036854775807
  most : -9223372036854775808 ≤ s.most ∧ s.most ≤ 9223372036854775807
theorem StRd.below {w w' : World} {cs : List Value} {s : St9} (h : StRd w cs s) (k : Below w.heap.size w w') : StRd w' cs s := by
  obtain ⟨ba, bn, bc, la, ln, lc, e, h1, h2, h3, h4⟩ := h.form
  exact ⟨⟨ba, bn, bc, la, ln, lc, e, h1.below k, h2.below k, h3, h4⟩, h.x, h.kd, h.n, h.most⟩
structure Sts (w : World) (A : Option Addr) (n c : Nat) (vs : List Value) (ss : List St9) : Prop where
  sl : Sl w 6 A n c vs
  len : ss.length = n
  at_ : ∀ i s, ss[i]? = some s → ∃ cs, StRd w cs s ∧ ∀ j v, cs[j]? = some v → vs[i * 6 + j]? = some v
theorem Sts.below {w w' : World} {A : Option Addr} {n c : Nat} {vs : List Value} {ss : List St9} (h : Sts w A n c vs ss) (k : Below w.heap.size w w') : Sts w' A n c vs ss :=
  ⟨h.sl.below k, h.len, fun i s hi => by
    obtain ⟨cs, h1, h2⟩ := h.at_ i s hi
    exact ⟨cs, h1.below k, h2⟩⟩
/-- a step at its place -/
theorem Sts.get {w : World} {b off n c : Nat} {vs : List Value} {ss : List St9} (h : Sts w (some ⟨b, off, none⟩) n c vs ss) (i : Nat) (hi : i < ss.length) : ∃ (ba : Option Addr) (bn bc : Nat) (la : Option Addr) (ln lc : Nat),
    w.cell? ⟨b, off + i * 6, none⟩ = some (.int .i64 ss[i].kd) ∧ w.cell? ⟨b, off + i * 6 + 1, none⟩ = some (.int .u64 ss[i].x) ∧ w.cell? ⟨b, off + i * 6 + 2, none⟩ = some (.slice ba bn bc) ∧
    w.cell? ⟨b, off + i * 6 + 3, none⟩ = some (.slice la ln lc) ∧ w.cell? ⟨b, off + i * 6 + 4, none⟩ = some (.int .i64 ss[i].n) ∧ w.cell? ⟨b, off + i * 6 + 5, none⟩ = some (.int .i64 ss[i].most) ∧
    Sl w 1 ba bn bc (ss[i].b.map by8) ∧ Sl w 1 la ln lc (ss[i].ns.map by64) ∧ bn ≤ 140737488351232 ∧ ln * 8 ≤ 140737488351232 ∧ ss[i].x < 18446744073709551616 := by
  obtain ⟨cs, hr, hc⟩ := h.at_ i ss[i] (List.getElem?_eq_getElem hi)
  obtain ⟨ba, bn, bc, la, ln, lc, rfl, h1, h2, h3, h4⟩ := hr.form
  have g : ∀ j v, ([Value.int .i64 ss[i].kd, .int .u64 ss[i].x, .slice ba bn bc, .slice la ln lc, .int .i64 ss[i].n, .int .i64 ss[i].most] : List Value)[j]? = some v → w.cell? ⟨b, off + i * 6 + j, none⟩ = some v := fun j v hj => by
    have h5 := hc j v hj
    obtain ⟨h6, h7⟩ := List.getElem?_eq_some_iff.1 h5
    have h8 := h.sl.cell (i * 6 + j) h6
    rw [h7, ← Nat.add_assoc] at h8
    exact h8
  exact ⟨ba, bn, bc, la, ln, lc, g 0 _ rfl, g 1 _ rfl, g 2 _ rfl, g 3 _ rfl, g 4 _ rfl, g 5 _ rfl, h1, h2, h3, h4, hr.x⟩
theorem list6 {α : Type} {l : List α} (h : l.length = 6) : ∃ a b c d e f, l = [a, b, c, d, e, f] := by
  rcases l with _ | ⟨a, _ | ⟨b, _ | ⟨c, _ | ⟨d, _ | ⟨e, _ | ⟨f, _ | ⟨g, l⟩⟩⟩⟩⟩⟩⟩ <;> simp_all
section
variable {H : Type} {enc : TypeId × Value → H} {w : World}
theorem T0.step9 {cs : List Value} {d : DataW H} (h : T0 enc Try.prog w 70 cs d) (z : Szd Try.prog 70 d) : ∃ s, StRd w cs s := by
  obtain ⟨hl, ds, hdl, _, hf⟩ := h.struct z Try.underlying70 (by kernel_rfl) (by kernel_rfl)
  obtain ⟨c0, c1, c2, c3, c4, c5, rfl⟩ := list6 hl
  obtain ⟨d0, d1, d2, d3, d4, d5, rfl⟩ := list6 hdl
  obtain ⟨t0, z0⟩ := hf 0 _ c0 d0 rfl rfl rfl
  obtain ⟨t1, z1⟩ := hf 1 _ c1 d1 rfl rfl rfl
  obtain ⟨t2, z2⟩ := hf 2 _ c2 d2 rfl rfl rfl
  obtain ⟨t3, z3⟩ := hf 3 _ c3 d3 rfl rfl rfl
  obtain ⟨t4, z4⟩ := hf 4 _ c4 d4 rfl rfl rfl
  obtain ⟨t5, z5⟩ := hf 5 _ c5 d5 rfl rfl rfl
  obtain ⟨n0, e0, w0⟩ := t0.int Try.underlying3
  obtain ⟨n1, e1, w1⟩ := t1.int Try.underlying23
  obtain ⟨a2, m2, p2, l2, e2, s2, b2⟩ := t2.bytes z2 Try.underlying24 Try.underlying5 (by kernel_rfl) (by kernel_rfl)
  obtain ⟨a3, m3, p3, l3, e3, s3, b3⟩ := t3.u64s z3 Try.underlying68 Try.underlying23 (by kernel_rfl) (by kernel_rfl)
  obtain ⟨n4, e4, w4⟩ := t4.int Try.underlying3
  obtain ⟨n5, e5, w5⟩ := t5.int Try.underlying3
  obtain ⟨m1, rfl, k1⟩ := wf_u64 w1
  injection e0 with e0; injection e1 with e1; injection e2 with e2; injection e3 with e3; injection e4 with e4; injection e5 with e5
  subst e0; subst e1; subst e2; subst e3; subst e4; subst e5
  exact ⟨⟨n0, m1, l2, l3, n4, n5⟩, ⟨_, _, _, _, _, _, rfl, s2, s3, b2, by omega⟩, k1, wf_i64 w0, wf_i64 w4, wf_i64 w5⟩
theorem T0.steps9 {cs : List Value} {d : DataW H} (h : T0 enc Try.prog w 60 cs d) (z : Szd Try.prog 60 d) :
    ∃ (a : Option Addr) (len cap : Nat) (vs : List Value) (ss : List St9), cs = [.slice a len cap] ∧ Sts w a len cap vs ss := by
  obtain ⟨a, len, cap, rows, ds, rfl, hl, hdl, hk, hs, hz, _, hel⟩ := h.slice z Try.underlying60 (k := 6) (by kernel_rfl) (by decide)
  have hel2 : ∀ i, i < len → ∃ (s : St9), ∃ r, rows[i]? = some r ∧ StRd w r s := by
    intro i hi
    have h1 : i < rows.length := by omega
    have h2 : i < ds.length := by omega
    obtain ⟨hT, hZ⟩ := hel i rows[i] ds[i] (List.getElem?_eq_getElem h1) (List.getElem?_eq_getElem h2)
    obtain ⟨s, hs⟩ := hT.step9 hZ
    exact ⟨s, rows[i], List.getElem?_eq_getElem h1, hs⟩
  obtain ⟨f, hf⟩ := choose_upto (n := len) (R := fun i (s : St9) => ∃ r, rows[i]? = some r ∧ StRd w r s) hel2
  refine ⟨a, len, cap, rows.flatten, (List.range len).map f, rfl, ⟨hs, by simp, fun i s hs2 => ?_⟩⟩
  have hi : i < len := by
    have := (List.getElem?_eq_some_iff.1 hs2).1
    simpa using this
  have e : s = f i := by
    rw [List.getElem?_map, List.getElem?_range hi] at hs2
    exact (Option.some.inj hs2).symm
  subst e
  obtain ⟨r, h1, h2⟩ := hf i hi
  exact ⟨r, h2, fun j v hj => flatten_get 6 rows i j r v hk h1 hj⟩
end

/-- what the steps hold -/
def size9 (ss : List St9) : Nat := (ss.map fun s => s.b.length + 10 * s.ns.length).sum
theorem size9_take (ss : List St9) (k : Nat) (h : k < ss.length) : size9 (ss.take (k + 1)) = size9 (ss.take k) + (ss[k].b.length + 10 * ss[k].ns.length) := by
  unfold size9
  rw [List.take_succ_eq_append_getElem h, List.map_append, List.sum_append]
  simp
theorem size9_take_le (ss : List St9) (k : Nat) : size9 (ss.take k) ≤ size9 ss := by
  conv => rhs; rw [← List.take_append_drop k ss]
  unfold size9
  rw [List.map_append, List.sum_append]
  omega
set_option maxHeartbeats 800000 in
theorem size09 (w : World) {A : Option Addr} {n c : Nat} {vs : List Value} {ss : List St9} (h : Sts w A n c vs ss) (hn : n ≤ 300) :
    Calls Try.prog 40 #[.slice A n c] w fun e w' => ∃ r : Nat, e = .returned (.int .i64 r) ∧ (100000 < r ↔ 100000 < size9 ss) ∧ Drawn w w' := by
  have hl := Lib.hid h.len
  have m1 := h.sl.le; have m2 := h.sl.max
  obtain ⟨T, hT⟩ : ∃ T, T = size9 ss := ⟨_, rfl⟩
  have HT := Lib.hid hT
  rw [← hT]
  clear hT
  go_enter Try.func40, Try.ntmps40
  go_wp2
  go_loopw [3, 4] (fun m i wr => ∃ (k q : Nat), k ≤ n ∧ i = .int .i64 k ∧ m = .int .i64 q ∧ q ≤ 100000 ∧ Hid (q = size9 (ss.take k)) ∧ Drawn w wr) (fun _ i _ => n - (intOf i).toNat)
  case atStart => exact ⟨0, 0, by omega, rfl, rfl, by omega, Lib.hid rfl, Drawn.refl _⟩
  case round =>
    obtain ⟨k, q, hk, rfl, rfl, hq, hqs, hw⟩ := hrel
    obtain ⟨t, rfl⟩ := hw.out
    by_cases hlt : k < n
    · obtain ⟨b, off, rfl⟩ := h.sl.form (by omega)
      obtain ⟨ba, bn, bc, la, ln, lc, g0, g1, g2, g3, g4, g5, s1, s2, h3, h4, h5⟩ := h.get k (by rw [hl.out]; exact hlt)
      have hk0 : (0 : Int) ≤ (k : Int) := Int.natCast_nonneg _
      have hk1 : (k : Int) < (n : Int) := by omega
      have HQ : Hid (q + bn + 10 * ln = size9 (ss.take (k + 1))) := Lib.hid (by
        have hkl : k < ss.length := by rw [hl.out]; exact hlt
        have e1 : ss[k].b.length = bn := by simpa using s1.len
        have e2 : ss[k].ns.length = ln := by simpa using s2.len
        rw [size9_take ss k (by rw [hl.out]; exact hlt), ← hqs.out, e1, e2]; omega)
      have HLe := Lib.hid (size9_take_le ss (k + 1))
      clear g0 g1 g4 g5 s1 s2
      go_wp2
      go_quiet (fail)
      by_cases hbig : 100000 < q + bn + 10 * ln
      · have HF : Hid (100000 < q + bn + 10 * ln ↔ 100000 < T) := Lib.hid ⟨fun _ => by rw [HT.out]; have := HLe.out; rw [← HQ.out] at this; omega, fun _ => hbig⟩
        go_wp2
        go_ret
        exact ⟨q + bn + 10 * ln, by simp, HF.out, (by first | exact ⟨⟨_, rfl⟩⟩ | exact ⟨⟨_, World.drewN_drewN ..⟩⟩)⟩
      · go_wp2
        first | go_roundw | refine ⟨?rel, ?measure⟩
        case rel => exact ⟨k + 1, q + bn + 10 * ln, by omega, by go_num, by go_num, by omega, HQ, (by first | exact ⟨⟨_, rfl⟩⟩ | exact ⟨⟨_, World.drewN_drewN ..⟩⟩)⟩
        case measure => simp [intOf]; omega
    · obtain rfl : k = n := by omega
      have HE : Hid (100000 < q ↔ 100000 < T) := Lib.hid (by rw [hqs.out, HT.out, List.take_of_length_le (Nat.le_of_eq hl.out)])
      go_wp2
      go_ret
      exact ⟨q, rfl, HE.out, hw⟩
end Go.Proofs.Ytdooabbeolfgfaa
