import Derived.Test.YtpjmbhhfpoamnaaOpenOp
set_option linter.unusedVariables false
set_option linter.unusedSimpArgs false
namespace Go.Proofs.Ytpjmbhhfpoamnaa
open Go.ChangeShapes Go.WideShapes Go.ChangeAt Go.RowKit
section
variable {H : Type} {enc : TypeId × Value → H} {w : World}
theorem bulk_posF (d : DataW H) : 1 ≤ Rows.uptoBulk d := by
  cases d with
  | lit l => cases l <;> simp [Rows.uptoBulk]
  | _ => simp [Rows.uptoBulk]
theorem bulk_lenF : ∀ (es : List (DataW H)), es.length ≤ Rows.uptoBulkAll es
  | [] => by simp
  | d :: r => by
    have h1 := bulk_posF d
    have h2 := bulk_lenF r
    simp only [List.length_cons, Rows.uptoBulkAll]
    omega
/-- how much operations hold, the first j of them -/
def tot (sz : Nat → Nat) : Nat → Nat
  | 0 => 0
  | j + 1 => tot sz j + (sz j + 1)
theorem tot_shift (sz : Nat → Nat) : ∀ j, tot sz (j + 1) = sz 0 + 1 + tot (fun i => sz (i + 1)) j
  | 0 => by simp [tot]
  | j + 1 => by rw [tot, tot_shift sz j, tot]; omega
theorem tot_bulk : ∀ (ds : List (DataW H)) (sz : Nat → Nat), (∀ (i : Nat) x, ds[i]? = some x → sz i + 1 ≤ Rows.uptoBulk x) → tot sz ds.length ≤ Rows.uptoBulkAll ds
  | [], _, _ => by simp [tot]
  | d :: r, sz, h => by
    rw [List.length_cons, tot_shift, Rows.uptoBulkAll]
    have h1 := h 0 d rfl
    have h2 := tot_bulk r (fun i => sz (i + 1)) (fun i x hx => h (i + 1) x (by simpa using hx))
    omega
theorem tot_mono (sz : Nat → Nat) (i : Nat) : ∀ j, i ≤ j → tot sz i ≤ tot sz j
  | 0, h => by rw [show i = 0 by omega]; exact Nat.le_refl _
  | j + 1, h => by
    by_cases he : i = j + 1
    · rw [he]; exact Nat.le_refl _
    · have := tot_mono sz i j (by omega)
      rw [tot]; omega
/-- what k plays put on the shelf at the most -/
def cost (sz : Nat → Nat) (n : Nat) : Nat → Nat
  | 0 => 0
  | k + 1 => cost sz n k + (2 * sz (k % n) + 4)
theorem cost_one (sz : Nat → Nat) (n : Nat) : ∀ k, k ≤ n → cost sz n k ≤ 4 * tot sz k
  | 0, _ => by simp [cost]
  | k + 1, h => by
    have := cost_one sz n k (by omega)
    rw [cost, tot, Nat.mod_eq_of_lt (by omega)]
    omega
theorem cost_two (sz : Nat → Nat) (n : Nat) : ∀ j, j ≤ n → cost sz n (n + j) ≤ 4 * tot sz n + 4 * tot sz j
  | 0, _ => by have := cost_one sz n n (Nat.le_refl _); simp [tot]; exact this
  | j + 1, h => by
    have := cost_two sz n j (by omega)
    rw [← Nat.add_assoc, cost, tot, Nat.add_mod_left, Nat.mod_eq_of_lt (by omega)]
    omega
theorem cost_le (sz : Nat → Nat) (n k : Nat) (h : k ≤ 2 * n) : cost sz n k ≤ 8 * tot sz n := by
  by_cases hk : k ≤ n
  · have h1 := cost_one sz n k hk
    have h2 := tot_mono sz k n hk
    omega
  · have h1 := cost_two sz n (k - n) (by omega)
    have h2 := tot_mono sz (k - n) n (by omega)
    rw [show n + (k - n) = k by omega] at h1
    omega
/-- an operation of layer 13 -/
structure FOp (w : World) (cs : List Value) (s : Nat) : Prop where
  form : ∃ (a1 : Option Addr) (c1 : Nat) (at_ : Int) (kk : UInt8) (a2 : Option Addr) (m c2 : Nat) (lv : Int) (l q : List UInt8), cs = [.slice a1 s c1, .int .i64 at_, .int .u8 (kk.toNat : Int), .slice a2 m c2, .int .i64 lv] ∧ Sl w 1 a1 s c1 (l.map by8) ∧ Sl w 1 a2 m c2 (q.map by8)
theorem list5 {α : Type} {l : List α} (h : l.length = 5) : ∃ a b c d e, l = [a, b, c, d, e] := by
  match l, h with
  | [a, b, c, d, e], _ => exact ⟨a, b, c, d, e, rfl⟩
theorem T0.op13 {cs : List Value} {d : DataW H} (h : T0 enc Try.prog w 92 cs d) (z : Szd Try.prog 92 d) : ∃ s, FOp w cs s ∧ s + 1 ≤ Rows.uptoBulk d := by
  obtain ⟨hl, ds, hdl, rfl, hf⟩ := h.struct z Try.underlying92 (by kernel_rfl) (by kernel_rfl)
  obtain ⟨c0, c1, c2, c3, c4, rfl⟩ := list5 hl
  obtain ⟨d0, d1, d2, d3, d4, rfl⟩ := list5 hdl
  obtain ⟨t0, z0⟩ := hf 0 _ c0 d0 rfl rfl rfl
  obtain ⟨t1, z1⟩ := hf 1 _ c1 d1 rfl rfl rfl
  obtain ⟨t2, z2⟩ := hf 2 _ c2 d2 rfl rfl rfl
  obtain ⟨t3, z3⟩ := hf 3 _ c3 d3 rfl rfl rfl
  obtain ⟨t4, z4⟩ := hf 4 _ c4 d4 rfl rfl rfl
  obtain ⟨a0, m0, p0, l0, e0, s0, b0⟩ := t0.bytes z0 Try.underlying22 Try.underlying5 (by kernel_rfl) (by kernel_rfl)
  obtain ⟨a0', len0, cap0, rows, es, e0', _, hes, _, _, _, hd0, _⟩ := t0.slice z0 Try.underlying22 (k := 1) (by kernel_rfl) (by decide)
  obtain ⟨n1, e1, w1⟩ := t1.int Try.underlying3
  obtain ⟨n2, e2, w2⟩ := t2.int Try.underlying5
  obtain ⟨a3, m3, p3, l3, e3, s3, b3⟩ := t3.bytes z3 Try.underlying22 Try.underlying5 (by kernel_rfl) (by kernel_rfl)
  obtain ⟨n4, e4, w4⟩ := t4.int Try.underlying3
  obtain ⟨m2, rfl, k2⟩ := wf_u8 w2
  rw [e0] at e0'
  injection e0' with e0'
  injection e0' with f1 f2 f3
  subst f1; subst f2; subst f3
  injection e0 with e0; injection e1 with e1; injection e2 with e2; injection e3 with e3; injection e4 with e4
  subst e0; subst e1; subst e2; subst e3; subst e4
  refine ⟨m0, ⟨a0, p0, n1, UInt8.ofNat m2, a3, m3, p3, n4, l0, l3, by rw [UInt8.toNat_ofNat', Nat.mod_eq_of_lt k2], s0, s3⟩, ?_⟩
  simp only [Rows.uptoBulk, Rows.uptoBulkAll]
  rcases hd0 with ⟨_, h0⟩ | ⟨sp, h0⟩
  · omega
  · rw [h0, Rows.uptoBulk]
    have := bulk_lenF es
    omega
structure Ops13 (w : World) (A : Option Addr) (n c : Nat) (vs : List Value) (sz : Nat → Nat) : Prop where
  sl : Sl w 5 A n c vs
  at_ : ∀ i, i < n → ∃ cs, FOp w cs (sz i) ∧ ∀ (j : Nat) v, cs[j]? = some v → vs[i * 5 + j]? = some v
theorem Ops13.get {w : World} {b off n c : Nat} {vs : List Value} {sz : Nat → Nat} (h : Ops13 w (some ⟨b, off, none⟩) n c vs sz) (i : Nat) (hi : i < n) : ∃ (a1 : Option Addr) (c1 : Nat) (at_ : Int) (kk : UInt8) (a2 : Option Addr) (m c2 : Nat) (lv : Int) (l q : List UInt8),
    (w.cell? ⟨b, off + i * 5, none⟩ = some (.slice a1 (sz i) c1) ∧ w.cell? ⟨b, off + i * 5 + 1, none⟩ = some (.int .i64 at_) ∧ w.cell? ⟨b, off + i * 5 + 2, none⟩ = some (.int .u8 (kk.toNat : Int)) ∧ w.cell? ⟨b, off + i * 5 + 3, none⟩ = some (.slice a2 m c2) ∧ w.cell? ⟨b, off + i * 5 + 4, none⟩ = some (.int .i64 lv)) ∧
    Sl w 1 a1 (sz i) c1 (l.map by8) ∧ Sl w 1 a2 m c2 (q.map by8) := by
  obtain ⟨cs, hr, hc⟩ := h.at_ i hi
  obtain ⟨a1, c1, at_, kk, a2, m, c2, lv, l, q, rfl, h1, h2⟩ := hr.form
  have g : ∀ (j : Nat) v, ([Value.slice a1 (sz i) c1, .int .i64 at_, .int .u8 (kk.toNat : Int), .slice a2 m c2, .int .i64 lv] : List Value)[j]? = some v → w.cell? ⟨b, off + i * 5 + j, none⟩ = some v := fun j v hj => by
    have h5 := hc j v hj
    obtain ⟨h6, h7⟩ := List.getElem?_eq_some_iff.1 h5
    have h8 := h.sl.cell (i * 5 + j) h6
    rw [h7, ← Nat.add_assoc] at h8
    exact h8
  exact ⟨a1, c1, at_, kk, a2, m, c2, lv, l, q, ⟨g 0 _ rfl, g 1 _ rfl, g 2 _ rfl, g 3 _ rfl, g 4 _ rfl⟩, h1, h2⟩
theorem T0.ops13 {cs : List Value} {d : DataW H} (h : T0 enc Try.prog w 87 cs d) (z : Szd Try.prog 87 d) :
    ∃ (a : Option Addr) (len cap : Nat) (vs : List Value) (sz : Nat → Nat), cs = [.slice a len cap] ∧ Ops13 w a len cap vs sz ∧ tot sz len ≤ Rows.uptoBulk d := by
  obtain ⟨a, len, cap, rows, ds, rfl, hl, hdl, hk, hs, hz, hd, hel⟩ := h.slice z Try.underlying87 (k := 5) (by kernel_rfl) (by decide)
  have hel2 : ∀ i, i < len → ∃ (s : Nat), ∃ r x, rows[i]? = some r ∧ ds[i]? = some x ∧ FOp w r s ∧ s + 1 ≤ Rows.uptoBulk x := by
    intro i hi
    have h1 : i < rows.length := by omega
    have h2 : i < ds.length := by omega
    obtain ⟨hT, hZ⟩ := hel i rows[i] ds[i] (List.getElem?_eq_getElem h1) (List.getElem?_eq_getElem h2)
    obtain ⟨s, hs1, hs2⟩ := hT.op13 hZ
    exact ⟨s, rows[i], ds[i], List.getElem?_eq_getElem h1, List.getElem?_eq_getElem h2, hs1, hs2⟩
  obtain ⟨sz, hf⟩ := choose_upto (n := len) (R := fun i (s : Nat) => ∃ r x, rows[i]? = some r ∧ ds[i]? = some x ∧ FOp w r s ∧ s + 1 ≤ Rows.uptoBulk x) hel2
  refine ⟨a, len, cap, rows.flatten, sz, rfl, ⟨hs, fun i hi => ?_⟩, ?_⟩
  · obtain ⟨r, x, h1, h2, h3, h4⟩ := hf i hi
    exact ⟨r, h3, fun j v hj => flatten_get 5 rows i j r v hk h1 hj⟩
  · rcases hd with ⟨_, h0⟩ | ⟨sp, h0⟩
    · subst h0; simp [tot]
    · rw [h0, Rows.uptoBulk, ← hdl]
      have := tot_bulk ds sz (fun i x hx => by
        obtain ⟨r, y, h1, h2, h3, h4⟩ := hf i (by have := (List.getElem?_eq_some_iff.1 hx).1; omega)
        rw [hx] at h2
        obtain rfl := Option.some.inj h2
        exact h4)
      omega
theorem bulk_one {d : DataW H} {rest : List (DataW H)} {t : Nat} (hk : Rows.uptoSmall H (d :: rest) = true) (h : t ≤ Rows.uptoBulk d) : t ≤ 1048576 := by
  have h1 : Rows.uptoBulkAll (d :: rest) ≤ 1048576 := by simpa [Rows.uptoSmall] using hk
  rw [Rows.uptoBulkAll] at h1
  omega
end
end Go.Proofs.Ytpjmbhhfpoamnaa
