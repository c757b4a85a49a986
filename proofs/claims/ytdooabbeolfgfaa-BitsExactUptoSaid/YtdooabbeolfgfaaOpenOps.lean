import Derived.Test.YtdooabbeolfgfaaOpenOp
set_option linter.unusedVariables false
set_option linter.unusedSimpArgs false
namespace Go.Proofs.Ytdooabbeolfgfaa
open Go.ChangeShapes Go.WideShapes Go.ChangeAt Go.RowKit
/-- the operations of layer 1, one behind the other -/
structure Ops01 (w : World) (A : Option Addr) (n c : Nat) (vs : List Value) : Prop where
  sl : Sl w 8 A n c vs
  at_ : ∀ i, i < n → ∃ cs kd a l nn x y ll s, OpRd w cs kd a l nn x y ll s ∧ ∀ (j : Nat) v, cs[j]? = some v → vs[i * 8 + j]? = some v
theorem Ops01.get {w : World} {b off n c : Nat} {vs : List Value} (h : Ops01 w (some ⟨b, off, none⟩) n c vs) (i : Nat) (hi : i < n) : ∃ (kd : Int) (a l : Nat) (nn : Int) (x y : List UInt8) (ll : List (List UInt8)) (s : ByteArray) (xa : Option Addr) (xn xc : Nat) (ya : Option Addr) (yn yc : Nat) (pa : Option Addr) (pn pc : Nat) (pv : List Value),
    (w.cell? ⟨b, off + i * 8, none⟩ = some (.int .i64 kd) ∧ w.cell? ⟨b, off + i * 8 + 1, none⟩ = some (.int .u32 a) ∧ w.cell? ⟨b, off + i * 8 + 2, none⟩ = some (.int .u64 l) ∧ w.cell? ⟨b, off + i * 8 + 3, none⟩ = some (.int .i64 nn) ∧
    w.cell? ⟨b, off + i * 8 + 4, none⟩ = some (.slice xa xn xc) ∧ w.cell? ⟨b, off + i * 8 + 5, none⟩ = some (.slice ya yn yc) ∧ w.cell? ⟨b, off + i * 8 + 6, none⟩ = some (.slice pa pn pc) ∧ w.cell? ⟨b, off + i * 8 + 7, none⟩ = some (.string s)) ∧
    Sl w 1 xa xn xc (x.map by8) ∧ Sl w 1 ya yn yc (y.map by8) ∧ Sls w pa pn pc pv ll ∧ (xn ≤ 140737488351232 ∧ yn ≤ 140737488351232 ∧ pn * 24 ≤ 140737488351232 ∧ s.size ≤ 140737488351232) ∧ a < 4294967296 ∧ l < 18446744073709551616 ∧ (-9223372036854775808 ≤ nn ∧ nn ≤ 9223372036854775807) ∧ (-9223372036854775808 ≤ kd ∧ kd ≤ 9223372036854775807) := by
  obtain ⟨cs, kd, a, l, nn, x, y, ll, s, hr, hc⟩ := h.at_ i hi
  obtain ⟨xa, xn, xc, ya, yn, yc, pa, pn, pc, pv, rfl, h1, h2, h3, h4, h5, h6⟩ := hr.form
  have g : ∀ (j : Nat) v, ([Value.int .i64 kd, .int .u32 a, .int .u64 l, .int .i64 nn, .slice xa xn xc, .slice ya yn yc, .slice pa pn pc, .string s] : List Value)[j]? = some v → w.cell? ⟨b, off + i * 8 + j, none⟩ = some v := fun j v hj => by
    have h5 := hc j v hj
    obtain ⟨h6, h7⟩ := List.getElem?_eq_some_iff.1 h5
    have h8 := h.sl.cell (i * 8 + j) h6
    rw [h7, ← Nat.add_assoc] at h8
    exact h8
  exact ⟨kd, a, l, nn, x, y, ll, s, xa, xn, xc, ya, yn, yc, pa, pn, pc, pv, ⟨g 0 _ rfl, g 1 _ rfl, g 2 _ rfl, g 3 _ rfl, g 4 _ rfl, g 5 _ rfl, g 6 _ rfl, g 7 _ rfl⟩, h1, h2, h3, ⟨h4, h5, h6, hr.s⟩, hr.a, hr.l, hr.n, hr.kd⟩
section
variable {H : Type} {enc : TypeId × Value → H} {w : World}
theorem T0.ops01 {cs : List Value} {d : DataW H} (h : T0 enc Try.prog w 44 cs d) (z : Szd Try.prog 44 d) :
    ∃ (a : Option Addr) (len cap : Nat) (vs : List Value), cs = [.slice a len cap] ∧ Ops01 w a len cap vs ∧ ((d = .nil ∧ len = 0) ∨ ∃ es sp, d = .slice es sp ∧ es.length = len) := by
  obtain ⟨a, len, cap, rows, ds, rfl, hl, hdl, hk, hs, hz, hd, hel⟩ := h.slice z Try.underlying44 (k := 8) (by kernel_rfl) (by decide)
  refine ⟨a, len, cap, rows.flatten, rfl, ⟨hs, fun i hi => ?_⟩, hd.imp id (fun ⟨sp, e⟩ => ⟨ds, sp, e, hdl⟩)⟩
  have h1 : i < rows.length := by omega
  have h2 : i < ds.length := by omega
  obtain ⟨hT, hZ⟩ := hel i rows[i] ds[i] (List.getElem?_eq_getElem h1) (List.getElem?_eq_getElem h2)
  obtain ⟨kd, a', l, nn, x, y, ll, s, hr⟩ := hT.op hZ
  exact ⟨rows[i], kd, a', l, nn, x, y, ll, s, hr, fun j v hj => flatten_get 8 rows i j _ v hk (List.getElem?_eq_getElem h1) hj⟩
theorem bulk_pos (d : DataW H) : 1 ≤ Rows.uptoBulk d := by
  cases d with
  | lit l => cases l <;> simp [Rows.uptoBulk]
  | _ => simp [Rows.uptoBulk]
theorem bulk_len : ∀ (es : List (DataW H)), es.length ≤ Rows.uptoBulkAll es
  | [] => by simp
  | d :: r => by
    have h1 := bulk_pos d
    have h2 := bulk_len r
    simp only [List.length_cons, Rows.uptoBulkAll]
    omega
theorem bulk_slice {d : DataW H} {rest : List (DataW H)} {len : Nat} (hk : Rows.uptoSmall H (d :: rest) = true) (h : (d = .nil ∧ len = 0) ∨ ∃ es sp, d = .slice es sp ∧ es.length = len) : len ≤ 1048576 := by
  have h1 : Rows.uptoBulkAll (d :: rest) ≤ 1048576 := by simpa [Rows.uptoSmall] using hk
  rw [Rows.uptoBulkAll] at h1
  rcases h with ⟨_, rfl⟩ | ⟨es, sp, rfl, rfl⟩
  · omega
  · have := bulk_len es
    rw [Rows.uptoBulk] at h1
    omega
end
end Go.Proofs.Ytdooabbeolfgfaa
