import Derived.Test.YtikjhandhgfohaaRefOut
set_option linter.unusedVariables false
set_option linter.unusedSimpArgs false
namespace Go.Proofs.Ytikjhandhgfohaa
open Go.RowKit
/-! ### numbers of a list -/
def qt (l : List UInt64) (i : Nat) : Nat := (l[i]?.getD 0).toNat
theorem qt_lt (l : List UInt64) (i : Nat) : qt l i < 18446744073709551616 := UInt64.toNat_lt _
theorem qt_eq (l : List UInt64) (i : Nat) (h : i < l.length) : qt l i = l[i].toNat := by simp [qt, List.getElem?_eq_getElem h]
theorem take_qt (l : List UInt64) (i : Nat) (h : i < l.length) : l.take (i + 1) = l.take i ++ [UInt64.ofNat (qt l i)] := by
  rw [List.take_succ_eq_append_getElem h, qt_eq l i h, UInt64.ofNat_toNat]
theorem Sl.word {w : World} {b off n c : Nat} {l : List UInt64} (h : Sl w 1 (some ⟨b, off, .none⟩) n c (l.map by64)) (i : Nat) (hi : i < n) : w.cell? ⟨b, off + i, .none⟩ = some (.int .u64 (qt l i : Int)) := by
  have hl : (l.map by64).length = n := by simpa using h.len
  have hl2 : l.length = n := by simpa using hl
  rw [h.cell i (by omega), qt_eq l i (by omega)]
  simp [by64]
/-! ### a list behind its number -/
def numsL (l : List UInt64) : List UInt8 := l.flatMap fun c => shortL c.toNat
theorem numsL_take (l : List UInt64) (k : Nat) (h : k < l.length) : numsL (l.take (k + 1)) = numsL (l.take k) ++ shortL (qt l k) := by
  unfold numsL
  rw [List.take_succ_eq_append_getElem h, List.flatMap_append, qt_eq l k h]
  simp
theorem numsL_len (l : List UInt64) : (numsL l).length ≤ 10 * l.length := by
  unfold numsL
  induction l with
  | nil => simp
  | cons c l ih =>
    have := shortL_len c.toNat c.toNat_lt
    simp only [List.flatMap_cons, List.length_append, List.length_cons]
    omega
theorem Ob.cellF {T : TypeId} {w : World} {p : Nat} {G : List Nat} {l : List UInt8} {f : Nat} (h : Ob T w p G l f) : w.cell? ⟨p, 1, none⟩ = some (.int .i64 f) := by
  obtain ⟨v, hb, _⟩ := h.out
  exact box_cell hb 1 _ rfl
end Go.Proofs.Ytikjhandhgfohaa
