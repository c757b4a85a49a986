import Derived.Test.YtikjhandhgfohaaRe
import Derived.Test.YtikjhandhgfohaaP33a
import Derived.Test.YtikjhandhgfohaaHeads
set_option linter.unusedVariables false
set_option linter.unusedSimpArgs false
namespace Go.Proofs.Ytikjhandhgfohaa
open Go.RowKit
/-! ### a piece that is read: step by step -/
def d1 (l : List UInt8) (s : Nat) : Nat × Nat × Nat := rdV (numR l s 1) (bt l s) 0 s 0
def d2 (l : List UInt8) (s : Nat) : Nat × Nat × Nat := rdV (numR l (d1 l s).2.1 1) (bt l (d1 l s).2.1) 0 (d1 l s).2.1 (d1 l s).2.2
def d3 (l : List UInt8) (s : Nat) : List UInt8 × Nat × Nat := rdV (numR l (d2 l s).2.1 8) (atR l (d2 l s).2.1 (8 : Int).toNat) [] (d2 l s).2.1 (d2 l s).2.2
def d4 (l : List UInt8) (s : Nat) : List UInt8 × Nat × Nat := rdV (bytR l (d3 l s).2.1 64) (bytV l (d3 l s).2.1 64) [] (d3 l s).2.1 (d3 l s).2.2
def dD (l : List UInt8) (s : Nat) : Nat := doneR l (d4 l s).2.1 (d4 l s).2.2
def okD (l : List UInt8) (s : Nat) : Prop := dD l s = 0 ∧ rgP (d1 l s).1 (d2 l s).1 (d4 l s).1.length
instance (l : List UInt8) (s : Nat) : Decidable (okD l s) := by unfold okD; infer_instance
/-- what stands behind the head -/
def decS (l : List UInt8) : Prop := IsHead l ∧ bt l 3 = 12 ∧ okD (l.drop 4) 0
instance (l : List UInt8) : Decidable (IsHead l) := by unfold IsHead; infer_instance
instance (l : List UInt8) : Decidable (decS l) := by unfold decS; infer_instance
def decE (l : List UInt8) : Nat := if ¬ IsHead l then 90 else if bt l 3 ≠ 12 then 91 else if okD (l.drop 4) 0 then 0 else 90
def decX (l : List UInt8) : Nat := if decS l then (d1 (l.drop 4) 0).1 else 0
def decN (l : List UInt8) : Nat := if decS l then (d2 (l.drop 4) 0).1 else 0
def decT (l : List UInt8) : Nat → Nat := if decS l then bt (d3 (l.drop 4) 0).1 else fun _ => 0
def decB (l : List UInt8) : List UInt8 := if decS l then (d4 (l.drop 4) 0).1 else []
/-! ### the document reads on in one row -/
def sh4 {α : Type} (r : α × Nat × Nat) : α × Nat × Nat := (r.1, r.2.1 + 4, r.2.2)
theorem rdV_sh4 {α : Type} (r : Except Nat Nat) (v z : α) (a f : Nat) : rdV r v z (a + 4) f = sh4 (rdV r v z a f) := by
  unfold rdV sh4
  cases effR r f with
  | ok k => simp; omega
  | error n => rfl
theorem numR_sh4 {l : List UInt8} (h : 4 ≤ l.length) (a : Nat) (k : Int) : numR l (a + 4) k = numR (l.drop 4) a k := by
  unfold numR
  rw [List.length_drop, show l.length - (a + 4) = l.length - 4 - a by omega]
theorem bt_sh4 (l : List UInt8) (a : Nat) : bt l (a + 4) = bt (l.drop 4) a := by rw [bt_drop, Nat.add_comm]
theorem drop_sh4 (l : List UInt8) (a : Nat) : l.drop (a + 4) = (l.drop 4).drop a := by rw [List.drop_drop, Nat.add_comm]
theorem atR_sh4 (l : List UInt8) (a n : Nat) : atR l (a + 4) n = atR (l.drop 4) a n := by unfold atR; rw [drop_sh4]
theorem bytR_sh4 {l : List UInt8} (h : 4 ≤ l.length) (a : Nat) (most : Int) : bytR l (a + 4) most = bytR (l.drop 4) a most := by
  unfold bytR
  rw [drop_sh4]
  cases cntR (rdS ((l.drop 4).drop a) 0 0) most with
  | error n => rfl
  | ok xk =>
    simp only [List.length_drop]
    by_cases hc : a + xk.2 + xk.1 ≤ l.length - 4
    · rw [if_pos hc, if_pos (by omega)]
    · rw [if_neg hc, if_neg (by omega)]
theorem bytV_sh4 (l : List UInt8) (a : Nat) (most : Int) : bytV l (a + 4) most = bytV (l.drop 4) a most := by
  unfold bytV
  rw [drop_sh4]
  cases cntR (rdS ((l.drop 4).drop a) 0 0) most with
  | error n => rfl
  | ok xk => simp only; rw [show a + 4 + xk.2 = a + xk.2 + 4 by omega, drop_sh4]
theorem d_sh4 {l : List UInt8} (h : 4 ≤ l.length) : d1 l 4 = sh4 (d1 (l.drop 4) 0) ∧ d2 l 4 = sh4 (d2 (l.drop 4) 0) ∧ d3 l 4 = sh4 (d3 (l.drop 4) 0) ∧ d4 l 4 = sh4 (d4 (l.drop 4) 0) ∧ dD l 4 = dD (l.drop 4) 0 := by
  have e1 : d1 l 4 = sh4 (d1 (l.drop 4) 0) := by
    unfold d1
    rw [← rdV_sh4, ← numR_sh4 h, ← bt_sh4]
  have e2 : d2 l 4 = sh4 (d2 (l.drop 4) 0) := by
    unfold d2
    rw [e1, ← rdV_sh4, ← numR_sh4 h, ← bt_sh4]
    rfl
  have e3 : d3 l 4 = sh4 (d3 (l.drop 4) 0) := by
    unfold d3
    rw [e2, ← rdV_sh4, ← numR_sh4 h, ← atR_sh4]
    rfl
  have e4 : d4 l 4 = sh4 (d4 (l.drop 4) 0) := by
    unfold d4
    rw [e3, ← rdV_sh4, ← bytR_sh4 h, ← bytV_sh4]
    rfl
  refine ⟨e1, e2, e3, e4, ?_⟩
  unfold dD
  rw [e4]
  generalize d4 (l.drop 4) 0 = q
  obtain ⟨b, a, f⟩ := q
  show (if f = 0 ∧ a + 4 < l.length then 90 else f) = (if f = 0 ∧ a < (l.drop 4).length then 90 else f)
  rw [List.length_drop]
  by_cases hc : f = 0 ∧ a < l.length - 4
  · rw [if_pos hc, if_pos ⟨hc.1, by omega⟩]
  · rw [if_neg hc, if_neg (fun h2 => hc ⟨h2.1, by omega⟩)]
theorem rdV_len8 (l : List UInt8) (a f : Nat) : (rdV (numR l a 8) (atR l a (8 : Int).toNat) [] a f).1.length = 8 ∨ (rdV (numR l a 8) (atR l a (8 : Int).toNat) [] a f).1 = [] := by
  unfold rdV
  cases he : effR (numR l a 8) f with
  | error n => exact .inr rfl
  | ok k =>
    refine .inl ?_
    unfold effR numR at he
    split at he
    · cases he
    · split at he
      · cases he
      · show (atR l a 8).length = 8
        unfold atR
        simp; omega
theorem d3_len (l : List UInt8) (s : Nat) : (d3 l s).1.length = 8 ∨ (d3 l s).1 = [] := rdV_len8 ..
theorem bytV_len {l : List UInt8} {a : Nat} {k : Nat} (h : bytR l a 64 = .ok k) : (bytV l a 64).length ≤ 64 := by
  unfold bytR at h
  unfold bytV
  cases hc : cntR (rdS (l.drop a) 0 0) 64 with
  | error n => simp
  | ok xk =>
    have := cntR_le (x := xk.1) (k := xk.2) hc
    simp; omega
theorem d4_len (l : List UInt8) (s : Nat) : (d4 l s).1.length ≤ 64 := by
  unfold d4 rdV
  cases he : effR (bytR l (d3 l s).2.1 64) (d3 l s).2.2 with
  | error n => simp
  | ok k =>
    unfold effR at he
    split at he
    · cases he
    · exact bytV_len he
theorem d1_lt (l : List UInt8) (s : Nat) : (d1 l s).1 < 256 := by
  unfold d1 rdV
  split
  · exact bt_lt _ _
  · exact Nat.zero_lt_succ _
theorem d2_lt (l : List UInt8) (s : Nat) : (d2 l s).1 < 256 := by
  unfold d2 rdV
  split
  · exact bt_lt _ _
  · exact Nat.zero_lt_succ _
end Go.Proofs.Ytikjhandhgfohaa
