import Derived.Test.YtikjhandhgfohaaRd6
import Derived.Test.YtikjhandhgfohaaNums
import Derived.Test.YtikjhandhgfohaaWrite9
set_option linter.unusedVariables false
set_option linter.unusedSimpArgs false
namespace Go.Proofs.Ytikjhandhgfohaa
open Go.RowKit
/-! ### lists -/
/-- what a caught read of a number leaves -/
theorem CaughtQ.num {w w' : World} {p : Nat} {G : List Nat} {l : List UInt8} {a f : Nat} {r : Except Nat Nat} {x : Nat} {K : Nat → Value} {e : Ending} (h : CaughtQ w p G l a f r (K 0) (fun v _ => v = K x) e w') :
    e = .returned (K (rdV r x 0 a f).1) ∧ Rd w' p G l (rdV r x 0 a f).2.1 (rdV r x 0 a f).2.2 ∧ Keep [p] w w' := by
  obtain ⟨hk, h⟩ := h
  unfold rdV
  cases hr : effR r f with
  | ok k => rw [hr] at h; obtain ⟨v, rfl, h2, rfl⟩ := h; exact ⟨rfl, h2, hk⟩
  | error n => rw [hr] at h; exact ⟨h.1, h.2, hk⟩
theorem CaughtQ.new {w w' : World} {p : Nat} {G : List Nat} {l : List UInt8} {a f : Nat} {r : Except Nat Nat} {x : List UInt8} {e : Ending} (h : CaughtQ w p G l a f r (.slice none 0 0) (NewB w.heap.size x) e w') :
    ∃ v, e = .returned v ∧ NewB w.heap.size (rdV r x [] a f).1 v w' ∧ Rd w' p G l (rdV r x [] a f).2.1 (rdV r x [] a f).2.2 ∧ Keep [p] w w' := by
  obtain ⟨hk, h⟩ := h
  unfold rdV
  cases hr : effR r f with
  | ok k => rw [hr] at h; obtain ⟨v, rfl, h2, h3⟩ := h; exact ⟨v, rfl, h3, h2, hk⟩
  | error n => rw [hr] at h; exact ⟨_, h.1, World.ownsRow_nil .., h.2, hk⟩
theorem shV_lt (l : List UInt8) (a : Nat) : shV l a < 18446744073709551616 := by
  unfold shV
  cases h : rdS (l.drop a) 0 0 with
  | none => simp
  | some q => obtain ⟨x, k⟩ := q; exact (rdS_form h).2.2.2.2.1
theorem rdV_cnt (l : List UInt8) (a f : Nat) (most : Int) : (rdV (cntL l a most) (shV l a) 0 a f).1 ≤ l.length := by
  unfold rdV effR
  split
  · rename_i k h
    split at h
    · cases h
    · unfold cntL at h
      split at h
      · cases h
      · rename_i x k2 hc
        split at h
        · unfold cntR at hc
          simp only
          unfold shV
          split at hc
          · cases hc
          · rename_i y k3 hr
            rw [hr]
            split at hc
            · cases hc
            · injection hc with hc; injection hc with hc _
              subst hc
              simp only
              omega
        · cases h
  · simp
theorem rdV_sh (l : List UInt8) (a f : Nat) : (rdV (shR l a) (shV l a) 0 a f).1 < 18446744073709551616 := by
  unfold rdV
  split
  · exact shV_lt l a
  · simp
theorem listR_go {l : List UInt8} {n a f : Nat} {acc : List UInt64} {x a' : Nat} (h : rdV (shR l a) (shV l a) 0 a f = (x, a', 0)) : listR l (n + 1) a f acc = listR l n a' 0 (acc ++ [UInt64.ofNat x]) := by
  rw [listR, h]
  rfl
theorem listR_halt {l : List UInt8} {n a f : Nat} {acc : List UInt64} {x a' f' : Nat} (h : rdV (shR l a) (shV l a) 0 a f = (x, a', f')) (hf : f' ≠ 0) : listR l (n + 1) a f acc = ([], a', f') := by
  rw [listR, h]
  simp [hf]
end Go.Proofs.Ytikjhandhgfohaa
