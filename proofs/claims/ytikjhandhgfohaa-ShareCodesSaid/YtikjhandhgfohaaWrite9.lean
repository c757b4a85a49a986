import Derived.Test.YtikjhandhgfohaaSteps9
set_option linter.unusedVariables false
set_option linter.unusedSimpArgs false
namespace Go.Proofs.Ytikjhandhgfohaa
open Go.RowKit
theorem u64_one (l : List UInt64) : ∀ u ∈ l.map by64, u.oneCell' = true := by
  intro u hu
  obtain ⟨c, _, rfl⟩ := List.mem_map.1 hu
  rfl
theorem odd_eq (x : Nat) : ([if (((x : Int) % 2) == 1) = true then 1 else 0] : List UInt8) = [if x % 2 = 1 then 1 else 0] := by
  have h : (((x : Int) % 2) == 1) = true ↔ x % 2 = 1 := by simp; omega
  simp only [h]
theorem roomL_tk (l : List UInt8) {n : Nat} (h : l.length = n) : (roomL l).take n = l := by
  unfold roomL
  rw [List.take_append_of_le_length (by omega), List.take_of_length_le (by omega)]
theorem Stepped.more {T : TypeId} {w w' w'' : World} {p : Nat} {G : List Nat} {l : List UInt8} {f : Nat} (h : Stepped T w w' p G l f) (k : Below w'.heap.size w' w'') : Stepped T w w'' p G l f := by
  obtain ⟨G', h1, h2, h3⟩ := h.out
  exact ⟨G', h1.below k, h2.trans' (Keep.of_below k []) (by simp), h3⟩
theorem putL_nil (l : List UInt8) (f : Nat) : putL l f [] = l := by unfold putL; split <;> simp
/-- what a step lays -/
def stepB (kd : Int) (x : Nat) (b : List UInt8) (ns : List UInt64) : List UInt8 :=
  if kd = 1 then [UInt8.ofNat (x % 256)] else if kd = 2 then stBE32 (x % 4294967296) 4 else if kd = 3 then stBE64 x 8 else if kd = 4 then shortL x else if kd = 5 then [if x % 2 = 1 then 1 else 0]
  else if kd = 6 then b else if kd = 7 then shortL b.length ++ b else if kd = 8 then shortL ns.length ++ numsL ns else []
/-- the fault behind it -/
def stepF (kd : Int) (b : List UInt8) (ns : List UInt64) (most : Int) (f : Nat) : Nat := if kd = 7 then cutF most b.length f else if kd = 8 then cutF most ns.length f else f
end Go.Proofs.Ytikjhandhgfohaa
