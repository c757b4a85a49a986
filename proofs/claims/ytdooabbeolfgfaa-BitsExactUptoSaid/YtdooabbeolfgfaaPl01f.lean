import Derived.Test.YtdooabbeolfgfaaPl01e
set_option linter.unusedVariables false
set_option linter.unusedSimpArgs false
namespace Go.Proofs.Ytdooabbeolfgfaa
open Go.RowKit
def xorD (l r : List UInt8) : List UInt8 := if l.length = r.length then List.zipWith (· ^^^ ·) l r else []
theorem xorD_len (l r : List UInt8) : (xorD l r).length ≤ l.length := by
  unfold xorD
  split
  · simp; omega
  · simp
theorem bXor (w : World) {A B : Option Addr} {n c m d : Nat} {l r : List UInt8} (ha : Sl w 1 A n c (l.map by8)) (hb : Sl w 1 B m d (r.map by8)) (hn : n ≤ 100000000) :
    Calls Try.prog 27 #[.slice A n c, .slice B m d] w fun e w' => ∃ v, e = .returned (.tuple #[v, .bool (decide (n = m))]) ∧ w'.ownsRow w.heap.size 5 1 v (xorD l r).length ((xorD l r).map by8) ∧ Below w.heap.size w w' := by
  have h1 : l.length = n := by simpa using ha.len
  have h2 : r.length = m := by simpa using hb.len
  unfold xorD
  rw [h1, h2]
  by_cases h : n = m
  · subst h
    refine (Xor_yes w ha hb (by omega)).mono ?_
    rintro e w' ⟨he, o, k⟩
    refine ⟨_, by rw [he, decide_eq_true rfl], ?_, k⟩
    rw [if_pos rfl, List.length_zipWith, h1, h2, Nat.min_self]
    exact o
  · refine (Xor_no w h).mono ?_
    rintro e w' ⟨he, hw⟩
    subst hw
    exact ⟨_, by rw [he, decide_eq_false h], by rw [if_neg h]; exact World.ownsRow_nil .., Below.refl _ _⟩
theorem rXor (w : World) {A B : Option Addr} {n c m d : Nat} {l r : List UInt8} (ha : Sl w 1 A n c (l.map by8)) (hb : Sl w 1 B m d (r.map by8)) (hn : n ≤ 100000000) :
    Calls Try.prog 135 #[.slice A n c, .slice B m d] w fun e w' => ∃ v, e = .returned (.tuple #[v, .bool (decide (n = m))]) ∧ w'.ownsRow w.heap.size 5 1 v (xorD l r).length ((xorD l r).map by8) ∧ Below w.heap.size w w' := by
  have h1 : l.length = n := by simpa using ha.len
  have h2 : r.length = m := by simpa using hb.len
  unfold xorD
  rw [h1, h2]
  by_cases h : n = m
  · subst h
    refine (refXor_yes w ha hb (by omega)).mono ?_
    rintro e w' ⟨v, he, o, k⟩
    refine ⟨v, by rw [he, decide_eq_true rfl], ?_, k⟩
    rw [if_pos rfl, List.length_zipWith, h1, h2, Nat.min_self]
    exact o
  · refine (refXor_no w h).mono ?_
    rintro e w' ⟨he, hw⟩
    subst hw
    exact ⟨_, by rw [he, decide_eq_false h], by rw [if_neg h]; exact World.ownsRow_nil .., Below.refl _ _⟩
end Go.Proofs.Ytdooabbeolfgfaa
