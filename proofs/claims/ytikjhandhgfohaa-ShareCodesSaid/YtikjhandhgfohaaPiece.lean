import Derived.Test.YtikjhandhgfohaaPre
set_option linter.unusedVariables false
set_option linter.unusedSimpArgs false
namespace Go.Proofs.Ytikjhandhgfohaa
open Go.RowKit
/-- a piece of a slice that is read -/
theorem Sl.piece {w : World} {b off n c : Nat} {l : List UInt8} (h : Sl w 1 (some ⟨b, off, none⟩) n c (l.map by8)) (a m : Nat) (ham : a + m ≤ n) : Sl w 1 (some ⟨b, off + a, none⟩) m (c - a) (((l.drop a).take m).map by8) := by
  have h1 := h.le; have h2 := h.max; have h3 : l.length = n := by simpa using h.len
  refine ⟨by simp; omega, by omega, by omega, (fun e => by cases e), fun ad e hp => ?_⟩
  obtain rfl := Option.some.inj e
  refine ⟨rfl, fun i hi => ?_⟩
  simp at hi
  have := h.cell (a + i) (by simp; omega)
  rw [← Nat.add_assoc] at this
  rw [this]
  simp
theorem Sl.zero (w : World) (A : Option Addr) (c : Nat) (h : A = none → c = 0) (hc : c ≤ 9223372036854775807) : Sl w 1 A 0 c [] := ⟨rfl, Nat.zero_le _, hc, h, fun _ _ hp => by simp at hp⟩
/-- a piece of a slice, wherever it lies -/
theorem slice_piece (A : Option Addr) (m c a n : Nat) (h : a + n ≤ m) (hm : m ≤ c) (hA : A = none → c = 0) (hs : ∀ ad, A = some ad → 0 < m → ad.spot = none) : ∃ A', (if c = a then A else Option.map (fun x => x.add a) A) = A' ∧
    ∀ (w : World) (l : List UInt8), Sl w 1 A m c (l.map by8) → Sl w 1 A' n (c - a) (((l.drop a).take n).map by8) := by
  refine ⟨_, rfl, fun w l hl => ?_⟩
  have hmx := hl.max
  by_cases h0 : n = 0
  · subst h0
    rw [List.take_zero]
    exact Sl.zero w _ _ (fun e => by
      split at e
      · have := hA e; omega
      · have : A = none := by simpa using e
        have := hA this; omega) (by omega)
  · cases A with
    | none => have := hA rfl; omega
    | some ad =>
      obtain ⟨b, off, sp⟩ := ad
      have := hs _ rfl (by omega)
      dsimp only at this
      subst this
      rw [if_neg (by omega)]
      have e : Option.map (fun x : Addr => x.add a) (some ⟨b, off, none⟩) = some ⟨b, off + a, none⟩ := by simp [Addr.add]
      rw [e]
      exact hl.piece a n h
end Go.Proofs.Ytikjhandhgfohaa
