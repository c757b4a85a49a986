import Derived.Test.YtpjmbhhfpoamnaaJn7
import Derived.Test.YtpjmbhhfpoamnaaJm2
set_option linter.unusedVariables false
set_option linter.unusedSimpArgs false
namespace Go.Proofs.Ytpjmbhhfpoamnaa
open Go.RowKit
/-- records behind a header -/
def recsB : Nat → List UInt8 → List (List UInt8) × Nat
  | 0, _ => ([], 0)
  | k + 1, d => if (wholeD d).2.2.1 = 0 ∨ (wholeD d).2.2.2 ≠ 0 ∨ (wholeD d).1 ≠ 82 then ([], 0) else ((wholeD d).2.1 :: (recsB k (d.drop (wholeD d).2.2.1)).1, (wholeD d).2.2.1 + (recsB k (d.drop (wholeD d).2.2.1)).2)
structure Ct where
  epoch : Nat
  snap : List UInt8
  recs : List (List UInt8)
  good : Nat
/-- is the first frame a header? -/
def hdrOk (b : List UInt8) : Prop := (wholeD b).2.2.1 ≠ 0 ∧ (wholeD b).2.2.2 = 0 ∧ (wholeD b).1 = 72 ∧ 12 ≤ (wholeD b).2.1.length ∧ 1 ≤ be ((wholeD b).2.1.take 8) ∧ be ((wholeD b).2.1.take 8) ≤ 9223372036854775807
instance (b : List UInt8) : Decidable (hdrOk b) := by unfold hdrOk; infer_instance
def hdrCt (b : List UInt8) : Ct := ⟨be ((wholeD b).2.1.take 8), (wholeD b).2.1.drop 12, (recsB (b.length + 1) (b.drop (wholeD b).2.2.1)).1, (wholeD b).2.2.1 + (recsB (b.length + 1) (b.drop (wholeD b).2.2.1)).2⟩
/-- a bank, read -/
def readB (b : List UInt8) : Option Ct := if hdrOk b ∧ be (((wholeD b).2.1.drop 8).take 4) ≤ (hdrCt b).recs.length then some (hdrCt b) else none
theorem recsB_more : ∀ (n : Nat) (d : List UInt8), d.length + 1 ≤ n → recsB n d = recsB (d.length + 1) d := by
  intro n
  induction n using Nat.strongRecOn with
  | _ n ih =>
    intro d h
    obtain ⟨m, rfl⟩ : ∃ m, n = m + 1 := ⟨n - 1, by omega⟩
    rw [recsB, recsB]
    by_cases hc : (wholeD d).2.2.1 = 0 ∨ (wholeD d).2.2.2 ≠ 0 ∨ (wholeD d).1 ≠ 82
    · rw [if_pos hc, if_pos hc]
    · rw [if_neg hc, if_neg hc]
      have hc1 : (wholeD d).2.2.1 ≠ 0 := fun h => hc (.inl h)
      have hd0 : d ≠ [] := fun e => hc1 (by rw [e]; rfl)
      have hlen : 0 < d.length := List.length_pos_iff.2 hd0
      have hl : (d.drop (wholeD d).2.2.1).length + 1 ≤ d.length := by simp; omega
      rw [ih m (by omega) _ (by omega)]
      by_cases hm : d.length < m + 1
      · rw [ih d.length (by omega) _ hl]
      · omega
/-- one step -/
theorem recsB_step (d : List UInt8) : recsB (d.length + 1) d = if (wholeD d).2.2.1 = 0 ∨ (wholeD d).2.2.2 ≠ 0 ∨ (wholeD d).1 ≠ 82 then ([], 0) else ((wholeD d).2.1 :: (recsB ((d.drop (wholeD d).2.2.1).length + 1) (d.drop (wholeD d).2.2.1)).1, (wholeD d).2.2.1 + (recsB ((d.drop (wholeD d).2.2.1).length + 1) (d.drop (wholeD d).2.2.1)).2) := by
  rw [recsB]
  by_cases hc : (wholeD d).2.2.1 = 0 ∨ (wholeD d).2.2.2 ≠ 0 ∨ (wholeD d).1 ≠ 82
  · rw [if_pos hc, if_pos hc]
  · rw [if_neg hc, if_neg hc]
    have hc1 : (wholeD d).2.2.1 ≠ 0 := fun h => hc (.inl h)
    have hd0 : d ≠ [] := fun e => hc1 (by rw [e]; rfl)
    have hlen : 0 < d.length := List.length_pos_iff.2 hd0
    rw [recsB_more d.length _ (by simp; omega)]
theorem own_types' {W : World} {B B' T T' s s' n n' k : Nat} {v v' : Value} {xs xs' : List Value} (o : W.ownsRow B T s v n xs) (o' : W.ownsRow B' T' s' v' n' xs') (h : T ≠ T') (hk : v.ownBlock = some k) : v'.ownBlock ≠ some k := fun hk' => by
  rcases o.2 with ⟨rfl, _⟩ | ⟨g, c, cu, rfl, _, hg, _⟩
  · cases hk
  · rcases o'.2 with ⟨rfl, _⟩ | ⟨g', c', cu', rfl, _, hg', _⟩
    · cases hk'
    · injection hk with hk; injection hk' with hk'
      have hk2 : g = k := hk
      have hk3 : g' = k := hk'
      subst hk2; subst hk3
      rw [hg] at hg'
      injection hg' with hg'; injection hg' with _ hg' _
      exact h hg'
/-- the content under way, in its variable at bc -/
structure RdSt (w wr : World) (bc ep : Nat) (sv : Value) (g0 : Nat) (p : List UInt8) (rs : List (List UInt8)) (g : Nat) (v : Value) (vs : List Value) : Prop where
  box : wr.heap[bc]? = some (.cells #[.int .i64 ep, sv, v, .int .i64 g] 162 (0, 0))
  row : wr.ownsRow w.heap.size 22 1 v rs.length vs
  pay : wr.ownsRow w.heap.size 5 1 (.slice (some ⟨g0, 0, none⟩) p.length p.length) p.length (p.map by8)
  recs : ∀ (i : Nat) (r : List UInt8), rs[i]? = some r → ∃ gi, vs[i]? = some (.slice (some ⟨gi, 0, none⟩) r.length r.length) ∧ wr.ownsRow w.heap.size 5 1 (.slice (some ⟨gi, 0, none⟩) r.length r.length) r.length (r.map by8)
  below : Below w.heap.size w wr
  bcw : w.heap.size ≤ bc
theorem RdSt.then_ {w wr w' : World} {bc ep : Nat} {sv : Value} {g0 : Nat} {p : List UInt8} {rs : List (List UInt8)} {g : Nat} {v : Value} {vs : List Value} (h : RdSt w wr bc ep sv g0 p rs g v vs) (k : Below wr.heap.size wr w') : RdSt w w' bc ep sv g0 p rs g v vs :=
  ⟨heap_below h.box k, own_below h.row k, own_below h.pay k, fun i r hr => let ⟨gi, h1, h2⟩ := h.recs i r hr; ⟨gi, h1, own_below h2 k⟩, bthen h.below k, h.bcw⟩
end Go.Proofs.Ytpjmbhhfpoamnaa
