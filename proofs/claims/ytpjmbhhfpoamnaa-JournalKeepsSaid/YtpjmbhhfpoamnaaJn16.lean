import Derived.Test.YtpjmbhhfpoamnaaJn15
import Derived.Test.YtpjmbhhfpoamnaaJn13
set_option linter.unusedVariables false
set_option linter.unusedSimpArgs false
namespace Go.Proofs.Ytpjmbhhfpoamnaa
open Go.RowKit
theorem read_any (w : World) {A : Option Addr} {n c : Nat} {l : List UInt8} (h : Sl w 1 A n c (l.map by8)) (hn : n ≤ 1048576) : Calls Try.prog 103 #[.slice A n c] w (ReadP w l) := by
  have hn2 : n ≤ 140737488351232 := by omega
  by_cases h1 : (wholeD l).2.2.1 = 0
  · exact read_no_e w h hn2 h1
  by_cases h2 : (wholeD l).2.2.2 = 0
  rotate_left
  · exact read_no_t w h hn2 h1 h2
  by_cases h3 : (wholeD l).1 = 72
  rotate_left
  · exact read_no_k w h hn2 h1 h2 h3
  by_cases h4 : (wholeD l).2.1.length < 12
  · exact read_no_l w h hn2 h1 h2 h3 h4
  by_cases h5 : be ((wholeD l).2.1.take 8) < 1
  · exact read_no_lo w h hn2 h1 h2 h3 (by omega) h5
  by_cases h6 : 9223372036854775807 < be ((wholeD l).2.1.take 8)
  · exact read_no_hi w h hn2 h1 h2 h3 (by omega) h6
  by_cases h7 : (wholeD l).2.1.length = 12
  · exact read_yes_eq w h hn h1 h2 h3 h7 (by omega) (by omega)
  · exact read_yes_ne w h hn h1 h2 h3 (by omega) (by omega) (by omega)
/-! what a headed bank holds has room -/
theorem recG_bound (l : List UInt8) : ∀ (m g : Nat), l.length - g ≤ m → g ≤ l.length → g + (recG l g).2 ≤ l.length ∧ (∀ r ∈ (recG l g).1, r.length ≤ 262144) ∧ ((recG l g).1.map (frB 82)).flatten.length = (recG l g).2 ∧ (recG l g).1.length ≤ (recG l g).2 := by
  intro m
  induction m using Nat.strongRecOn with
  | _ m ih =>
    intro g hm hg
    rw [recG_step]
    by_cases hc : (wholeD (l.drop g)).2.2.1 = 0 ∨ (wholeD (l.drop g)).2.2.2 ≠ 0 ∨ (wholeD (l.drop g)).1 ≠ 82
    · rw [if_pos hc]; simp; exact hg
    · rw [if_neg hc]
      have h1 : (wholeD (l.drop g)).2.2.1 ≠ 0 := fun h => hc (.inl h)
      have h2 : (wholeD (l.drop g)).2.2.2 = 0 := Decidable.byContradiction fun h => hc (.inr (.inl h))
      have h0 : l.drop g ≠ [] := fun e => h1 (by rw [e]; rfl)
      obtain ⟨b1, b2, b3⟩ := wholeD_bound _ h2 h0
      have hlen : (l.drop g).length = l.length - g := List.length_drop
      obtain ⟨i1, i2, i3, i4⟩ := ih (l.length - (g + (wholeD (l.drop g)).2.2.1)) (by omega) (g + (wholeD (l.drop g)).2.2.1) (Nat.le_refl _) (by omega)
      refine ⟨by simp only; omega, ?_, ?_, ?_⟩
      · intro r hr
        rcases List.mem_cons.1 hr with rfl | hr
        · exact b3
        · exact i2 r hr
      · simp only [List.map_cons, List.flatten_cons, List.length_append, frB_len]
        rw [i3, b1]
      · simp only [List.length_cons]; omega
structure CtOk (l : List UInt8) (c : Ct) : Prop where
  good : c.good ≤ l.length
  ep1 : 1 ≤ c.epoch
  ep2 : c.epoch ≤ 9223372036854775807
  snap : c.snap.length ≤ 262132
  recs : ∀ r ∈ c.recs, r.length ≤ 262144
  tot : (mvB c).length = c.good
  few : c.recs.length ≤ c.good
theorem readB_ok {l : List UInt8} {c : Ct} (h : readB l = some c) : CtOk l c := by
  unfold readB at h
  by_cases hc : hdrOk l ∧ be (((wholeD l).2.1.drop 8).take 4) ≤ (hdrCt l).recs.length
  rotate_left
  · rw [if_neg hc] at h; cases h
  rw [if_pos hc] at h
  have hc' := Option.some.inj h
  obtain ⟨⟨h1, h2, h3, h4, h5, h6⟩, _⟩ := hc
  have h0 : l ≠ [] := fun e => h1 (by rw [e]; rfl)
  obtain ⟨b1, b2, b3⟩ := wholeD_bound l h2 h0
  obtain ⟨i1, i2, i3, i4⟩ := recG_bound l _ (wholeD l).2.2.1 (Nat.le_refl _) b2
  rw [hdrCt_recG] at hc'
  subst hc'
  refine ⟨i1, h5, h6, by simp; omega, i2, ?_, by simp only; omega⟩
  unfold mvB mvK
  simp only [List.take_length, List.length_append, frB_len, hdrP_len, i3, List.length_drop]
  omega
/-- which bank Open goes on with -/
def chosenF (a b : Option Ct) : Option (Nat × Ct) :=
  match a, b with
  | none, none => none
  | some a, none => some (0, a)
  | none, some b => some (1, b)
  | some a, some b => if a.epoch < b.epoch then some (1, b) else some (0, a)
def jOf (n : Nat) (c : Ct) : JSt := ⟨n, c.epoch, c.recs.length, c.good, false⟩
/-- Open behind the choice -/
def openC (s : FSt) (n : Nat) (c : Ct) : JSt × FSt × Nat :=
  if c.good < (bankF s n).length then
    (if (mvF (jOf n c) s c).2.2 ≠ 0 then mvF (jOf n c) s c else ((mvF (jOf n c) s c).1, clrF (mvF (jOf n c) s c).2.1 (1 - (mvF (jOf n c) s c).1.bank)))
  else (jOf n c, clrF s (1 - n))
/-- Open, as a function: what is found (the journal, the content, the tail cut off), the flash, the errno -/
def openF (s : FSt) : Option (JSt × Ct × Nat) × FSt × Nat :=
  if s.down then (none, s, 121) else
  match chosenF (readB s.b0) (readB s.b1) with
  | none => (none, s, 140)
  | some (n, c) => if (openC s n c).2.2 ≠ 0 then (none, (openC s n c).2) else (some ((openC s n c).1, c, (bankF s n).length - c.good), (openC s n c).2)
/-- what Open leaves -/
def OpenP (w : World) (p : Nat) (G : List Nat) (s : FSt) (e : Ending) (w' : World) : Prop :=
  ((openF s).1 = none ∧ e = .returned (.tuple #[.pointer none, .agg #[.int .i64 0, .slice none 0 0, .slice none 0 0, .int .i64 0], .int .i64 ((openF s).2.2 : Nat)]) ∧ FStep w w' p G (openF s).2.1) ∨
  ∃ (j : JSt) (c : Ct) (cut q : Nat) (A Av : Option Addr) (n cp cv : Nat) (vs : List Value) (G' : List Nat), (openF s).1 = some (j, c, cut) ∧ (openF s).2.2 = 0 ∧ e = .returned (.tuple #[.pointer (some ⟨q, 0, none⟩), .agg #[.int .i64 j.epoch, .slice A n cp, .slice Av c.recs.length cv, .int .i64 cut], .int .i64 0]) ∧
    Fl w' p G' (openF s).2.1 ∧ Jo w' q p j ∧ q ∉ G' ∧ w.heap.size ≤ q ∧ Keep G w w' ∧ (∀ x ∈ G', x ∈ G ∨ w.heap.size ≤ x) ∧ CtIn w' (fun x => w.heap.size ≤ x ∧ x < w'.heap.size ∧ x ≠ q ∧ x ∉ G') A Av n cp cv vs c
end Go.Proofs.Ytpjmbhhfpoamnaa
