import Derived.Test.YtpjmbhhfpoamnaaJn12
import Derived.Test.YtpjmbhhfpoamnaaJm4
set_option linter.unusedVariables false
set_option linter.unusedSimpArgs false
namespace Go.Proofs.Ytpjmbhhfpoamnaa
open Go.RowKit
/-- the bytes that the other bank begins with -/
def mvK (c : Ct) (k : Nat) : List UInt8 := frB 72 (hdrP (c.epoch + 1) c.recs.length c.snap) ++ ((c.recs.take k).map (frB 82)).flatten
def mvB (c : Ct) : List UInt8 := mvK c c.recs.length
/-- move, as a function -/
def mvF (j : JSt) (s : FSt) (c : Ct) : JSt × FSt × Nat :=
  if j.epoch = 9223372036854775807 then (j, s, 3) else
  if (clrF s (1 - j.bank)).2 ≠ 0 then (j, (clrF s (1 - j.bank)).1, (clrF s (1 - j.bank)).2) else
  if (appF (clrF s (1 - j.bank)).1 ((1 - j.bank : Nat) : Int) (mvB c)).2 ≠ 0 then (j, (appF (clrF s (1 - j.bank)).1 ((1 - j.bank : Nat) : Int) (mvB c)).1, (appF (clrF s (1 - j.bank)).1 ((1 - j.bank : Nat) : Int) (mvB c)).2) else
  ({ j with bank := 1 - j.bank, epoch := j.epoch + 1, used := (mvB c).length }, (appF (clrF s (1 - j.bank)).1 ((1 - j.bank : Nat) : Int) (mvB c)).1, 0)
theorem mvK_zero (c : Ct) : mvK c 0 = frB 72 (hdrP (c.epoch + 1) c.recs.length c.snap) := by simp [mvK]
theorem mvK_next (c : Ct) {k : Nat} {r : List UInt8} (h : c.recs[k]? = some r) : mvK c (k + 1) = mvK c k ++ frB 82 r := by
  obtain ⟨hk, e⟩ := List.getElem?_eq_some_iff.1 h
  unfold mvK
  rw [List.take_add_one, h]
  simp
theorem mvK_le (c : Ct) : ∀ (k : Nat), k ≤ c.recs.length → (mvK c k).length ≤ (mvB c).length := by
  intro k hk
  unfold mvB mvK
  rw [List.length_append, List.length_append]
  have h1 : c.recs.take c.recs.length = c.recs.take k ++ c.recs.drop k := by rw [List.take_of_length_le (Nat.le_refl _), List.take_append_drop]
  rw [h1, List.map_append, List.flatten_append, List.length_append]
  omega
/-- the rows of a bank's content, to be read, each in a block that P allows -/
structure CtIn (w : World) (P : Nat → Prop) (A Av : Option Addr) (n cp cv : Nat) (vs : List Value) (c : Ct) : Prop where
  snap : Sl w 1 A n cp (c.snap.map by8)
  sA : ∀ ad, A = some ad → P ad.block
  row : Sl w 1 Av c.recs.length cv vs
  rA : ∀ ad, Av = some ad → P ad.block
  recs : ∀ (i : Nat) (r : List UInt8), c.recs[i]? = some r → ∃ gi, vs[i]? = some (.slice (some ⟨gi, 0, none⟩) r.length r.length) ∧ Sl w 1 (some ⟨gi, 0, none⟩) r.length r.length (r.map by8) ∧ P gi
theorem CtIn.keep {w w' : World} {P : Nat → Prop} {M : List Nat} {A Av : Option Addr} {n cp cv : Nat} {vs : List Value} {c : Ct} (h : CtIn w P A Av n cp cv vs c) (k : Keep M w w') (hM : ∀ x, P x → x ∉ M) : CtIn w' P A Av n cp cv vs c :=
  ⟨h.snap.keep k (fun ad e => hM _ (h.sA ad e)), h.sA, h.row.keep k (fun ad e => hM _ (h.rA ad e)), h.rA, fun i r hr => let ⟨gi, h1, h2, h3⟩ := h.recs i r hr; ⟨gi, h1, h2.keep k (fun ad e => by cases e; exact hM _ h3), h3⟩⟩
theorem CtIn.below {w w' : World} {P : Nat → Prop} {A Av : Option Addr} {n cp cv : Nat} {vs : List Value} {c : Ct} (h : CtIn w P A Av n cp cv vs c) (k : Below w.heap.size w w') : CtIn w' P A Av n cp cv vs c :=
  ⟨h.snap.below k, h.sA, h.row.below k, h.rA, fun i r hr => let ⟨gi, h1, h2, h3⟩ := h.recs i r hr; ⟨gi, h1, h2.below k, h3⟩⟩
theorem CtIn.mono {w : World} {P P' : Nat → Prop} {A Av : Option Addr} {n cp cv : Nat} {vs : List Value} {c : Ct} (h : CtIn w P A Av n cp cv vs c) (hP : ∀ x, P x → P' x) : CtIn w P' A Av n cp cv vs c :=
  ⟨h.snap, fun ad e => hP _ (h.sA ad e), h.row, fun ad e => hP _ (h.rA ad e), fun i r hr => let ⟨gi, h1, h2, h3⟩ := h.recs i r hr; ⟨gi, h1, h2, hP _ h3⟩⟩
theorem CtRows.in_ {w w' : World} {sv v : Value} {c : Ct} (h : CtRows w w' sv v c) : ∃ (A Av : Option Addr) (n cp cv : Nat) (vs : List Value), sv = .slice A n cp ∧ v = .slice Av c.recs.length cv ∧ CtIn w' (fun x => w.heap.size ≤ x ∧ x < w'.heap.size) A Av n cp cv vs c := by
  obtain ⟨g0, A, n, cp, p, vs, rfl, hA, hS, hp, hrow, hr⟩ := h.out
  obtain ⟨Av, cv, rfl, hs, hb⟩ := own_sl hrow
  exact ⟨A, Av, n, cp, cv, vs, rfl, rfl, hS, fun ad e => by rw [hA ad e]; exact hp.lt g0 rfl, hs, hb, fun i r hi => let ⟨gi, h1, h2⟩ := hr i r hi; ⟨gi, h1, (own_sl' h2).2.1, h2.lt gi rfl⟩⟩
end Go.Proofs.Ytpjmbhhfpoamnaa
