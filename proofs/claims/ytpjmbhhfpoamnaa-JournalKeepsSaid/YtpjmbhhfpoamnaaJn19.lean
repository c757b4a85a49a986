import Derived.Test.YtpjmbhhfpoamnaaJn18a
import Derived.Test.YtpjmbhhfpoamnaaJn18b
import Derived.Test.YtpjmbhhfpoamnaaJn18c
import Derived.Test.YtpjmbhhfpoamnaaJn18d
import Derived.Test.YtpjmbhhfpoamnaaJn18e
import Derived.Test.YtpjmbhhfpoamnaaJnP4
import Derived.Test.YtpjmbhhfpoamnaaJn20
set_option linter.unusedVariables false
set_option linter.unusedSimpArgs false
namespace Go.Proofs.Ytpjmbhhfpoamnaa
open Go.RowKit
/-- Open -/
theorem Open_any (w : World) {p : Nat} {G : List Nat} {s : FSt} {N : Nat} (h : Fl w p G s) (hN : FOkN N s) (hNN : N ≤ 4611686018427387900) :
    Calls Try.prog 57 #[.pointer (some ⟨p, 0, none⟩)] w (OpenP w p G s) := by
  cases hd : s.down with
  | true => exact Open_down w h hd
  | false =>
    cases r0 : readB s.b0 with
    | none =>
      cases r1 : readB s.b1 with
      | none => exact Open_nn w h hN hNN hd r0 r1
      | some c => exact Open_1a w h hN hNN hd r0 r1
    | some c =>
      cases r1 : readB s.b1 with
      | none => exact Open_0a w h hN hNN hd r0 r1
      | some c2 =>
        by_cases he : c.epoch < c2.epoch
        · exact Open_1b w h hN hNN hd r0 r1 he
        · exact Open_0b w h hN hNN hd r0 r1 (by omega)
/-- what a journal may hold, in slices whose blocks P allows -/
structure HIn (w : World) (P : Nat → Prop) (v0 v1 : Value) (h : Hd) : Prop where
  out : ∃ (A : Option Addr) (n c : Nat) (Av : Option Addr) (nr cv : Nat) (vs : List Value), v0 = .slice A n c ∧ v1 = .slice Av nr cv ∧ Sl w 1 A n c (h.snap.map by8) ∧ (∀ ad, A = some ad → 0 < n → P ad.block) ∧ Sls w Av nr cv vs h.recs ∧ (∀ ad, Av = some ad → 0 < nr → P ad.block) ∧ (∀ (i : Nat) a m c, vs[i]? = some (.slice a m c) → ∀ ad, a = some ad → 0 < m → P ad.block)
theorem HIn.keep {w w' : World} {P : Nat → Prop} {M : List Nat} {v0 v1 : Value} {h : Hd} (H : HIn w P v0 v1 h) (k : Keep M w w') (hM : ∀ x, P x → x ∉ M) : HIn w' P v0 v1 h := by
  obtain ⟨A, n, c, Av, nr, cv, vs, e0, e1, h1, h2, h3, h4, h5⟩ := H.out
  refine ⟨A, n, c, Av, nr, cv, vs, e0, e1, h1.keepz k (fun ad e z => hM _ (h2 ad e z)), h2, ⟨h3.sl.keepz k (fun ad e z => hM _ (h4 ad e z)), h3.len, fun i l hl => ?_⟩, h4, h5⟩
  obtain ⟨a, m, c, q1, q2, q3⟩ := h3.at_ i l hl
  exact ⟨a, m, c, q1, q2.keepz k (fun ad e z => hM _ (h5 i a m c q1 ad e z)), q3⟩
theorem HIn.below {w w' : World} {P : Nat → Prop} {v0 v1 : Value} {h : Hd} (H : HIn w P v0 v1 h) (k : Below w.heap.size w w') : HIn w' P v0 v1 h := H.keep (Keep.of_below k []) (fun _ _ => by simp)
theorem HIn.mono {w : World} {P P' : Nat → Prop} {v0 v1 : Value} {h : Hd} (H : HIn w P v0 v1 h) (hP : ∀ x, P x → P' x) : HIn w P' v0 v1 h := by
  obtain ⟨A, n, c, Av, nr, cv, vs, e0, e1, h1, h2, h3, h4, h5⟩ := H.out
  exact ⟨A, n, c, Av, nr, cv, vs, e0, e1, h1, fun ad e z => hP _ (h2 ad e z), h3, fun ad e z => hP _ (h4 ad e z), fun i a m c q ad e z => hP _ (h5 i a m c q ad e z)⟩
theorem CtIn.hin {w : World} {P : Nat → Prop} {A Av : Option Addr} {n cp cv : Nat} {vs : List Value} {c : Ct} (H : CtIn w P A Av n cp cv vs c) (hr : ∀ r ∈ c.recs, r.length ≤ 262144) : HIn w P (.slice A n cp) (.slice Av c.recs.length cv) ⟨c.snap, c.recs⟩ := by
  refine ⟨A, n, cp, Av, _, cv, vs, rfl, rfl, H.snap, fun ad e _ => H.sA ad e, ⟨H.row, rfl, fun i l hl => ?_⟩, fun ad e _ => H.rA ad e, fun i a m cc hv ad e _ => ?_⟩
  · obtain ⟨gi, h1, h2, h3⟩ := H.recs i l hl
    exact ⟨_, _, _, h1, h2, by have := hr l (List.mem_of_getElem? hl); omega⟩
  · have hi : i < c.recs.length := by
      have h1 := (List.getElem?_eq_some_iff.1 hv).1
      have h2 : vs.length = c.recs.length := by simpa using H.row.len
      omega
    obtain ⟨gi, h1, h2, h3⟩ := H.recs i _ (List.getElem?_eq_getElem hi)
    rw [h1] at hv
    injection hv with hv; injection hv with hv
    subst hv; cases e; exact h3
/-- an opened journal beside what was there, and what was found -/
structure Opnd (K : Nat) (w w' : World) (p q : Nat) (G G' : List Nat) (j : JSt) (s : FSt) (h : Hd) (v0 v1 : Value) : Prop where
  fl : Fl w' p G' s
  jo : Jo w' q p j
  qG : q ∉ G'
  q0 : w.heap.size ≤ q
  keep : Keep G w w'
  out : ∀ x ∈ G', x ∈ G ∨ w.heap.size ≤ x
  hin : HIn w' (fun x => w.heap.size ≤ x ∧ x < w'.heap.size ∧ x ≠ q ∧ x ∉ G') v0 v1 h
  ji : JI K j s h
  oth : bankF s (1 - j.bank) = []
theorem JI.lens {K : Nat} {j : JSt} {s : FSt} {h : Hd} (H : JI K j s h) : (∀ r ∈ h.recs, r.length ≤ 262144) ∧ h.snap.length ≤ 262132 ∧ h.recs.length ≤ (bankF s j.bank).length ∧ 1 ≤ j.epoch ∧ j.epoch ≤ 9223372036854775807 := by
  have co := readB_ok H.read
  exact ⟨co.recs, co.snap, co.few, co.ep1, co.ep2⟩
/-- Open of a flash that holds h -/
theorem Open_law (w : World) {p : Nat} {G : List Nat} {s : FSt} {N K : Nat} {h : Hd} (hf : Fl w p G s) (hN : FOkN N s) (hNN : N ≤ 4611686018427387900) (hd : s.down = false) (S : SI K s h) :
    Calls Try.prog 57 #[.pointer (some ⟨p, 0, none⟩)] w fun e w' =>
      (∃ s', e = .returned (.tuple #[.pointer none, .agg #[.int .i64 0, .slice none 0 0, .slice none 0 0, .int .i64 0], .int .i64 121]) ∧ FStep w w' p G s' ∧ Crsh s s' 121 ∧ SI K s' h ∧ FOkN (N + 3) s') ∨
      (∃ q j s' G' v0 v1 cut, e = .returned (.tuple #[.pointer (some ⟨q, 0, none⟩), .agg #[.int .i64 (j.epoch : Nat), v0, v1, .int .i64 (cut : Nat)], .int .i64 0]) ∧ Opnd K w w' p q G G' j s' h v0 v1 ∧ Calm s s' 0 ∧ FOkN (N + 3) s') := by
  have hok := openF_ok hN
  refine (Open_any w hf hN hNN).mono fun e w' hP => ?_
  rcases openF_law hd hN S with ⟨j, c, cut, s', e1, h1, h2, h3, h4, h5⟩ | ⟨s', e1, h1, h2⟩
  · right
    unfold OpenP at hP
    rw [e1] at hP hok
    rcases hP with ⟨hx, _⟩ | ⟨j', c', cut', q, A, Av, n, cp, cv, vs, G', he, _, rfl, k1, k2, k3, k4, k5, k6, k7⟩
    · cases hx
    · simp only [Option.some.injEq, Prod.mk.injEq] at he
      obtain ⟨rfl, rfl, rfl⟩ := he
      obtain ⟨hs, hr⟩ := h
      simp only at h1 h2
      subst h1; subst h2
      exact ⟨q, j, s', G', _, _, cut, rfl, ⟨k1, k2, k3, k4, k5, k6, k7.hin h4.lens.1, h4, h5⟩, h3, hok⟩
  · left
    unfold OpenP at hP
    rw [e1] at hP hok
    rcases hP with ⟨_, he, hs⟩ | ⟨j', c', cut', q, A, Av, n, cp, cv, vs, G', he, _⟩
    · exact ⟨s', he, hs, h1, h2, hok⟩
    · cases he
/-- Open of what an open journal holds: nothing is written -/
theorem Open_again (w : World) {p : Nat} {G : List Nat} {s : FSt} {N K : Nat} {j : JSt} {h : Hd} (hf : Fl w p G s) (hN : FOkN N s) (hNN : N ≤ 4611686018427387900) (J : JI K j s h) (ho : bankF s (1 - j.bank) = []) :
    Calls Try.prog 57 #[.pointer (some ⟨p, 0, none⟩)] w fun e w' =>
      ∃ q G' v0 v1, e = .returned (.tuple #[.pointer (some ⟨q, 0, none⟩), .agg #[.int .i64 (j.epoch : Nat), v0, v1, .int .i64 0], .int .i64 0]) ∧ Opnd K w w' p q G G' j s h v0 v1 := by
  refine (Open_any w hf hN hNN).mono fun e w' hP => ?_
  have e1 := openF_again J ho
  unfold OpenP at hP
  rw [e1] at hP
  rcases hP with ⟨hx, _⟩ | ⟨j', c', cut', q, A, Av, n, cp, cv, vs, G', he, _, rfl, k1, k2, k3, k4, k5, k6, k7⟩
  · cases hx
  · simp only [Option.some.injEq, Prod.mk.injEq] at he
    obtain ⟨rfl, rfl, rfl⟩ := he
    exact ⟨q, G', _, _, rfl, ⟨k1, k2, k3, k4, k5, k6, k7.hin J.lens.1, J, ho⟩⟩
/-- Open of a flash that it refuses -/
theorem Open_err (w : World) {p : Nat} {G : List Nat} {s : FSt} {N E : Nat} (hf : Fl w p G s) (hN : FOkN N s) (hNN : N ≤ 4611686018427387900) (he : openF s = (none, s, E)) :
    Calls Try.prog 57 #[.pointer (some ⟨p, 0, none⟩)] w fun e w' => e = .returned (.tuple #[.pointer none, .agg #[.int .i64 0, .slice none 0 0, .slice none 0 0, .int .i64 0], .int .i64 (E : Nat)]) ∧ FStep w w' p G s := by
  refine (Open_any w hf hN hNN).mono fun e w' hP => ?_
  unfold OpenP at hP
  rw [he] at hP
  rcases hP with ⟨_, h1, h2⟩ | ⟨j', c', cut', q, A, Av, n, cp, cv, vs, G', hx, _⟩
  · exact ⟨h1, h2⟩
  · cases hx
end Go.Proofs.Ytpjmbhhfpoamnaa
