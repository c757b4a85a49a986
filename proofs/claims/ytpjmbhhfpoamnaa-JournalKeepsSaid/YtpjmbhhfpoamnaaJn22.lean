import Derived.Test.YtpjmbhhfpoamnaaJn21
set_option linter.unusedVariables false
set_option linter.unusedSimpArgs false
namespace Go.Proofs.Ytpjmbhhfpoamnaa
open Go.RowKit
/-- a flash that is to be opened (again), since the world w; the blocks M are not its own -/
structure PreO (K : Nat) (w wr : World) (p : Nat) (G Gr : List Nat) (s : FSt) (h : Hd) (B n tries : Nat) (M : List Nat) : Prop where
  fl : Fl wr p Gr s
  keep : Keep G w wr
  out : ∀ x ∈ Gr, x ∈ G ∨ w.heap.size ≤ x
  si : SI K s h
  ok : ∃ N, FOkN N s ∧ N + 3 * s.armed.length ≤ B
  gm : ∀ m ∈ M, m ∉ Gr
  arm : s.armed.length + (if s.down then 1 else 0) + n ≤ tries
/-- an opened journal, beside the blocks M too -/
structure Opn2 (K : Nat) (w w' : World) (p q : Nat) (G G' : List Nat) (j : JSt) (s : FSt) (h : Hd) (v0 v1 : Value) (M : List Nat) : Prop where
  o : Opnd K w w' p q G G' j s h v0 v1
  hin : HIn w' (fun x => w.heap.size ≤ x ∧ x < w'.heap.size ∧ x ≠ q ∧ x ∉ G' ∧ x ∉ M) v0 v1 h
  qM : q ∉ M
  gm : ∀ m ∈ M, m ∉ G'
theorem Opn2.step {K : Nat} {w w' w2 : World} {p q : Nat} {G G' : List Nat} {j : JSt} {s : FSt} {h : Hd} {v0 v1 : Value} {M : List Nat} (H : Opn2 K w w' p q G G' j s h v0 v1 M) (k : Keep M w' w2) (hM : ∀ m ∈ M, w.heap.size ≤ m) : Opn2 K w w2 p q G G' j s h v0 v1 M := by
  have hz := k.size
  have hi : HIn w2 (fun x => w.heap.size ≤ x ∧ x < w2.heap.size ∧ x ≠ q ∧ x ∉ G' ∧ x ∉ M) v0 v1 h := (H.hin.keep k (fun x hx => hx.2.2.2.2)).mono (fun x hx => ⟨hx.1, by omega, hx.2.2⟩)
  exact ⟨⟨H.o.fl.keep k (fun x hx hm => H.gm x hm hx), H.o.jo.keep k H.qM, H.o.qG, H.o.q0, H.o.keep.trans' k (fun x hx => .inr (hM x hx)), H.o.out, hi.mono (fun x hx => ⟨hx.1, hx.2.1, hx.2.2.1, hx.2.2.2.1⟩), H.o.ji, H.o.oth⟩, hi, H.qM, H.gm⟩
/-- behind an Open -/
def ReoSt (K : Nat) (w w' : World) (p : Nat) (G : List Nat) (h : Hd) (B n tries : Nat) (M : List Nat) (jv : Value) (ev : Nat) (ep : Int) (A : Option Addr) (a b : Nat) (Av : Option Addr) (c d : Nat) (cut : Int) : Prop :=
  (jv = .pointer none ∧ ev = 121 ∧ ∃ Gr s, PreO K w w' p G Gr s h B n tries M ∧ s.down = true) ∨
  (ev = 0 ∧ ∃ q j s G', jv = .pointer (some ⟨q, 0, none⟩) ∧ ep = (j.epoch : Nat) ∧ (∃ ct : Nat, cut = ct) ∧ Opn2 K w w' p q G G' j s h (.slice A a b) (.slice Av c d) M ∧ ∃ N, FOkN N s ∧ N + 3 * s.armed.length ≤ B + 3 ∧ s.armed.length ≤ tries)
theorem PreO.restart {K : Nat} {w wr w' : World} {p : Nat} {G Gr : List Nat} {s : FSt} {h : Hd} {B n tries : Nat} {M : List Nat} (P : PreO K w wr p G Gr s h B n tries M) (hd : s.down = true) (k : FStep wr w' p Gr { s with down := false }) (hM : ∀ m ∈ M, m < wr.heap.size) :
    ∃ Gr', PreO K w w' p G Gr' { s with down := false } h B (n + 1) tries M := by
  obtain ⟨G2, h1, h2, h3⟩ := k.out
  obtain ⟨N, o1, o2⟩ := P.ok
  have ha := P.arm
  rw [hd, if_pos rfl] at ha
  have hz := P.keep.size
  refine ⟨G2, h1, P.keep.trans' h2 (fun x hx => P.out x hx), fun x hx => ?_, P.si.same rfl rfl (Nat.le_refl _), ⟨N, ⟨o1.size, o1.b0, o1.b1, o1.writes, o1.count, o1.armed, o1.vals⟩, o2⟩, fun m hm hx => ?_, by simp only; rw [if_neg (by decide)]; omega⟩
  · rcases h3 x hx with h | h
    · exact P.out x h
    · exact .inr (by omega)
  · rcases h3 m hx with h | h
    · exact P.gm m hm h
    · have := hM m hm; omega
/-- Open, from such a state -/
theorem Open_reo {K : Nat} {w wr : World} {p : Nat} {G Gr : List Nat} {s : FSt} {h : Hd} {B n tries : Nat} {M0 : List Nat} (P : PreO K w wr p G Gr s h B n tries M0) (hB : B ≤ 4611686018427387890) :
    Calls Try.prog 57 #[.pointer (some ⟨p, 0, none⟩)] wr fun e w2 => ∃ jv ev ep A a b Av c d cut, e = .returned (.tuple #[jv, .agg #[.int .i64 ep, .slice A a b, .slice Av c d, .int .i64 cut], .int .i64 ((ev : Nat) : Int)]) ∧ (jv.oneCell' = true ∧ (ev = 0 ∨ ev = 121)) ∧ Keep Gr wr w2 ∧
      ∀ w3 M, Keep M w2 w3 → (∀ m ∈ M, w.heap.size ≤ m ∧ ((m < wr.heap.size ∧ m ∉ Gr) ∨ w2.heap.size ≤ m)) → ReoSt K w w3 p G h B n tries M jv ev ep A a b Av c d cut := by
  obtain ⟨N, o1, o2⟩ := P.ok
  have hzr := P.keep.size
  have hstay : ∀ {G2 : List Nat} {w2 : World} {M : List Nat}, (∀ x ∈ G2, x ∈ Gr ∨ wr.heap.size ≤ x) → (∀ x ∈ G2, x < w2.heap.size) → (∀ m ∈ M, w.heap.size ≤ m ∧ ((m < wr.heap.size ∧ m ∉ Gr) ∨ w2.heap.size ≤ m)) → ∀ m ∈ M, m ∉ G2 := fun h1 h2 hM m hm hx => by
    have e2 := h2 m hx
    rcases hM m hm with ⟨_, ⟨q1, q2⟩ | q1⟩
    · rcases h1 m hx with h | h
      · exact q2 h
      · omega
    · omega
  have hdown : ∀ {w2 : World} {s2 : FSt} {G2 : List Nat}, Fl w2 p G2 s2 → Keep Gr wr w2 → (∀ x ∈ G2, x ∈ Gr ∨ wr.heap.size ≤ x) → SI K s2 h → s2.down = true → s2.armed.length + 1 + n ≤ tries → (∃ N, FOkN N s2 ∧ N + 3 * s2.armed.length ≤ B) →
      ∀ w3 M, Keep M w2 w3 → (∀ m ∈ M, w.heap.size ≤ m ∧ ((m < wr.heap.size ∧ m ∉ Gr) ∨ w2.heap.size ≤ m)) → ReoSt K w w3 p G h B n tries M (.pointer none) 121 0 none 0 0 none 0 0 0 := fun {w2 s2 G2} f k g S hd ha ho w3 M k3 hM => by
    have hst := hstay g f.lts hM
    refine .inl ⟨rfl, rfl, G2, s2, ⟨f.keep k3 (fun x hx hm => hst x hm hx), (P.keep.trans' k (fun x hx => P.out x hx)).trans' k3 (fun x hx => .inr (hM x hx).1), fun x hx => ?_, S, ho, hst, by rw [hd, if_pos rfl]; omega⟩, hd⟩
    rcases g x hx with h | h
    · exact P.out x h
    · exact .inr (by omega)
  cases hd : s.down with
  | true =>
    have ha := P.arm
    rw [hd, if_pos rfl] at ha
    refine (Open_err wr P.fl o1 (by omega) (openF_down hd)).mono ?_
    rintro e w2 ⟨rfl, k⟩
    obtain ⟨G2, h1, h2, h3⟩ := k.out
    exact ⟨_, 121, _, _, _, _, _, _, _, _, rfl, ⟨rfl, .inr rfl⟩, h2, hdown h1 h2 h3 P.si hd (by omega) ⟨N, o1, o2⟩⟩
  | false =>
    have ha := P.arm
    rw [hd, if_neg (by decide)] at ha
    refine (Open_law wr P.fl o1 (by omega) hd P.si).mono ?_
    rintro e w2 (⟨s2, rfl, k, c, S, o⟩ | ⟨q, j, s2, G', v0, v1, cut, rfl, O, c, o⟩)
    · obtain ⟨G2, h1, h2, h3⟩ := k.out
      have hc := c.armed
      exact ⟨_, 121, _, _, _, _, _, _, _, _, rfl, ⟨rfl, .inr rfl⟩, h2, hdown h1 h2 h3 S c.down (by omega) ⟨_, o, by omega⟩⟩
    · obtain ⟨A, a, b, Av, nr, d, vs, rfl, rfl, _⟩ := O.hin.out
      have hq : q < w2.heap.size := (Array.getElem?_eq_some_iff.1 O.jo).1
      have hq0 := O.q0
      refine ⟨_, 0, _, _, _, _, _, _, _, _, rfl, ⟨rfl, .inl rfl⟩, O.keep, fun w3 M k3 hM => .inr ⟨rfl, q, j, s2, G', rfl, rfl, ⟨cut, rfl⟩, ?_, _, o, by have := c.armed; omega, by have := c.armed; omega⟩⟩
      have hst := hstay O.out O.fl.lts hM
      have hz3 := k3.size
      have hmx : ∀ x, wr.heap.size ≤ x ∧ x < w2.heap.size → x ∉ M := fun x hx hm => by
        rcases hM x hm with ⟨_, ⟨q1, q2⟩ | q1⟩ <;> omega
      have hi : HIn w3 (fun x => w.heap.size ≤ x ∧ x < w3.heap.size ∧ x ≠ q ∧ x ∉ G' ∧ x ∉ M) (.slice A a b) (.slice Av nr d) h := (O.hin.keep k3 (fun x hx => hmx x ⟨hx.1, hx.2.1⟩)).mono (fun x hx => ⟨by omega, by omega, hx.2.2.1, hx.2.2.2, hmx x ⟨hx.1, hx.2.1⟩⟩)
      refine ⟨⟨O.fl.keep k3 (fun x hx hm => hst x hm hx), O.jo.keep k3 (hmx q ⟨hq0, hq⟩), O.qG, by omega, (P.keep.trans' O.keep (fun x hx => P.out x hx)).trans' k3 (fun x hx => .inr (hM x hx).1), fun x hx => ?_, hi.mono (fun x hx => ⟨hx.1, hx.2.1, hx.2.2.1, hx.2.2.2.1⟩), O.ji, O.oth⟩, hi, hmx q ⟨hq0, hq⟩, hst⟩
      rcases O.out x hx with h | h
      · exact P.out x h
      · exact .inr (by omega)
end Go.Proofs.Ytpjmbhhfpoamnaa
