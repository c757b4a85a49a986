import Derived.Test.YtpjmbhhfpoamnaaJn24
set_option linter.unusedVariables false
set_option linter.unusedSimpArgs false
namespace Go.Proofs.Ytpjmbhhfpoamnaa
open Go.RowKit
theorem EHd : ElemT Try.prog 112 106 (.agg #[.slice none 0 0, .slice none 0 0]) 2 48 := ⟨Try.underlying112, by kernel_rfl, rfl, by decide⟩
/-- blocks that a journal and its flash leave alone -/
def Pn (w : World) (q : Nat) (G Ls : List Nat) (x : Nat) : Prop := x < w.heap.size ∧ x ∉ q :: G ∧ x ∉ Ls
/-- a journal and its flash behind a step -/
structure JG (w w' : World) (p q : Nat) (G G' : List Nat) (j : JSt) (s : FSt) : Prop where
  fl : Fl w' p G' s
  jo : Jo w' q p j
  qG : q ∉ G'
  keep : Keep (q :: G) w w'
  out : ∀ x ∈ G', x ∈ G ∨ w.heap.size ≤ x
theorem JG.of {w w' : World} {p q : Nat} {G : List Nat} {j : JSt} {s : FSt} (k : JStep w w' q p G j s) (hq : q < w.heap.size) (hG : q ∉ G) : ∃ G', JG w w' p q G G' j s := by
  obtain ⟨G', h1, h2, h3, h4⟩ := k.out
  exact ⟨G', h1, h2, fun hx => by rcases h4 q hx with h | h; exact hG h; omega, h3, h4⟩
theorem JG.below {w w' w2 : World} {p q : Nat} {G G' : List Nat} {j : JSt} {s : FSt} (h : JG w w' p q G G' j s) (k : Below w'.heap.size w' w2) : JG w w2 p q G G' j s := ⟨h.fl.below k, h.jo.below k, h.qG, h.keep.trans (Keep.of_below k _), h.out⟩
theorem JG.ahead {w w1 w2 : World} {p q : Nat} {G G' : List Nat} {j : JSt} {s : FSt} (k : Below w.heap.size w w1) (h : JG w1 w2 p q G G' j s) : JG w w2 p q G G' j s := ⟨h.fl, h.jo, h.qG, (Keep.of_below k _).trans h.keep, fun x hx => (h.out x hx).imp id (Nat.le_trans k.size)⟩
theorem JG.pn {w w' : World} {p q : Nat} {G G' Ls : List Nat} {j : JSt} {s : FSt} (h : JG w w' p q G G' j s) {x : Nat} (hx : Pn w q G Ls x) : Pn w' q G' Ls x := by
  refine ⟨Nat.lt_of_lt_of_le hx.1 h.keep.size, fun hm => ?_, hx.2.2⟩
  rcases List.mem_cons.1 hm with h1 | h1
  · exact hx.2.1 (by simp [h1])
  · rcases h.out x h1 with h2 | h2
    · exact hx.2.1 (List.mem_cons_of_mem _ h2)
    · have := hx.1; omega
theorem JG.hin {w w' : World} {p q : Nat} {G G' Ls : List Nat} {j : JSt} {s : FSt} (h : JG w w' p q G G' j s) {v0 v1 : Value} {hd : Hd} (H : HIn w (Pn w q G Ls) v0 v1 hd) : HIn w' (Pn w' q G' Ls) v0 v1 hd := (H.keep h.keep (fun _ hx => hx.2.1)).mono (fun _ hx => h.pn hx)
theorem Pn.below {w w' : World} {q : Nat} {G Ls : List Nat} {x : Nat} (h : Pn w q G Ls x) (k : Below w.heap.size w w') : Pn w' q G Ls x := ⟨Nat.lt_of_lt_of_le h.1 k.size, h.2⟩
theorem Pn.new {w w' : World} {q : Nat} {G Ls : List Nat} {x : Nat} (hq : q < w.heap.size) (hG : ∀ x ∈ G, x < w.heap.size) (hL : ∀ x ∈ Ls, x < w.heap.size) (h1 : w.heap.size ≤ x) (h2 : x < w'.heap.size) : Pn w' q G Ls x := ⟨h2, fun hm => by
  rcases List.mem_cons.1 hm with h | h
  · omega
  · have := hG x h; omega, fun hm => by have := hL x hm; omega⟩
theorem HIn.pbelow {w w' : World} {q : Nat} {G Ls : List Nat} {v0 v1 : Value} {hd : Hd} (H : HIn w (Pn w q G Ls) v0 v1 hd) (k : Below w.heap.size w w') : HIn w' (Pn w' q G Ls) v0 v1 hd := (H.below k).mono (fun _ hx => hx.below k)
/-- a list of what a journal may hold -/
structure Hels (w : World) (P : Nat → Prop) (A : Option Addr) (n c : Nat) (vs : List Value) (hs : List Hd) : Prop where
  sl : Sl w 2 A n c vs
  pa : ∀ ad, A = some ad → P ad.block
  len : hs.length = n
  at_ : ∀ (i : Nat) h, hs[i]? = some h → ∃ v0 v1, vs[i * 2]? = some v0 ∧ vs[i * 2 + 1]? = some v1 ∧ HIn w P v0 v1 h
theorem Hels.keep {w w' : World} {P P' : Nat → Prop} {M : List Nat} {A : Option Addr} {n c : Nat} {vs : List Value} {hs : List Hd} (H : Hels w P A n c vs hs) (k : Keep M w w') (hM : ∀ x, P x → x ∉ M) (hP : ∀ x, P x → P' x) : Hels w' P' A n c vs hs :=
  ⟨H.sl.keep k (fun ad e => hM _ (H.pa ad e)), fun ad e => hP _ (H.pa ad e), H.len, fun i h hi => let ⟨v0, v1, h1, h2, h3⟩ := H.at_ i h hi; ⟨v0, v1, h1, h2, (h3.keep k hM).mono hP⟩⟩
theorem Hels.one {w : World} {P P' : Nat → Prop} {v0 v1 : Value} {h : Hd} (H : HIn w P v0 v1 h) (hP : ∀ x, P x → P' x) (h2 : P' w.heap.size) : Hels (w.alloc (.cells #[v0, v1] 106)) P' (some ⟨w.heap.size, 0, none⟩) 1 1 [v0, v1] [h] :=
  ⟨Sl.fresh w [v0, v1] 106 1 2 rfl (by decide), fun ad e => by cases e; exact h2, rfl, fun i g hi => by
    match i, hi with
    | 0, hi =>
      obtain rfl := Option.some.inj hi
      exact ⟨v0, v1, rfl, rfl, (H.below ((Below.refl _ _).alloc (Nat.le_refl _) _)).mono hP⟩⟩
theorem HIn.nil {w : World} {P : Nat → Prop} {A : Option Addr} {n c : Nat} {l : List UInt8} (h : Sl w 1 A n c (l.map by8)) (hP : ∀ ad, A = some ad → 0 < n → P ad.block) : HIn w P (.slice A n c) (.slice none 0 0) ⟨l, []⟩ :=
  ⟨A, n, c, none, 0, 0, [], rfl, rfl, h, hP, ⟨Sl.nilS w 1, rfl, fun i l hl => by (cases hl)⟩, fun _ e => by (cases e), fun i a m c hv => by (cases hv)⟩
/-- what a call leaves: gone down or not -/
structure KRes (s : FSt) (hs : List Hd) (dn : Bool) (j' : JSt) (s' : FSt) : Prop where
  out : (dn = false ∧ ∃ h', hs[0]? = some h' ∧ JI 0 j' s' h' ∧ s'.armed.length ≤ s.armed.length) ∨ (dn = true ∧ s'.down = true ∧ s'.armed.length + 1 ≤ s.armed.length ∧ ∃ h', h' ∈ hs ∧ SI 0 s' h')
/-- what kept leaves -/
def KeptP (w : World) (p q : Nat) (G Ls : List Nat) (s : FSt) (N : Nat) (e : Ending) (w' : World) : Prop :=
  ∃ (M : Option Addr) (nm cm : Nat) (vs : List Value) (hs : List Hd) (dn : Bool) (j' : JSt) (s' : FSt) (G2 : List Nat), e = .returned (.tuple #[.slice M nm cm, .bool dn]) ∧ JG w w' p q G G2 j' s' ∧ Hels w' (Pn w' q G2 Ls) M nm cm vs hs ∧ nm ≤ 4 ∧ KRes s hs dn j' s' ∧ FOkN (N + 4) s'
end Go.Proofs.Ytpjmbhhfpoamnaa
