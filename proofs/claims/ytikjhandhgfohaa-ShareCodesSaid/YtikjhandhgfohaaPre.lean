import Derived.WalkKit
import Derived.ProofKit
import Derived.Outline
import Derived.WalkLawsBesides
import Derived.WalkSpells
import Derived.Lib.Hide
import Derived.IntWalk
import Derived.Deep.QuietTactic
import Derived.BigQuiet
import Derived.Deep.DeepCutAuto
import Derived.Deep.DeepFit
import Derived.Deep.AppendLies
import Derived.Laws.AppendOwnNone
import Derived.OneCell
import Derived.Laws.BytesArg
set_option linter.unusedVariables false
set_option linter.unusedSimpArgs false
namespace Go.Proofs.Ytikjhandhgfohaa
open Go.RowKit

/-- the walk stops before such a goal -/
structure Stopped (p : Prop) : Prop where mk ::
  out : p

/-! ### values -/
def by8 (c : UInt8) : Value := .int .u8 (c.toNat : Int)
def by64 (c : UInt64) : Value := .int .u64 (c.toNat : Int)
theorem u8_lt (c : UInt8) : c.toNat < 256 := c.toNat_lt
theorem getElem_u8 (l : List UInt8) (i : Nat) (h : i < (l.map by8).length) : (l.map by8)[i] = .int .u8 ((l[i]'(by simpa using h)).toNat : Int) := by simp [by8]
theorem u8_one (l : List UInt8) : ∀ u ∈ l.map by8, u.oneCell' = true := by
  intro u hu
  obtain ⟨c, _, rfl⟩ := List.mem_map.1 hu
  rfl

/-! ### what a call may change: the blocks of M, and new ones -/
structure Keep (M : List Nat) (w w' : World) : Prop where
  os : w'.os = w.os
  tape : w'.tape = w.tape
  output : w'.output = w.output
  size : w.heap.size ≤ w'.heap.size
  block : ∀ k, k < w.heap.size → k ∉ M → w'.heap[k]? = w.heap[k]?
theorem Keep.refl (M : List Nat) (w : World) : Keep M w w := ⟨rfl, rfl, rfl, Nat.le_refl _, fun _ _ _ => rfl⟩
theorem Keep.trans {M : List Nat} {a b c : World} (h : Keep M a b) (k : Keep M b c) : Keep M a c :=
  ⟨k.os.trans h.os, k.tape.trans h.tape, k.output.trans h.output, Nat.le_trans h.size k.size,
    fun i hi hm => (k.block i (Nat.lt_of_lt_of_le hi h.size) hm).trans (h.block i hi hm)⟩
/-- new blocks need not be named -/
theorem Keep.trans' {M M' : List Nat} {a b c : World} (h : Keep M a b) (k : Keep M' b c) (hM : ∀ x ∈ M', x ∈ M ∨ a.heap.size ≤ x) : Keep M a c :=
  ⟨k.os.trans h.os, k.tape.trans h.tape, k.output.trans h.output, Nat.le_trans h.size k.size,
    fun i hi hm => (k.block i (Nat.lt_of_lt_of_le hi h.size) (fun hx => by rcases hM i hx with h1 | h1; exact hm h1; omega)).trans (h.block i hi hm)⟩
theorem Keep.mono {M M' : List Nat} {a b : World} (h : Keep M a b) (hM : ∀ x ∈ M, x ∈ M') : Keep M' a b :=
  ⟨h.os, h.tape, h.output, h.size, fun i hi hm => h.block i hi (fun hx => hm (hM i hx))⟩
theorem Keep.of_below {w w' : World} (h : Below w.heap.size w w') (M : List Nat) : Keep M w w' :=
  ⟨h.os, h.tape, h.output, h.size, fun i hi _ => h.block i hi⟩
theorem Keep.below {B : Nat} {a w w' : World} (h : Below B a w) {M : List Nat} (k : Keep M w w') (hB : B ≤ w.heap.size) (hM : ∀ x ∈ M, B ≤ x) : Below B a w' :=
  h.trans ⟨k.os, k.tape, k.output, k.size, fun i hi => k.block i (by omega) (fun hx => by have := hM i hx; omega)⟩
theorem Keep.toBelow {M : List Nat} {w w' : World} (k : Keep M w w') (hM : ∀ x ∈ M, w.heap.size ≤ x) : Below w.heap.size w w' :=
  ⟨k.os, k.tape, k.output, k.size, fun i hi => k.block i hi (fun hx => by have := hM i hx; omega)⟩
theorem Keep.grown {M : List Nat} {a w w' : World} {row : Option Nat} (h : Keep M a w) (hg : w.grownBy w' row) (hr : ∀ k, row = some k → k ∈ M ∨ a.heap.size ≤ k) : Keep M a w' :=
  ⟨hg.os.trans h.os, hg.tape.trans h.tape, hg.output.trans h.output, Nat.le_trans h.size hg.size,
    fun i hi hm => (hg.block i (Nat.lt_of_lt_of_le hi h.size) (fun e => by rcases hr i e.symm with h1 | h1; exact hm h1; omega)).trans (h.block i hi hm)⟩
theorem Keep.alloc {M : List Nat} {a w : World} (h : Keep M a w) (o : Obj) : Keep M a (w.alloc o) :=
  h.trans (Keep.of_below ((Below.refl _ _).alloc (Nat.le_refl _) o) M)
theorem Keep.drew {M : List Nat} {a w : World} (h : Keep M a w) : Keep M a w.drew := ⟨h.os, h.tape, h.output, h.size, h.block⟩
theorem Keep.drewN {M : List Nat} {a w : World} (h : Keep M a w) (n : Nat) : Keep M a (w.drewN n) := ⟨h.os, h.tape, h.output, h.size, h.block⟩
theorem Keep.setCell {M : List Nat} {a w : World} (h : Keep M a w) {p : Addr} (hp : p.block ∈ M ∨ a.heap.size ≤ p.block) (u : Value) : Keep M a (w.setCell p u) :=
  ⟨h.os, h.tape, h.output, by simpa [World.setCell] using h.size,
    fun i hi hm => (Below.heap_setCell _ _ _ _ (fun e => by subst e; rcases hp with h1 | h1; exact hm h1; omega)).trans (h.block i hi hm)⟩
theorem Keep.cell {M : List Nat} {w w' : World} (h : Keep M w w') {a : Addr} {v : Value} (hc : w.cell? a = some v) (hM : a.block ∉ M) : w'.cell? a = some v :=
  (World.cell?_of_block (h.block a.block (World.block_lt_of_cell? w a hc) hM)).trans hc
theorem Keep.heap {M : List Nat} {w w' : World} (h : Keep M w w') {b : Nat} {o : Obj} (hc : w.heap[b]? = some o) (hM : b ∉ M) : w'.heap[b]? = some o :=
  (h.block b (lt_of_block hc) hM).trans hc
theorem Keep.own {M : List Nat} {w w' : World} (h : Keep M w w') {base e size n : Nat} {v : Value} {xs : List Value} (ho : w.ownsRow base e size v n xs) (hM : ∀ k, v.ownBlock = some k → k ∉ M) : w'.ownsRow base e size v n xs := by
  refine ⟨ho.1, ?_⟩
  rcases ho.2 with h1 | ⟨g, cap, cur, rfl, hb, hg, r⟩
  · exact .inl h1
  · exact .inr ⟨g, cap, cur, rfl, hb, h.heap hg (hM g rfl), r⟩
theorem own_base {w : World} {base base' e size n : Nat} {v : Value} {xs : List Value} (ho : w.ownsRow base e size v n xs) (hb : ∀ k, v.ownBlock = some k → base' ≤ k) : w.ownsRow base' e size v n xs := by
  refine ⟨ho.1, ?_⟩
  rcases ho.2 with h1 | ⟨g, cap, cur, rfl, _, r⟩
  · exact .inl h1
  · exact .inr ⟨g, cap, cur, rfl, hb g rfl, r⟩
theorem own_mono {w : World} {base base' e size n : Nat} {v : Value} {xs : List Value} (ho : w.ownsRow base e size v n xs) (hb : base' ≤ base) : w.ownsRow base' e size v n xs :=
  own_base ho fun k hk => by have := (ho.lt k hk).1; omega

/-! ### some orders have been drawn -/
structure Drawn (w w' : World) : Prop where mk' ::
  out : ∃ n, w' = w.drewN n
theorem Drawn.refl (w : World) : Drawn w w := ⟨⟨0, rfl⟩⟩
theorem Drawn.step {w w' : World} (h : Drawn w w') (n : Nat) : Drawn w (w'.drewN n) := by
  obtain ⟨m, rfl⟩ := h.out
  exact ⟨⟨m + n, World.drewN_drewN ..⟩⟩
theorem Drawn.keep {w w' : World} (h : Drawn w w') (M : List Nat) : Keep M w w' := by
  obtain ⟨n, rfl⟩ := h.out
  exact (Keep.refl M w).drewN n
theorem Drawn.below {w w' : World} (h : Drawn w w') : Below w.heap.size w w' := (h.keep []).toBelow (by simp)
theorem Drawn.size {w w' : World} (h : Drawn w w') : w'.heap.size = w.heap.size := by
  obtain ⟨n, rfl⟩ := h.out
  rfl

theorem own_ne {w : World} {base e size n : Nat} {v : Value} {xs : List Value} (ho : w.ownsRow base e size v n xs) {b : Nat} (hb : b < base) : some b ≠ v.ownBlock := fun h => by
  have := (ho.lt b h.symm).1
  omega
theorem cell_al {w : World} {a : Addr} {v : Value} (h : w.cell? a = some v) (o : Obj) : (w.alloc o).cell? a = some v := ((Keep.refl [] w).alloc o).cell h (by simp)
theorem cell_ald {w : World} {a : Addr} {v : Value} (h : w.cell? a = some v) (o : Obj) : (w.alloc o).drew.cell? a = some v := cell_al h o
theorem cell_set {w : World} {a p : Addr} {v u : Value} (h : w.cell? a = some v) (hne : a.block ≠ p.block) : (w.setCell p u).cell? a = some v :=
  ((Keep.refl [p.block] w).setCell (.inl (by simp)) u).cell h (by simpa using hne)
theorem cell_setd {w : World} {a p : Addr} {v u : Value} (h : w.cell? a = some v) (hne : a.block ≠ p.block) : (w.setCell p u).drew.cell? a = some v := cell_set h hne
theorem cell_lt {w : World} {a : Addr} {v : Value} (h : w.cell? a = some v) : a.block < w.heap.size := World.block_lt_of_cell? w a h

theorem quiet_id {P : Program} {f : FuncId} {args : Array Value} {w : World} {n : Nat} {v : Value}
    (h : Calls P f args (w.drewN n) fun e w' => e = .returned v ∧ w.drewN n = w') : Calls P f args (w.drewN n) fun e w'' => e = .returned v ∧ ∃ m, w'' = w.drewN m :=
  h.mono fun _ _ ⟨he, hm⟩ => ⟨he, n, hm.symm⟩
theorem quiet_dr {P : Program} {f : FuncId} {args : Array Value} {w : World} {n : Nat} {v : Value}
    (h : Calls P f args (w.drewN n) fun e w' => e = .returned v ∧ Drawn (w.drewN n) w') : Calls P f args (w.drewN n) fun e w'' => e = .returned v ∧ ∃ m, w'' = w.drewN m :=
  h.mono fun _ _ ⟨he, hm⟩ => ⟨he, by obtain ⟨k, rfl⟩ := hm.out; exact ⟨n + k, World.drewN_drewN ..⟩⟩

/-! ### a slice that is read -/
structure Sl (w : World) (sz : Nat) (A : Option Addr) (n c : Nat) (vs : List Value) : Prop where
  len : vs.length = n * sz
  le : n ≤ c
  max : c ≤ 9223372036854775807
  nil : A = none → c = 0
  at_ : ∀ ad, A = some ad → 0 < vs.length → ad.spot = none ∧ ∀ i (h : i < vs.length), w.cell? ⟨ad.block, ad.off + i, none⟩ = some vs[i]
/-- an address is there -/
theorem Sl.form {w : World} {sz : Nat} {A : Option Addr} {n c : Nat} {vs : List Value} (h : Sl w sz A n c vs) (hn : 0 < n) (hz : 0 < sz := by decide) : ∃ b off, A = some ⟨b, off, none⟩ := by
  cases A with
  | none => have := h.nil rfl; have := h.le; omega
  | some ad => obtain ⟨b, off, sp⟩ := ad; have := (h.at_ _ rfl (by rw [h.len]; exact Nat.mul_pos hn hz)).1; dsimp only at this; subst this; exact ⟨b, off, rfl⟩
theorem Sl.cell {w : World} {sz : Nat} {b off n c : Nat} {vs : List Value} (h : Sl w sz (some ⟨b, off, none⟩) n c vs) (i : Nat) (hi : i < vs.length) : w.cell? ⟨b, off + i, none⟩ = some vs[i] := (h.at_ _ rfl (by omega)).2 i hi
theorem Sl.keep {M : List Nat} {w w' : World} {sz : Nat} {A : Option Addr} {n c : Nat} {vs : List Value} (h : Sl w sz A n c vs) (k : Keep M w w') (hM : ∀ ad, A = some ad → ad.block ∉ M) : Sl w' sz A n c vs :=
  ⟨h.len, h.le, h.max, h.nil, fun ad e hp => ⟨(h.at_ ad e hp).1, fun i hi => k.cell ((h.at_ ad e hp).2 i hi) (hM ad e)⟩⟩
theorem Sl.below {w w' : World} {sz : Nat} {A : Option Addr} {n c : Nat} {vs : List Value} (h : Sl w sz A n c vs) (k : Below w.heap.size w w') : Sl w' sz A n c vs :=
  h.keep (Keep.of_below k []) (fun _ _ => by simp)
theorem Sl.drew {w : World} {sz : Nat} {A : Option Addr} {n c : Nat} {vs : List Value} (h : Sl w sz A n c vs) : Sl w.drew sz A n c vs := ⟨h.len, h.le, h.max, h.nil, h.at_⟩
theorem Sl.drewN {w : World} {sz : Nat} {A : Option Addr} {n c : Nat} {vs : List Value} (h : Sl w sz A n c vs) (m : Nat) : Sl (w.drewN m) sz A n c vs := ⟨h.len, h.le, h.max, h.nil, h.at_⟩
theorem Sl.alloc {w : World} {sz : Nat} {A : Option Addr} {n c : Nat} {vs : List Value} (h : Sl w sz A n c vs) (o : Obj) : Sl (w.alloc o) sz A n c vs := h.below ((Below.refl _ _).alloc (Nat.le_refl _) o)
theorem Sl.nilS (w : World) (sz : Nat) : Sl w sz none 0 0 [] := ⟨by simp, Nat.le_refl _, by omega, fun _ => rfl, fun _ e => by cases e⟩
theorem own_sl {w : World} {base e size n : Nat} {v : Value} {xs : List Value} (ho : w.ownsRow base e size v n xs) : ∃ A c, v = .slice A n c ∧ Sl w size A n c xs ∧ (∀ ad, A = some ad → base ≤ ad.block ∧ ad.block < w.heap.size) := by
  have h0 := ho
  rcases ho.2 with ⟨rfl, rfl⟩ | ⟨g, cap, cur, rfl, hb, hg, h1, h2, h3, h4⟩
  · have : xs = [] := List.eq_nil_of_length_eq_zero (by have := ho.1; simpa using this)
    subst this
    exact ⟨_, _, rfl, Sl.nilS w size, fun _ e => by cases e⟩
  · refine ⟨_, _, rfl, ⟨h0.1, h1, by simpa [maxLen] using h2, (fun e => by cases e), fun ad e _ => ?_⟩, fun ad e => ?_⟩
    · obtain rfl := Option.some.inj e
      refine ⟨rfl, fun i hi => ?_⟩
      have hlt : i < n * size := by rw [← h0.1]; exact hi
      simpa using (h0.cellAt i hlt).trans (List.getElem?_eq_getElem hi)
    · obtain rfl := Option.some.inj e
      exact ⟨hb, lt_of_block hg⟩
theorem own_sl' {w : World} {base e size n m c : Nat} {A : Option Addr} {xs : List Value} (ho : w.ownsRow base e size (.slice A m c) n xs) : m = n ∧ Sl w size A n c xs ∧ (∀ ad, A = some ad → base ≤ ad.block ∧ ad.block < w.heap.size) := by
  obtain ⟨A', c', e', h⟩ := own_sl ho
  injection e' with e1 e2 e3
  subst e1; subst e2; subst e3
  exact ⟨rfl, h⟩
/-- a cell of a row that is owned, for a store -/
theorem own_cell {w : World} {base e size n cap g : Nat} {xs : List Value} (ho : w.ownsRow base e size (.slice (some ⟨g, 0, .none⟩) n cap) n xs) (j : Nat) (hj : j < n * size) : ∃ v, w.cell? ⟨g, j, .none⟩ = some v :=
  ⟨_, (ho.cellAt j hj).trans (List.getElem?_eq_getElem (by rw [ho.1]; exact hj))⟩
theorem own_form {w : World} {base e size n : Nat} {v : Value} {xs : List Value} (ho : w.ownsRow base e size v n xs) (hn : 0 < n) (hz : 0 < size := by decide) : ∃ g c, v = .slice (some ⟨g, 0, none⟩) n c ∧ base ≤ g ∧ g < w.heap.size ∧ n ≤ c := by
  have h0 := ho
  rcases ho.2 with ⟨rfl, rfl⟩ | ⟨g, cap, cur, rfl, hb, hg, h1, h2, h3, h4⟩
  · omega
  · exact ⟨g, cap, rfl, hb, lt_of_block hg, h1⟩
/-- cells as the walk asks for them -/
theorem Sl.news {w : World} {sz : Nat} {ad : Addr} {n c : Nat} {vs : List Value} (h : Sl w sz (some ad) n c vs) : ∀ j u, vs[j]? = some u → w.cell? (ad.add j) = some u := by
  intro j u hu
  obtain ⟨b, off, sp⟩ := ad
  obtain ⟨hj, rfl⟩ := List.getElem?_eq_some_iff.1 hu
  have := (h.at_ _ rfl (by omega)).1; dsimp only at this; subst this
  have e : (⟨b, off, none⟩ : Addr).add j = ⟨b, off + j, none⟩ := by unfold Addr.add; split <;> simp_all
  rw [e]
  exact h.cell j hj

/-- a beginning -/
theorem Sl.pre {w : World} {A : Option Addr} {n c : Nat} {vs : List Value} (h : Sl w 1 A n c vs) {m : Nat} (hm : m ≤ n) : Sl w 1 A m c (vs.take m) :=
  ⟨by rw [List.length_take, h.len]; omega, by have := h.le; omega, h.max, h.nil, fun ad e hp => by
    rw [List.length_take] at hp
    refine ⟨(h.at_ ad e (by omega)).1, fun i hi => ?_⟩
    rw [List.length_take] at hi
    rw [List.getElem_take]
    exact (h.at_ ad e (by omega)).2 i (by omega)⟩
theorem Sl.preB {w : World} {A : Option Addr} {n c : Nat} {l : List UInt8} (h : Sl w 1 A n c (l.map by8)) {m : Nat} (hm : m ≤ n) : Sl w 1 A m c ((l.take m).map by8) := by
  have := h.pre hm
  rwa [← List.map_take] at this

/-- a slice of byte slices that is read -/
structure Sls (w : World) (A : Option Addr) (n c : Nat) (vs : List Value) (ll : List (List UInt8)) : Prop where
  sl : Sl w 1 A n c vs
  len : ll.length = n
  at_ : ∀ (i : Nat) (l : List UInt8), ll[i]? = some l → ∃ a m c, vs[i]? = some (.slice a m c) ∧ Sl w 1 a m c (l.map by8) ∧ m ≤ 140737488351232
theorem Sls.below {w w' : World} {A : Option Addr} {n c : Nat} {vs : List Value} {ll : List (List UInt8)} (h : Sls w A n c vs ll) (k : Below w.heap.size w w') : Sls w' A n c vs ll :=
  ⟨h.sl.below k, h.len, fun i l hl => by
    obtain ⟨a, m, c, h1, h2, h3⟩ := h.at_ i l hl
    exact ⟨a, m, c, h1, h2.below k, h3⟩⟩

theorem bthen {a w w' : World} (h : Below a.heap.size a w) (k : Below w.heap.size w w') : Below a.heap.size a w' := h.trans (k.mono h.size)
theorem own_below {w w' : World} {base e size n : Nat} {v : Value} {xs : List Value} (ho : w.ownsRow base e size v n xs) (k : Below w.heap.size w w') : w'.ownsRow base e size v n xs := (Keep.of_below k []).own ho (fun _ _ => by simp)
theorem heap_below {w w' : World} {b : Nat} {o : Obj} (h : w.heap[b]? = some o) (k : Below w.heap.size w w') : w'.heap[b]? = some o := (Keep.of_below k []).heap h (by simp)
theorem cell_below {w w' : World} {a : Addr} {v : Value} (h : w.cell? a = some v) (k : Below w.heap.size w w') : w'.cell? a = some v := (Keep.of_below k []).cell h (by simp)
theorem box_cell {w : World} {b : Nat} {cs : Array Value} {t : TypeId} {fr : Nat × Nat} (h : w.heap[b]? = some (.cells cs t fr)) (i : Nat) (v : Value) (hv : cs[i]? = some v) : w.cell? ⟨b, i, none⟩ = some v := (cell_of_row w b i cs t fr h).trans hv
theorem box_free {w : World} {b : Nat} {cs : Array Value} {t : TypeId} (h : w.heap[b]? = some (.cells cs t (0, 0))) (i : Nat) : w.frozen? ⟨b, i, none⟩ = false := frozen_of_row w b i cs t h

/-! ### append to a row of the call's own, from any slice -/
structure ElemT (P : Program) (t e : Nat) (z : Value) (size bytes : Nat) : Prop where
  und : P.underlying t = some (.slice e)
  info : (P.info? e).map (fun i => (i.zero, i.size, i.bytes)) = some (some z, size, bytes)
  zs : z.cells.size = size
  pos : 0 < size
theorem ap_wp {P : Program} {w : World} {o : Oper} {a : Act} {K : Act → World → Prop} {Q : Exit → Act → World → Prop} {t e size bytes : Nat} {z : Value} (E : ElemT P t e z size bytes) (s x : Operand)
    (ho : o.op = .call { callee := .builtin .append, args := #[s, x], argTypes := #[t, t] }) {base : Nat}
    {v : Value} {n : Nat} {xs : List Value} (hs : a.eval s = v) (hown : w.ownsRow base e size v n xs)
    {A : Option Addr} {m c : Nat} {news : List Value} (hx : a.eval x = .slice A m c) (hsl : Sl w size A m c news) (h1 : ∀ u ∈ news, u.oneCell' = true)
    (h63 : n + m ≤ maxLen) (hbytes : (n + m) * bytes ≤ 140737488355328) (hbase : base ≤ w.heap.size)
    (h : ∀ v' w', w'.ownsRow base e size v' (n + m) (xs ++ news) → w.grownBy w' v.ownBlock → (v' = .slice none 0 0 ↔ v = .slice none 0 0 ∧ m = 0) → K (a.put o.dst v') w') : o.wp P a w K Q := by
  obtain ⟨i, hi, hz0, hz1, hz2⟩ := info_parts E.info
  cases A with
  | none =>
    obtain rfl : c = 0 := hsl.nil rfl
    obtain rfl : m = 0 := by have := hsl.le; omega
    obtain rfl : news = [] := List.eq_nil_of_length_eq_zero (by have := hsl.len; simpa using this)
    have hrun := run_append_owned_none (P := P) (w := w) base t o.type e i size E.und hi v n xs hown
    unfold Oper.wp
    simp [execOp, ho, resolve, invoke, builtin, hs, hx, hrun, Result.andThen]
    exact h v w (by simpa using hown) ⟨rfl, rfl, rfl, Nat.le_refl _, fun _ _ _ => rfl⟩ (by simp)
  | some ad =>
    exact wp_append_own w s x t ho base e i z size bytes E.und hi hz0 hz1 hz2 E.zs E.pos v n xs hs hown ad m c news hx hsl.len hsl.news h1 h63 hbytes hbase h
theorem ap_own {P : Program} {w : World} {ops : Array Oper} {rest : List Oper} {o : Oper} {a : Act} {Q : Exit → Act → World → Prop} {t e size bytes : Nat} {z : Value} (E : ElemT P t e z size bytes) (hgd : o.guard = none) (s x : Operand)
    (ho : o.op = .call { callee := .builtin .append, args := #[s, x], argTypes := #[t, t] }) {base : Nat}
    {v : Value} {n : Nat} {xs : List Value} (hs : a.eval s = v) (hown : w.ownsRow base e size v n xs)
    {A : Option Addr} {m c : Nat} {news : List Value} (hx : a.eval x = .slice A m c) (hsl : Sl w size A m c news) (h1 : ∀ u ∈ news, u.oneCell' = true)
    (h63 : n + m ≤ maxLen) (hbytes : (n + m) * bytes ≤ 140737488355328) (hbase : base ≤ w.heap.size)
    (h : ∀ v' w', w'.ownsRow base e size v' (n + m) (xs ++ news) → w.grownBy w' v.ownBlock → (v' = .slice none 0 0 ↔ v = .slice none 0 0 ∧ m = 0) → wpList P ops Q rest (a.put o.dst v') w') : wpList P ops Q (o :: rest) a w :=
  wpList_plain hgd fun _ hK => ap_wp E s x ho hs hown hx hsl h1 h63 hbytes hbase fun v' w' h2 h3 h4 => hK _ _ (h v' w' h2 h3 h4)
theorem ap_step {P : Program} {w : World} {ops : Array Oper} {o : Oper} {a : Act} {K : Act → World → Prop} {Q : Exit → Act → World → Prop} {F : Prop} {t e size bytes : Nat} {z : Value} (E : ElemT P t e z size bytes) (hgd : o.guard = none) (s x : Operand)
    (ho : o.op = .call { callee := .builtin .append, args := #[s, x], argTypes := #[t, t] }) {base : Nat}
    {v : Value} {n : Nat} {xs : List Value} (hs : a.eval s = v) (hown : w.ownsRow base e size v n xs)
    {A : Option Addr} {m c : Nat} {news : List Value} (hx : a.eval x = .slice A m c) (hsl : Sl w size A m c news) (h1 : ∀ u ∈ news, u.oneCell' = true)
    (h63 : n + m ≤ maxLen) (hbytes : (n + m) * bytes ≤ 140737488355328) (hbase : base ≤ w.heap.size)
    (h : ∀ v' w', w'.ownsRow base e size v' (n + m) (xs ++ news) → w.grownBy w' v.ownBlock → (v' = .slice none 0 0 ↔ v = .slice none 0 0 ∧ m = 0) → K (a.put o.dst v') w') :
    if Region.wanted o (yielded ops a.tmps) = true then Oper.wp P o a w K Q else F := by
  rw [if_pos (by simp [Region.wanted, hgd])]
  exact ap_wp E s x ho hs hown hx hsl h1 h63 hbytes hbase h
/-- append where there is room -/
theorem fit_wp {P : Program} {w : World} {o : Oper} {a : Act} {K : Act → World → Prop} {Q : Exit → Act → World → Prop} {t e size bytes : Nat} {z : Value} (E : ElemT P t e z size bytes) (s x : Operand)
    (ho : o.op = .call { callee := .builtin .append, args := #[s, x], argTypes := #[t, t] }) {base : Nat}
    {g k cap : Nat} {xs : List Value} (hs : a.eval s = .slice (some ⟨g, 0, none⟩) k cap) (hown : w.ownsRow base e size (.slice (some ⟨g, 0, none⟩) k cap) k xs)
    {A : Option Addr} {m c : Nat} {news : List Value} (hx : a.eval x = .slice A m c) (hsl : Sl w size A m c news) (h1 : ∀ u ∈ news, u.oneCell' = true) (hfit : k + m ≤ cap)
    (h : ∀ w', w'.ownsRow base e size (.slice (some ⟨g, 0, none⟩) (k + m) cap) (k + m) (xs ++ news) → w.grownBy w' (some g) → K (a.put o.dst (.slice (some ⟨g, 0, none⟩) (k + m) cap)) w') : o.wp P a w K Q := by
  obtain ⟨i, hi, hz0, hz1, hz2⟩ := info_parts E.info
  cases A with
  | none =>
    obtain rfl : c = 0 := hsl.nil rfl
    obtain rfl : m = 0 := by have := hsl.le; omega
    obtain rfl : news = [] := List.eq_nil_of_length_eq_zero (by have := hsl.len; simpa using this)
    have hrun := run_append_owned_none (P := P) (w := w) base t o.type e i size E.und hi _ k xs hown
    unfold Oper.wp
    simp [execOp, ho, resolve, invoke, builtin, hs, hx, hrun, Result.andThen]
    exact h w (by simpa using hown) ⟨rfl, rfl, rfl, Nat.le_refl _, fun _ _ _ => rfl⟩
  | some ad =>
    obtain ⟨w', hrun, r1, r2⟩ := run_append_fits (P := P) w base t o.type e i size E.und hi hz1 g k cap xs hown ad m c news hsl.len hsl.news h1 hfit
    unfold Oper.wp
    simp [execOp, ho, resolve, invoke, builtin, hs, hx, hrun, Result.andThen]
    exact h w' r1 r2
theorem fit_own {P : Program} {w : World} {ops : Array Oper} {rest : List Oper} {o : Oper} {a : Act} {Q : Exit → Act → World → Prop} {t e size bytes : Nat} {z : Value} (E : ElemT P t e z size bytes) (hgd : o.guard = none) (s x : Operand)
    (ho : o.op = .call { callee := .builtin .append, args := #[s, x], argTypes := #[t, t] }) {base : Nat}
    {g k cap : Nat} {xs : List Value} (hs : a.eval s = .slice (some ⟨g, 0, none⟩) k cap) (hown : w.ownsRow base e size (.slice (some ⟨g, 0, none⟩) k cap) k xs)
    {A : Option Addr} {m c : Nat} {news : List Value} (hx : a.eval x = .slice A m c) (hsl : Sl w size A m c news) (h1 : ∀ u ∈ news, u.oneCell' = true) (hfit : k + m ≤ cap)
    (h : ∀ w', w'.ownsRow base e size (.slice (some ⟨g, 0, none⟩) (k + m) cap) (k + m) (xs ++ news) → w.grownBy w' (some g) → wpList P ops Q rest (a.put o.dst (.slice (some ⟨g, 0, none⟩) (k + m) cap)) w') : wpList P ops Q (o :: rest) a w :=
  wpList_plain hgd fun _ hK => fit_wp E s x ho hs hown hx hsl h1 hfit fun w' h2 h3 => hK _ _ (h w' h2 h3)
theorem fit_step {P : Program} {w : World} {ops : Array Oper} {o : Oper} {a : Act} {K : Act → World → Prop} {Q : Exit → Act → World → Prop} {F : Prop} {t e size bytes : Nat} {z : Value} (E : ElemT P t e z size bytes) (hgd : o.guard = none) (s x : Operand)
    (ho : o.op = .call { callee := .builtin .append, args := #[s, x], argTypes := #[t, t] }) {base : Nat}
    {g k cap : Nat} {xs : List Value} (hs : a.eval s = .slice (some ⟨g, 0, none⟩) k cap) (hown : w.ownsRow base e size (.slice (some ⟨g, 0, none⟩) k cap) k xs)
    {A : Option Addr} {m c : Nat} {news : List Value} (hx : a.eval x = .slice A m c) (hsl : Sl w size A m c news) (h1 : ∀ u ∈ news, u.oneCell' = true) (hfit : k + m ≤ cap)
    (h : ∀ w', w'.ownsRow base e size (.slice (some ⟨g, 0, none⟩) (k + m) cap) (k + m) (xs ++ news) → w.grownBy w' (some g) → K (a.put o.dst (.slice (some ⟨g, 0, none⟩) (k + m) cap)) w') :
    if Region.wanted o (yielded ops a.tmps) = true then Oper.wp P o a w K Q else F := by
  rw [if_pos (by simp [Region.wanted, hgd])]
  exact fit_wp E s x ho hs hown hx hsl h1 hfit h
/-- a block of the call's own, known whole, as a source -/
theorem Sl.block {w : World} {g e : Nat} {cs : Array Value} {fr : Nat × Nat} (n sz : Nat) (hb : w.heap[g]? = some (.cells cs e fr)) (hl : cs.size = n * sz) (hn : n ≤ 9223372036854775807) : Sl w sz (some ⟨g, 0, .none⟩) n n cs.toList :=
  ⟨by simpa using hl, Nat.le_refl _, hn, (fun e => by cases e), fun ad e _ => by
    obtain rfl := Option.some.inj e
    refine ⟨rfl, fun i hi => ?_⟩
    rw [Nat.zero_add, cell_of_row w g i cs _ fr hb, Array.getElem?_eq_getElem (by simpa using hi)]
    simp⟩
theorem Sl.fresh (w : World) (cs : List Value) (e n sz : Nat) (hl : cs.length = n * sz) (hn : n ≤ 9223372036854775807) : Sl (w.alloc (.cells cs.toArray e)) sz (some ⟨w.heap.size, 0, .none⟩) n n cs := by
  have := Sl.block (w := w.alloc (.cells cs.toArray e)) (g := w.heap.size) n sz (heap_alloc_new w _) (by simpa using hl) hn
  simpa using this
theorem Sls.fresh (w : World) (vs : List Value) (ll : List (List UInt8)) (e n : Nat) (hv : vs.length = n) (hl : ll.length = n) (hn : n ≤ 9223372036854775807)
    (h : ∀ (i : Nat) (l : List UInt8), ll[i]? = some l → ∃ a m c, vs[i]? = some (.slice a m c) ∧ Sl w 1 a m c (l.map by8) ∧ m ≤ 140737488351232) : Sls (w.alloc (.cells vs.toArray e)) (some ⟨w.heap.size, 0, .none⟩) n n vs ll :=
  ⟨Sl.fresh w vs e n 1 (by omega) hn, hl, fun i l hi => by
    obtain ⟨a, m, c, h1, h2, h3⟩ := h i l hi
    exact ⟨a, m, c, h1, h2.alloc _, h3⟩⟩
theorem Sls.fresh4 {w : World} {a0 a1 a2 a3 : Option Addr} {m0 c0 m1 c1 m2 c2 m3 c3 : Nat} {l0 l1 l2 l3 : List UInt8} (e : Nat)
    (h0 : Sl w 1 a0 m0 c0 (l0.map by8)) (b0 : m0 ≤ 140737488351232) (h1 : Sl w 1 a1 m1 c1 (l1.map by8)) (b1 : m1 ≤ 140737488351232)
    (h2 : Sl w 1 a2 m2 c2 (l2.map by8)) (b2 : m2 ≤ 140737488351232) (h3 : Sl w 1 a3 m3 c3 (l3.map by8)) (b3 : m3 ≤ 140737488351232) :
    Sls (w.alloc (.cells #[.slice a0 m0 c0, .slice a1 m1 c1, .slice a2 m2 c2, .slice a3 m3 c3] e)) (some ⟨w.heap.size, 0, .none⟩) 4 4 [.slice a0 m0 c0, .slice a1 m1 c1, .slice a2 m2 c2, .slice a3 m3 c3] [l0, l1, l2, l3] :=
  Sls.fresh w _ _ e 4 rfl rfl (by decide) (fun i l hi => by
    match i, hi with
    | 0, hi => obtain rfl := Option.some.inj hi; exact ⟨_, _, _, rfl, h0, b0⟩
    | 1, hi => obtain rfl := Option.some.inj hi; exact ⟨_, _, _, rfl, h1, b1⟩
    | 2, hi => obtain rfl := Option.some.inj hi; exact ⟨_, _, _, rfl, h2, b2⟩
    | 3, hi => obtain rfl := Option.some.inj hi; exact ⟨_, _, _, rfl, h3, b3⟩)
theorem mk_full {P : Program} {w : World} {ops : Array Oper} {rest : List Oper} {o : Oper} {a : Act} {Q : Exit → Act → World → Prop} {t e bytes : Nat} {z : Value} (E : ElemT P t e z 1 bytes) (hzc : z.cells = #[z]) (hg : o.guard = none) (l c : Operand) (hop : o.op = Op.makeSlice t l c)
    (base : Nat) {kl kc : IntKind} {L C : Int} (n : Nat) (hl : a.eval l = .int kl L) (hc : a.eval c = .int kc C) (hL : L = (n : Int)) (hC : C = (n : Int)) (b2 : bytes * n ≤ 281474976710656) (b3 : n ≤ maxLen) (b4 : base ≤ w.heap.size)
    (hK : ∀ w', w'.ownsRow base e 1 (.slice (some ⟨w.heap.size, 0, none⟩) n n) n (List.replicate n z) → w.grownBy w' none → wpList P ops Q rest (a.put o.dst (.slice (some ⟨w.heap.size, 0, none⟩) n n)) w') :
    wpList P ops Q (o :: rest) a w := by
  obtain ⟨i, hi, hz0, hz1, hz2⟩ := info_parts E.info
  refine wpList_make_full w hg l c t hop base e i z 1 E.und hi hz0 hz1 kl kc L C n hl hc hL hC (by rw [hz2]; exact b2) b3 b4 (fun w' h1 h2 => hK w' ?_ h2)
  rw [hzc, Nat.mul_one, toList_madeCells_one] at h1
  exact h1
theorem mk_own {P : Program} {w : World} {ops : Array Oper} {rest : List Oper} {o : Oper} {a : Act} {Q : Exit → Act → World → Prop} {t e size bytes : Nat} {z : Value} (E : ElemT P t e z size bytes) (hg : o.guard = none) (l c : Operand) (hop : o.op = Op.makeSlice t l c)
    (base : Nat) {kl kc : IntKind} {C : Int} (n : Nat) (hl : a.eval l = .int kl 0) (hc : a.eval c = .int kc C) (hC : C = (n : Int)) (b2 : bytes * n ≤ 281474976710656) (b3 : n ≤ maxLen) (b4 : base ≤ w.heap.size)
    (hK : ∀ w', w'.ownsRow base e size (.slice (some ⟨w.heap.size, 0, none⟩) 0 n) 0 [] → w.grownBy w' none → wpList P ops Q rest (a.put o.dst (.slice (some ⟨w.heap.size, 0, none⟩) 0 n)) w') :
    wpList P ops Q (o :: rest) a w := by
  obtain ⟨i, hi, hz0, hz1, hz2⟩ := info_parts E.info
  exact wpList_make_own w hg l c t hop base e i z size E.und hi hz0 hz1 kl kc C n hl hc hC (by rw [hz2]; exact b2) b3 b4 hK
theorem below_grown {w w' : World} (h : w.grownBy w' none) : Below w.heap.size w w' := ⟨h.os, h.tape, h.output, h.size, fun k hk => h.block k hk (by simp)⟩

/-! ### bytes -/
/-- the byte at a place, as a number -/
def bt (l : List UInt8) (i : Nat) : Nat := (l[i]?.getD 0).toNat
theorem bt_lt (l : List UInt8) (i : Nat) : bt l i < 256 := u8_lt _
theorem bt_eq (l : List UInt8) (i : Nat) (h : i < l.length) : bt l i = l[i].toNat := by simp [bt, List.getElem?_eq_getElem h]
theorem u8_bt (l : List UInt8) (i : Nat) (h : i < l.length) : by8 l[i] = .int .u8 (bt l i : Int) := by rw [bt_eq l i h]; rfl
theorem take_bt (l : List UInt8) (i : Nat) (h : i < l.length) : l.take (i + 1) = l.take i ++ [UInt8.ofNat (bt l i)] := by
  rw [List.take_succ_eq_append_getElem h, bt_eq l i h, UInt8.ofNat_toNat]
theorem Sl.byte {w : World} {b off n c : Nat} {l : List UInt8} (h : Sl w 1 (some ⟨b, off, .none⟩) n c (l.map by8)) (i : Nat) (hi : i < n) : w.cell? ⟨b, off + i, .none⟩ = some (.int .u8 (bt l i : Int)) := by
  have hl : l.length = n := by simpa using h.len
  have := h.cell i (by simpa [hl] using hi)
  rw [this, List.getElem_map, u8_bt]
theorem bt_drop (l : List UInt8) (k i : Nat) : bt (l.drop k) i = bt l (k + i) := by simp [bt]
theorem bt_take (l : List UInt8) (k i : Nat) (h : i < k) : bt (l.take k) i = bt l i := by simp [bt, List.getElem?_take, h]
theorem bt_append_left (l m : List UInt8) (i : Nat) (h : i < l.length) : bt (l ++ m) i = bt l i := by simp [bt, List.getElem?_append, h]
theorem bt_append_right (l m : List UInt8) (i : Nat) (h : l.length ≤ i) : bt (l ++ m) i = bt m (i - l.length) := by simp [bt, List.getElem?_append, Nat.not_lt.2 h]
theorem bt_ext {l m : List UInt8} (h : l.length = m.length) (h2 : ∀ i, i < l.length → bt l i = bt m i) : l = m := by
  refine List.ext_getElem h fun i h1 h3 => ?_
  have := h2 i h1
  rw [bt_eq l i h1, bt_eq m i h3] at this
  exact UInt8.toNat_inj.1 this

/-- bytes as a text -/
theorem conv_bytes {P : Program} {w : World} {A : Option Addr} {n c src e dst : Nat} {l : List UInt8} (h : Sl w 1 A n c (l.map by8)) (hs : P.underlying src = some (.slice e)) (he : P.underlying e = some (.int .u8)) (hd : P.underlying dst = some .string) :
    (convert src dst (.slice A n c)).run P w = .ok (.string ⟨l.toArray⟩) w := by
  have hl : l.length = n := by simpa using h.len
  have e2 : strOfNums (l.map fun c => (c.toNat : Int)) = ⟨l.toArray⟩ := by
    unfold strOfNums
    rw [List.map_map]
    congr 2
    conv => rhs; rw [← List.map_id l]
    refine List.map_congr_left fun c _ => ?_
    simp
  cases A with
  | none =>
    obtain rfl : c = 0 := h.nil rfl
    obtain rfl : n = 0 := by have := h.le; omega
    obtain rfl : l = [] := List.eq_nil_of_length_eq_zero hl
    rw [run_convert_bytes_nil w src e hs he 0 0 dst hd]
    rfl
  | some ad =>
    rcases Nat.eq_zero_or_pos n with h0 | h0
    · subst h0
      obtain rfl : l = [] := List.eq_nil_of_length_eq_zero hl
      rw [run_convert_bytes_string w src dst e _ 0 c hs he hd]
      simp [Conv.bytesToString]
      rfl
    · obtain ⟨b, off, hb⟩ := h.form h0
      rw [hb] at h ⊢
      rw [run_convert_bytes_arg w src e hs he b off n c (l.map fun c => (c.toNat : Int)) (by simpa using hl) (fun i hi => ?_) dst hd, e2]
      rw [h.byte i hi, bt_eq l i (by omega)]
      simp [List.getD_eq_getElem?_getD, List.getElem?_eq_getElem (show i < l.length by omega)]

/-! ### numbers out of bytes -/
def be (l : List UInt8) : Nat := l.foldl (fun x c => x * 256 + c.toNat) 0
theorem be_snoc (l : List UInt8) (c : UInt8) : be (l ++ [c]) = be l * 256 + c.toNat := by simp [be, List.foldl_append]
theorem be_lt (l : List UInt8) : be l < 256 ^ l.length := by
  have h : ∀ (l : List UInt8) (x : Nat), l.foldl (fun x c => x * 256 + c.toNat) x < (x + 1) * 256 ^ l.length := by
    intro l
    induction l with
    | nil => intro x; simp
    | cons c l ih =>
      intro x
      simp only [List.foldl_cons, List.length_cons]
      have h1 := ih (x * 256 + c.toNat)
      have := u8_lt c
      have h2 : (x * 256 + c.toNat + 1) * 256 ^ l.length ≤ ((x + 1) * 256) * 256 ^ l.length := Nat.mul_le_mul_right _ (by omega)
      rw [Nat.pow_succ, Nat.mul_comm (256 ^ l.length) 256, ← Nat.mul_assoc]
      omega
  simpa [be] using h l 0
theorem be_take (l : List UInt8) (i : Nat) (h : i < l.length) : be (l.take (i + 1)) = be (l.take i) * 256 + bt l i := by
  rw [List.take_succ_eq_append_getElem h, be_snoc, bt_eq l i h]
/-- the lowest byte first -/
def le (l : List UInt8) : Nat := l.foldr (fun c x => c.toNat + 256 * x) 0
theorem le_append (l m : List UInt8) : le (l ++ m) = le l + 256 ^ l.length * le m := by
  induction l with
  | nil => simp [le]
  | cons c l ih =>
    have e : ∀ (c : UInt8) (l : List UInt8), le (c :: l) = c.toNat + 256 * le l := fun _ _ => rfl
    rw [List.cons_append, e, e, ih, List.length_cons, Nat.pow_succ, Nat.mul_add, Nat.mul_comm (256 ^ l.length) 256, ← Nat.mul_assoc]
    omega
theorem le_take (l : List UInt8) (i : Nat) (h : i < l.length) : le (l.take (i + 1)) = le (l.take i) + bt l i * 256 ^ i := by
  rw [List.take_succ_eq_append_getElem h, le_append, bt_eq l i h, List.length_take, Nat.min_eq_left (by omega), Nat.mul_comm]
  simp [le]
theorem le_reverse (l : List UInt8) : le l.reverse = be l := by
  simp only [le, be, List.foldr_reverse]
  congr 1
  funext x c
  omega
theorem le_lt (l : List UInt8) : le l < 256 ^ l.length := by
  have := be_lt l.reverse
  rw [← le_reverse, List.reverse_reverse, List.length_reverse] at this
  exact this
end Go.Proofs.Ytikjhandhgfohaa
