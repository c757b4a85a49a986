import Derived.WalkKit
import Derived.ProofKit
import Derived.Outline
import Derived.WalkLawsBesides
import Derived.WalkSpells
import Derived.Lib.Hide
import Derived.IntWalk
import Derived.Deep.QuietTactic
import Derived.BigQuiet
import Derived.Deep.DeepCutAuto
import Derived.Deep.DeepFit
import Derived.Deep.AppendLies
import Derived.Laws.AppendOwnNone
import Derived.OneCell
import Derived.Laws.BytesArg
import Derived.Laws.CopyOwn
import Derived.Test.YtpjmbhhfpoamnaaChecked
import Derived.Deep.RegionHeld3
set_option linter.unusedVariables false
set_option linter.unusedSimpArgs false
namespace Go.Proofs.Ytpjmbhhfpoamnaa
open Go.RowKit

/-- the walk stops before such a goal -/
structure Stopped (p : Prop) : Prop where mk ::
  out : p

/-! ### values -/
def by8 (c : UInt8) : Value := .int .u8 (c.toNat : Int)
def by64 (c : UInt64) : Value := .int .u64 (c.toNat : Int)
theorem u8_lt (c : UInt8) : c.toNat < 256 := c.toNat_lt
theorem getElem_u8 (l : List UInt8) (i : Nat) (h : i < (l.map by8).length) : (l.map by8)[i] = .int .u8 ((l[i]'(by simpa using h)).toNat : Int) := by simp [by8]
theorem u8_one (l : List UInt8) : ∀ u ∈ l.map by8, u.oneCell' = true := by
  intro u hu
  obtain ⟨c, _, rfl⟩ := List.mem_map.1 hu
  rfl

/-! ### what a call may change: the blocks of M, and new ones -/
structure Keep (M : List Nat) (w w' : World) : Prop where
  os : w'.os = w.os
  tape : w'.tape = w.tape
  output : w'.output = w.output
  size : w.heap.size ≤ w'.heap.size
  block : ∀ k, k < w.heap.size → k ∉ M → w'.heap[k]? = w.heap[k]?
theorem Keep.refl (M : List Nat) (w : World) : Keep M w w := ⟨rfl, rfl, rfl, Nat.le_refl _, fun _ _ _ => rfl⟩
theorem Keep.trans {M : List Nat} {a b c : World} (h : Keep M a b) (k : Keep M b c) : Keep M a c :=
  ⟨k.os.trans h.os, k.tape.trans h.tape, k.output.trans h.output, Nat.le_trans h.size k.size,
    fun i hi hm => (k.block i (Nat.lt_of_lt_of_le hi h.size) hm).trans (h.block i hi hm)⟩
/-- new blocks need not be named -/
theorem Keep.trans' {M M' : List Nat} {a b c : World} (h : Keep M a b) (k : Keep M' b c) (hM : ∀ x ∈ M', x ∈ M ∨ a.heap.size ≤ x) : Keep M a c :=
  ⟨k.os.trans h.os, k.tape.trans h.tape, k.output.trans h.output, Nat.le_trans h.size k.size,
    fun i hi hm => (k.block i (Nat.lt_of_lt_of_le hi h.size) (fun hx => by rcases hM i hx with h1 | h1; exact hm h1; omega)).trans (h.block i hi hm)⟩
theorem Keep.mono {M M' : List Nat} {a b : World} (h : Keep M a b) (hM : ∀ x ∈ M, x ∈ M') : Keep M' a b :=
  ⟨h.os, h.tape, h.output, h.size, fun i hi hm => h.block i hi (fun hx => hm (hM i hx))⟩
theorem Keep.of_below {w w' : World} (h : Below w.heap.size w w') (M : List Nat) : Keep M w w' :=
  ⟨h.os, h.tape, h.output, h.size, fun i hi _ => h.block i hi⟩
theorem Keep.below {B : Nat} {a w w' : World} (h : Below B a w) {M : List Nat} (k : Keep M w w') (hB : B ≤ w.heap.size) (hM : ∀ x ∈ M, B ≤ x) : Below B a w' :=
  h.trans ⟨k.os, k.tape, k.output, k.size, fun i hi => k.block i (by omega) (fun hx => by have := hM i hx; omega)⟩
theorem Keep.toBelow {M : List Nat} {w w' : World} (k : Keep M w w') (hM : ∀ x ∈ M, w.heap.size ≤ x) : Below w.heap.size w w' :=
  ⟨k.os, k.tape, k.output, k.size, fun i hi => k.block i hi (fun hx => by have := hM i hx; omega)⟩
theorem Keep.grown {M : List Nat} {a w w' : World} {row : Option Nat} (h : Keep M a w) (hg : w.grownBy w' row) (hr : ∀ k, row = some k → k ∈ M ∨ a.heap.size ≤ k) : Keep M a w' :=
  ⟨hg.os.trans h.os, hg.tape.trans h.tape, hg.output.trans h.output, Nat.le_trans h.size hg.size,
    fun i hi hm => (hg.block i (Nat.lt_of_lt_of_le hi h.size) (fun e => by rcases hr i e.symm with h1 | h1; exact hm h1; omega)).trans (h.block i hi hm)⟩
theorem Keep.alloc {M : List Nat} {a w : World} (h : Keep M a w) (o : Obj) : Keep M a (w.alloc o) :=
  h.trans (Keep.of_below ((Below.refl _ _).alloc (Nat.le_refl _) o) M)
theorem Keep.drew {M : List Nat} {a w : World} (h : Keep M a w) : Keep M a w.drew := ⟨h.os, h.tape, h.output, h.size, h.block⟩
theorem Keep.drewN {M : List Nat} {a w : World} (h : Keep M a w) (n : Nat) : Keep M a (w.drewN n) := ⟨h.os, h.tape, h.output, h.size, h.block⟩
theorem Keep.setCell {M : List Nat} {a w : World} (h : Keep M a w) {p : Addr} (hp : p.block ∈ M ∨ a.heap.size ≤ p.block) (u : Value) : Keep M a (w.setCell p u) :=
  ⟨h.os, h.tape, h.output, by simpa [World.setCell] using h.size,
    fun i hi hm => (Below.heap_setCell _ _ _ _ (fun e => by subst e; rcases hp with h1 | h1; exact hm h1; omega)).trans (h.block i hi hm)⟩
theorem Keep.cell {M : List Nat} {w w' : World} (h : Keep M w w') {a : Addr} {v : Value} (hc : w.cell? a = some v) (hM : a.block ∉ M) : w'.cell? a = some v :=
  (World.cell?_of_block (h.block a.block (World.block_lt_of_cell? w a hc) hM)).trans hc
theorem Keep.heap {M : List Nat} {w w' : World} (h : Keep M w w') {b : Nat} {o : Obj} (hc : w.heap[b]? = some o) (hM : b ∉ M) : w'.heap[b]? = some o :=
  (h.block b (lt_of_block hc) hM).trans hc
theorem Keep.own {M : List Nat} {w w' : World} (h : Keep M w w') {base e size n : Nat} {v : Value} {xs : List Value} (ho : w.ownsRow base e size v n xs) (hM : ∀ k, v.ownBlock = some k → k ∉ M) : w'.ownsRow base e size v n xs := by
  refine ⟨ho.1, ?_⟩
  rcases ho.2 with h1 | ⟨g, cap, cur, rfl, hb, hg, r⟩
  · exact .inl h1
  · exact .inr ⟨g, cap, cur, rfl, hb, h.heap hg (hM g rfl), r⟩
theorem own_base {w : World} {base base' e size n : Nat} {v : Value} {xs : List Value} (ho : w.ownsRow base e size v n xs) (hb : ∀ k, v.ownBlock = some k → base' ≤ k) : w.ownsRow base' e size v n xs := by
  refine ⟨ho.1, ?_⟩
  rcases ho.2 with h1 | ⟨g, cap, cur, rfl, _, r⟩
  · exact .inl h1
  · exact .inr ⟨g, cap, cur, rfl, hb g rfl, r⟩
theorem own_mono {w : World} {base base' e size n : Nat} {v : Value} {xs : List Value} (ho : w.ownsRow base e size v n xs) (hb : base' ≤ base) : w.ownsRow base' e size v n xs :=
  own_base ho fun k hk => by have := (ho.lt k hk).1; omega

/-! ### some orders have been drawn -/
structure Drawn (w w' : World) : Prop where mk' ::
  out : ∃ n, w' = w.drewN n
theorem Drawn.refl (w : World) : Drawn w w := ⟨⟨0, rfl⟩⟩
theorem Drawn.step {w w' : World} (h : Drawn w w') (n : Nat) : Drawn w (w'.drewN n) := by
  obtain ⟨m, rfl⟩ := h.out
  exact ⟨⟨m + n, World.drewN_drewN ..⟩⟩
theorem Drawn.keep {w w' : World} (h : Drawn w w') (M : List Nat) : Keep M w w' := by
  obtain ⟨n, rfl⟩ := h.out
  exact (Keep.refl M w).drewN n
theorem Drawn.below {w w' : World} (h : Drawn w w') : Below w.heap.size w w' := (h.keep []).toBelow (by simp)
theorem Drawn.size {w w' : World} (h : Drawn w w') : w'.heap.size = w.heap.size := by
  obtain ⟨n, rfl⟩ := h.out
  rfl

theorem own_ne {w : World} {base e size n : Nat} {v : Value} {xs : List Value} (ho : w.ownsRow base e size v n xs) {b : Nat} (hb : b < base) : some b ≠ v.ownBlock := fun h => by
  have := (ho.lt b h.symm).1
  omega
theorem cell_al {w : World} {a : Addr} {v : Value} (h : w.cell? a = some v) (o : Obj) : (w.alloc o).cell? a = some v := ((Keep.refl [] w).alloc o).cell h (by simp)
theorem cell_ald {w : World} {a : Addr} {v : Value} (h : w.cell? a = some v) (o : Obj) : (w.alloc o).drew.cell? a = some v := cell_al h o
theorem cell_set {w : World} {a p : Addr} {v u : Value} (h : w.cell? a = some v) (hne : a.block ≠ p.block) : (w.setCell p u).cell? a = some v :=
  ((Keep.refl [p.block] w).setCell (.inl (by simp)) u).cell h (by simpa using hne)
theorem cell_setd {w : World} {a p : Addr} {v u : Value} (h : w.cell? a = some v) (hne : a.block ≠ p.block) : (w.setCell p u).drew.cell? a = some v := cell_set h hne
theorem cell_lt {w : World} {a : Addr} {v : Value} (h : w.cell? a = some v) : a.block < w.heap.size := World.block_lt_of_cell? w a h

theorem quiet_id {P : Program} {f : FuncId} {args : Array Value} {w : World} {n : Nat} {v : Value}
    (h : Calls P f args (w.drewN n) fun e w' => e = .returned v ∧ w.drewN n = w') : Calls P f args (w.drewN n) fun e w'' => e = .returned v ∧ ∃ m, w'' = w.drewN m :=
  h.mono fun _ _ ⟨he, hm⟩ => ⟨he, n, hm.symm⟩
theorem quiet_dr {P : Program} {f : FuncId} {args : Array Value} {w : World} {n : Nat} {v : Value}
    (h : Calls P f args (w.drewN n) fun e w' => e = .returned v ∧ Drawn (w.drewN n) w') : Calls P f args (w.drewN n) fun e w'' => e = .returned v ∧ ∃ m, w'' = w.drewN m :=
  h.mono fun _ _ ⟨he, hm⟩ => ⟨he, by obtain ⟨k, rfl⟩ := hm.out; exact ⟨n + k, World.drewN_drewN ..⟩⟩

/-! ### a slice that is read -/
structure Sl (w : World) (sz : Nat) (A : Option Addr) (n c : Nat) (vs : List Value) : Prop where
  len : vs.length = n * sz
  le : n ≤ c
  max : c ≤ 9223372036854775807
  nil : A = none → c = 0
  at_ : ∀ ad, A = some ad → 0 < vs.length → ad.spot = none ∧ ∀ i (h : i < vs.length), w.cell? ⟨ad.block, ad.off + i, none⟩ = some vs[i]
/-- an address is there -/
theorem Sl.form {w : World} {sz : Nat} {A : Option Addr} {n c : Nat} {vs : List Value} (h : Sl w sz A n c vs) (hn : 0 < n) (hz : 0 < sz := by decide) : ∃ b off, A = some ⟨b, off, none⟩ := by
  cases A with
  | none => have := h.nil rfl; have := h.le; omega
  | some ad => obtain ⟨b, off, sp⟩ := ad; have := (h.at_ _ rfl (by rw [h.len]; exact Nat.mul_pos hn hz)).1; dsimp only at this; subst this; exact ⟨b, off, rfl⟩
theorem Sl.cell {w : World} {sz : Nat} {b off n c : Nat} {vs : List Value} (h : Sl w sz (some ⟨b, off, none⟩) n c vs) (i : Nat) (hi : i < vs.length) : w.cell? ⟨b, off + i, none⟩ = some vs[i] := (h.at_ _ rfl (by omega)).2 i hi
theorem Sl.keep {M : List Nat} {w w' : World} {sz : Nat} {A : Option Addr} {n c : Nat} {vs : List Value} (h : Sl w sz A n c vs) (k : Keep M w w') (hM : ∀ ad, A = some ad → ad.block ∉ M) : Sl w' sz A n c vs :=
  ⟨h.len, h.le, h.max, h.nil, fun ad e hp => ⟨(h.at_ ad e hp).1, fun i hi => k.cell ((h.at_ ad e hp).2 i hi) (hM ad e)⟩⟩
theorem Sl.below {w w' : World} {sz : Nat} {A : Option Addr} {n c : Nat} {vs : List Value} (h : Sl w sz A n c vs) (k : Below w.heap.size w w') : Sl w' sz A n c vs :=
  h.keep (Keep.of_below k []) (fun _ _ => by simp)
theorem Sl.drew {w : World} {sz : Nat} {A : Option Addr} {n c : Nat} {vs : List Value} (h : Sl w sz A n c vs) : Sl w.drew sz A n c vs := ⟨h.len, h.le, h.max, h.nil, h.at_⟩
theorem Sl.drewN {w : World} {sz : Nat} {A : Option Addr} {n c : Nat} {vs : List Value} (h : Sl w sz A n c vs) (m : Nat) : Sl (w.drewN m) sz A n c vs := ⟨h.len, h.le, h.max, h.nil, h.at_⟩
theorem Sl.alloc {w : World} {sz : Nat} {A : Option Addr} {n c : Nat} {vs : List Value} (h : Sl w sz A n c vs) (o : Obj) : Sl (w.alloc o) sz A n c vs := h.below ((Below.refl _ _).alloc (Nat.le_refl _) o)
theorem Sl.nilS (w : World) (sz : Nat) : Sl w sz none 0 0 [] := ⟨by simp, Nat.le_refl _, by omega, fun _ => rfl, fun _ e => by cases e⟩
theorem own_sl {w : World} {base e size n : Nat} {v : Value} {xs : List Value} (ho : w.ownsRow base e size v n xs) : ∃ A c, v = .slice A n c ∧ Sl w size A n c xs ∧ (∀ ad, A = some ad → base ≤ ad.block ∧ ad.block < w.heap.size) := by
  have h0 := ho
  rcases ho.2 with ⟨rfl, rfl⟩ | ⟨g, cap, cur, rfl, hb, hg, h1, h2, h3, h4⟩
  · have : xs = [] := List.eq_nil_of_length_eq_zero (by have := ho.1; simpa using this)
    subst this
    exact ⟨_, _, rfl, Sl.nilS w size, fun _ e => by cases e⟩
  · refine ⟨_, _, rfl, ⟨h0.1, h1, by simpa [maxLen] using h2, (fun e => by cases e), fun ad e _ => ?_⟩, fun ad e => ?_⟩
    · obtain rfl := Option.some.inj e
      refine ⟨rfl, fun i hi => ?_⟩
      have hlt : i < n * size := by rw [← h0.1]; exact hi
      simpa using (h0.cellAt i hlt).trans (List.getElem?_eq_getElem hi)
    · obtain rfl := Option.some.inj e
      exact ⟨hb, lt_of_block hg⟩
theorem own_sl' {w : World} {base e size n m c : Nat} {A : Option Addr} {xs : List Value} (ho : w.ownsRow base e size (.slice A m c) n xs) : m = n ∧ Sl w size A n c xs ∧ (∀ ad, A = some ad → base ≤ ad.block ∧ ad.block < w.heap.size) := by
  obtain ⟨A', c', e', h⟩ := own_sl ho
  injection e' with e1 e2 e3
  subst e1; subst e2; subst e3
  exact ⟨rfl, h⟩
/-- a cell of a row that is owned, for a store -/
theorem own_cell {w : World} {base e size n cap g : Nat} {xs : List Value} (ho : w.ownsRow base e size (.slice (some ⟨g, 0, .none⟩) n cap) n xs) (j : Nat) (hj : j < n * size) : ∃ v, w.cell? ⟨g, j, .none⟩ = some v :=
  ⟨_, (ho.cellAt j hj).trans (List.getElem?_eq_getElem (by rw [ho.1]; exact hj))⟩
theorem own_form {w : World} {base e size n : Nat} {v : Value} {xs : List Value} (ho : w.ownsRow base e size v n xs) (hn : 0 < n) (hz : 0 < size := by decide) : ∃ g c, v = .slice (some ⟨g, 0, none⟩) n c ∧ base ≤ g ∧ g < w.heap.size ∧ n ≤ c := by
  have h0 := ho
  rcases ho.2 with ⟨rfl, rfl⟩ | ⟨g, cap, cur, rfl, hb, hg, h1, h2, h3, h4⟩
  · omega
  · exact ⟨g, cap, rfl, hb, lt_of_block hg, h1⟩
/-- cells as the walk asks for them -/
theorem Sl.news {w : World} {sz : Nat} {ad : Addr} {n c : Nat} {vs : List Value} (h : Sl w sz (some ad) n c vs) : ∀ j u, vs[j]? = some u → w.cell? (ad.add j) = some u := by
  intro j u hu
  obtain ⟨b, off, sp⟩ := ad
  obtain ⟨hj, rfl⟩ := List.getElem?_eq_some_iff.1 hu
  have := (h.at_ _ rfl (by omega)).1; dsimp only at this; subst this
  have e : (⟨b, off, none⟩ : Addr).add j = ⟨b, off + j, none⟩ := by unfold Addr.add; split <;> simp_all
  rw [e]
  exact h.cell j hj

/-- a beginning -/
theorem Sl.pre {w : World} {A : Option Addr} {n c : Nat} {vs : List Value} (h : Sl w 1 A n c vs) {m : Nat} (hm : m ≤ n) : Sl w 1 A m c (vs.take m) :=
  ⟨by rw [List.length_take, h.len]; omega, by have := h.le; omega, h.max, h.nil, fun ad e hp => by
    rw [List.length_take] at hp
    refine ⟨(h.at_ ad e (by omega)).1, fun i hi => ?_⟩
    rw [List.length_take] at hi
    rw [List.getElem_take]
    exact (h.at_ ad e (by omega)).2 i (by omega)⟩
theorem Sl.preB {w : World} {A : Option Addr} {n c : Nat} {l : List UInt8} (h : Sl w 1 A n c (l.map by8)) {m : Nat} (hm : m ≤ n) : Sl w 1 A m c ((l.take m).map by8) := by
  have := h.pre hm
  rwa [← List.map_take] at this

/-- a slice of byte slices that is read -/
structure Sls (w : World) (A : Option Addr) (n c : Nat) (vs : List Value) (ll : List (List UInt8)) : Prop where
  sl : Sl w 1 A n c vs
  len : ll.length = n
  at_ : ∀ (i : Nat) (l : List UInt8), ll[i]? = some l → ∃ a m c, vs[i]? = some (.slice a m c) ∧ Sl w 1 a m c (l.map by8) ∧ m ≤ 140737488351232
theorem Sls.below {w w' : World} {A : Option Addr} {n c : Nat} {vs : List Value} {ll : List (List UInt8)} (h : Sls w A n c vs ll) (k : Below w.heap.size w w') : Sls w' A n c vs ll :=
  ⟨h.sl.below k, h.len, fun i l hl => by
    obtain ⟨a, m, c, h1, h2, h3⟩ := h.at_ i l hl
    exact ⟨a, m, c, h1, h2.below k, h3⟩⟩

theorem bthen {a w w' : World} (h : Below a.heap.size a w) (k : Below w.heap.size w w') : Below a.heap.size a w' := h.trans (k.mono h.size)
theorem own_below {w w' : World} {base e size n : Nat} {v : Value} {xs : List Value} (ho : w.ownsRow base e size v n xs) (k : Below w.heap.size w w') : w'.ownsRow base e size v n xs := (Keep.of_below k []).own ho (fun _ _ => by simp)
theorem heap_below {w w' : World} {b : Nat} {o : Obj} (h : w.heap[b]? = some o) (k : Below w.heap.size w w') : w'.heap[b]? = some o := (Keep.of_below k []).heap h (by simp)
theorem cell_below {w w' : World} {a : Addr} {v : Value} (h : w.cell? a = some v) (k : Below w.heap.size w w') : w'.cell? a = some v := (Keep.of_below k []).cell h (by simp)
theorem box_cell {w : World} {b : Nat} {cs : Array Value} {t : TypeId} {fr : Nat × Nat} (h : w.heap[b]? = some (.cells cs t fr)) (i : Nat) (v : Value) (hv : cs[i]? = some v) : w.cell? ⟨b, i, none⟩ = some v := (cell_of_row w b i cs t fr h).trans hv
theorem box_free {w : World} {b : Nat} {cs : Array Value} {t : TypeId} (h : w.heap[b]? = some (.cells cs t (0, 0))) (i : Nat) : w.frozen? ⟨b, i, none⟩ = false := frozen_of_row w b i cs t h

/-! ### append to a row of the call's own, from any slice -/
structure ElemT (P : Program) (t e : Nat) (z : Value) (size bytes : Nat) : Prop where
  und : P.underlying t = some (.slice e)
  info : (P.info? e).map (fun i => (i.zero, i.size, i.bytes)) = some (some z, size, bytes)
  zs : z.cells.size = size
  pos : 0 < size
theorem ap_wp {P : Program} {w : World} {o : Oper} {a : Act} {K : Act → World → Prop} {Q : Exit → Act → World → Prop} {t e size bytes : Nat} {z : Value} (E : ElemT P t e z size bytes) (s x : Operand)
    (ho : o.op = .call { callee := .builtin .append, args := #[s, x], argTypes := #[t, t] }) {base : Nat}
    {v : Value} {n : Nat} {xs : List Value} (hs : a.eval s = v) (hown : w.ownsRow base e size v n xs)
    {A : Option Addr} {m c : Nat} {news : List Value} (hx : a.eval x = .slice A m c) (hsl : Sl w size A m c news) (h1 : ∀ u ∈ news, u.oneCell' = true)
    (h63 : n + m ≤ maxLen) (hbytes : (n + m) * bytes ≤ 140737488355328) (hbase : base ≤ w.heap.size)
    (h : ∀ v' w', w'.ownsRow base e size v' (n + m) (xs ++ news) → w.grownBy w' v.ownBlock → (v' = .slice none 0 0 ↔ v = .slice none 0 0 ∧ m = 0) → K (a.put o.dst v') w') : o.wp P a w K Q := by
  obtain ⟨i, hi, hz0, hz1, hz2⟩ := info_parts E.info
  cases A with
  | none =>
    obtain rfl : c = 0 := hsl.nil rfl
    obtain rfl : m = 0 := by have := hsl.le; omega
    obtain rfl : news = [] := List.eq_nil_of_length_eq_zero (by have := hsl.len; simpa using this)
    have hrun := run_append_owned_none (P := P) (w := w) base t o.type e i size E.und hi v n xs hown
    unfold Oper.wp
    simp [execOp, ho, resolve, invoke, builtin, hs, hx, hrun, Result.andThen]
    exact h v w (by simpa using hown) ⟨rfl, rfl, rfl, Nat.le_refl _, fun _ _ _ => rfl⟩ (by simp)
  | some ad =>
    exact wp_append_own w s x t ho base e i z size bytes E.und hi hz0 hz1 hz2 E.zs E.pos v n xs hs hown ad m c news hx hsl.len hsl.news h1 h63 hbytes hbase h
theorem ap_own {P : Program} {w : World} {ops : Array Oper} {rest : List Oper} {o : Oper} {a : Act} {Q : Exit → Act → World → Prop} {t e size bytes : Nat} {z : Value} (E : ElemT P t e z size bytes) (hgd : o.guard = none) (s x : Operand)
    (ho : o.op = .call { callee := .builtin .append, args := #[s, x], argTypes := #[t, t] }) {base : Nat}
    {v : Value} {n : Nat} {xs : List Value} (hs : a.eval s = v) (hown : w.ownsRow base e size v n xs)
    {A : Option Addr} {m c : Nat} {news : List Value} (hx : a.eval x = .slice A m c) (hsl : Sl w size A m c news) (h1 : ∀ u ∈ news, u.oneCell' = true)
    (h63 : n + m ≤ maxLen) (hbytes : (n + m) * bytes ≤ 140737488355328) (hbase : base ≤ w.heap.size)
    (h : ∀ v' w', w'.ownsRow base e size v' (n + m) (xs ++ news) → w.grownBy w' v.ownBlock → (v' = .slice none 0 0 ↔ v = .slice none 0 0 ∧ m = 0) → wpList P ops Q rest (a.put o.dst v') w') : wpList P ops Q (o :: rest) a w :=
  wpList_plain hgd fun _ hK => ap_wp E s x ho hs hown hx hsl h1 h63 hbytes hbase fun v' w' h2 h3 h4 => hK _ _ (h v' w' h2 h3 h4)
theorem ap_step {P : Program} {w : World} {ops : Array Oper} {o : Oper} {a : Act} {K : Act → World → Prop} {Q : Exit → Act → World → Prop} {F : Prop} {t e size bytes : Nat} {z : Value} (E : ElemT P t e z size bytes) (hgd : o.guard = none) (s x : Operand)
    (ho : o.op = .call { callee := .builtin .append, args := #[s, x], argTypes := #[t, t] }) {base : Nat}
    {v : Value} {n : Nat} {xs : List Value} (hs : a.eval s = v) (hown : w.ownsRow base e size v n xs)
    {A : Option Addr} {m c : Nat} {news : List Value} (hx : a.eval x = .slice A m c) (hsl : Sl w size A m c news) (h1 : ∀ u ∈ news, u.oneCell' = true)
    (h63 : n + m ≤ maxLen) (hbytes : (n + m) * bytes ≤ 140737488355328) (hbase : base ≤ w.heap.size)
    (h : ∀ v' w', w'.ownsRow base e size v' (n + m) (xs ++ news) → w.grownBy w' v.ownBlock → (v' = .slice none 0 0 ↔ v = .slice none 0 0 ∧ m = 0) → K (a.put o.dst v') w') :
    if Region.wanted o (yielded ops a.tmps) = true then Oper.wp P o a w K Q else F := by
  rw [if_pos (by simp [Region.wanted, hgd])]
  exact ap_wp E s x ho hs hown hx hsl h1 h63 hbytes hbase h
/-- append where there is room -/
theorem fit_wp {P : Program} {w : World} {o : Oper} {a : Act} {K : Act → World → Prop} {Q : Exit → Act → World → Prop} {t e size bytes : Nat} {z : Value} (E : ElemT P t e z size bytes) (s x : Operand)
    (ho : o.op = .call { callee := .builtin .append, args := #[s, x], argTypes := #[t, t] }) {base : Nat}
    {g k cap : Nat} {xs : List Value} (hs : a.eval s = .slice (some ⟨g, 0, none⟩) k cap) (hown : w.ownsRow base e size (.slice (some ⟨g, 0, none⟩) k cap) k xs)
    {A : Option Addr} {m c : Nat} {news : List Value} (hx : a.eval x = .slice A m c) (hsl : Sl w size A m c news) (h1 : ∀ u ∈ news, u.oneCell' = true) (hfit : k + m ≤ cap)
    (h : ∀ w', w'.ownsRow base e size (.slice (some ⟨g, 0, none⟩) (k + m) cap) (k + m) (xs ++ news) → w.grownBy w' (some g) → K (a.put o.dst (.slice (some ⟨g, 0, none⟩) (k + m) cap)) w') : o.wp P a w K Q := by
  obtain ⟨i, hi, hz0, hz1, hz2⟩ := info_parts E.info
  cases A with
  | none =>
    obtain rfl : c = 0 := hsl.nil rfl
    obtain rfl : m = 0 := by have := hsl.le; omega
    obtain rfl : news = [] := List.eq_nil_of_length_eq_zero (by have := hsl.len; simpa using this)
    have hrun := run_append_owned_none (P := P) (w := w) base t o.type e i size E.und hi _ k xs hown
    unfold Oper.wp
    simp [execOp, ho, resolve, invoke, builtin, hs, hx, hrun, Result.andThen]
    exact h w (by simpa using hown) ⟨rfl, rfl, rfl, Nat.le_refl _, fun _ _ _ => rfl⟩
  | some ad =>
    obtain ⟨w', hrun, r1, r2⟩ := run_append_fits (P := P) w base t o.type e i size E.und hi hz1 g k cap xs hown ad m c news hsl.len hsl.news h1 hfit
    unfold Oper.wp
    simp [execOp, ho, resolve, invoke, builtin, hs, hx, hrun, Result.andThen]
    exact h w' r1 r2
theorem fit_own {P : Program} {w : World} {ops : Array Oper} {rest : List Oper} {o : Oper} {a : Act} {Q : Exit → Act → World → Prop} {t e size bytes : Nat} {z : Value} (E : ElemT P t e z size bytes) (hgd : o.guard = none) (s x : Operand)
    (ho : o.op = .call { callee := .builtin .append, args := #[s, x], argTypes := #[t, t] }) {base : Nat}
    {g k cap : Nat} {xs : List Value} (hs : a.eval s = .slice (some ⟨g, 0, none⟩) k cap) (hown : w.ownsRow base e size (.slice (some ⟨g, 0, none⟩) k cap) k xs)
    {A : Option Addr} {m c : Nat} {news : List Value} (hx : a.eval x = .slice A m c) (hsl : Sl w size A m c news) (h1 : ∀ u ∈ news, u.oneCell' = true) (hfit : k + m ≤ cap)
    (h : ∀ w', w'.ownsRow base e size (.slice (some ⟨g, 0, none⟩) (k + m) cap) (k + m) (xs ++ news) → w.grownBy w' (some g) → wpList P ops Q rest (a.put o.dst (.slice (some ⟨g, 0, none⟩) (k + m) cap)) w') : wpList P ops Q (o :: rest) a w :=
  wpList_plain hgd fun _ hK => fit_wp E s x ho hs hown hx hsl h1 hfit fun w' h2 h3 => hK _ _ (h w' h2 h3)
theorem fit_step {P : Program} {w : World} {ops : Array Oper} {o : Oper} {a : Act} {K : Act → World → Prop} {Q : Exit → Act → World → Prop} {F : Prop} {t e size bytes : Nat} {z : Value} (E : ElemT P t e z size bytes) (hgd : o.guard = none) (s x : Operand)
    (ho : o.op = .call { callee := .builtin .append, args := #[s, x], argTypes := #[t, t] }) {base : Nat}
    {g k cap : Nat} {xs : List Value} (hs : a.eval s = .slice (some ⟨g, 0, none⟩) k cap) (hown : w.ownsRow base e size (.slice (some ⟨g, 0, none⟩) k cap) k xs)
    {A : Option Addr} {m c : Nat} {news : List Value} (hx : a.eval x = .slice A m c) (hsl : Sl w size A m c news) (h1 : ∀ u ∈ news, u.oneCell' = true) (hfit : k + m ≤ cap)
    (h : ∀ w', w'.ownsRow base e size (.slice (some ⟨g, 0, none⟩) (k + m) cap) (k + m) (xs ++ news) → w.grownBy w' (some g) → K (a.put o.dst (.slice (some ⟨g, 0, none⟩) (k + m) cap)) w') :
    if Region.wanted o (yielded ops a.tmps) = true then Oper.wp P o a w K Q else F := by
  rw [if_pos (by simp [Region.wanted, hgd])]
  exact fit_wp E s x ho hs hown hx hsl h1 hfit h
/-- a block of the call's own, known whole, as a source -/
theorem Sl.block {w : World} {g e : Nat} {cs : Array Value} {fr : Nat × Nat} (n sz : Nat) (hb : w.heap[g]? = some (.cells cs e fr)) (hl : cs.size = n * sz) (hn : n ≤ 9223372036854775807) : Sl w sz (some ⟨g, 0, .none⟩) n n cs.toList :=
  ⟨by simpa using hl, Nat.le_refl _, hn, (fun e => by cases e), fun ad e _ => by
    obtain rfl := Option.some.inj e
    refine ⟨rfl, fun i hi => ?_⟩
    rw [Nat.zero_add, cell_of_row w g i cs _ fr hb, Array.getElem?_eq_getElem (by simpa using hi)]
    simp⟩
theorem Sl.fresh (w : World) (cs : List Value) (e n sz : Nat) (hl : cs.length = n * sz) (hn : n ≤ 9223372036854775807) : Sl (w.alloc (.cells cs.toArray e)) sz (some ⟨w.heap.size, 0, .none⟩) n n cs := by
  have := Sl.block (w := w.alloc (.cells cs.toArray e)) (g := w.heap.size) n sz (heap_alloc_new w _) (by simpa using hl) hn
  simpa using this
theorem Sls.fresh (w : World) (vs : List Value) (ll : List (List UInt8)) (e n : Nat) (hv : vs.length = n) (hl : ll.length = n) (hn : n ≤ 9223372036854775807)
    (h : ∀ (i : Nat) (l : List UInt8), ll[i]? = some l → ∃ a m c, vs[i]? = some (.slice a m c) ∧ Sl w 1 a m c (l.map by8) ∧ m ≤ 140737488351232) : Sls (w.alloc (.cells vs.toArray e)) (some ⟨w.heap.size, 0, .none⟩) n n vs ll :=
  ⟨Sl.fresh w vs e n 1 (by omega) hn, hl, fun i l hi => by
    obtain ⟨a, m, c, h1, h2, h3⟩ := h i l hi
    exact ⟨a, m, c, h1, h2.alloc _, h3⟩⟩
theorem Sls.fresh4 {w : World} {a0 a1 a2 a3 : Option Addr} {m0 c0 m1 c1 m2 c2 m3 c3 : Nat} {l0 l1 l2 l3 : List UInt8} (e : Nat)
    (h0 : Sl w 1 a0 m0 c0 (l0.map by8)) (b0 : m0 ≤ 140737488351232) (h1 : Sl w 1 a1 m1 c1 (l1.map by8)) (b1 : m1 ≤ 140737488351232)
    (h2 : Sl w 1 a2 m2 c2 (l2.map by8)) (b2 : m2 ≤ 140737488351232) (h3 : Sl w 1 a3 m3 c3 (l3.map by8)) (b3 : m3 ≤ 140737488351232) :
    Sls (w.alloc (.cells #[.slice a0 m0 c0, .slice a1 m1 c1, .slice a2 m2 c2, .slice a3 m3 c3] e)) (some ⟨w.heap.size, 0, .none⟩) 4 4 [.slice a0 m0 c0, .slice a1 m1 c1, .slice a2 m2 c2, .slice a3 m3 c3] [l0, l1, l2, l3] :=
  Sls.fresh w _ _ e 4 rfl rfl (by decide) (fun i l hi => by
    match i, hi with
    | 0, hi => obtain rfl := Option.some.inj hi; exact ⟨_, _, _, rfl, h0, b0⟩
    | 1, hi => obtain rfl := Option.some.inj hi; exact ⟨_, _, _, rfl, h1, b1⟩
    | 2, hi => obtain rfl := Option.some.inj hi; exact ⟨_, _, _, rfl, h2, b2⟩
    | 3, hi => obtain rfl := Option.some.inj hi; exact ⟨_, _, _, rfl, h3, b3⟩)
theorem mk_full {P : Program} {w : World} {ops : Array Oper} {rest : List Oper} {o : Oper} {a : Act} {Q : Exit → Act → World → Prop} {t e bytes : Nat} {z : Value} (E : ElemT P t e z 1 bytes) (hzc : z.cells = #[z]) (hg : o.guard = none) (l c : Operand) (hop : o.op = Op.makeSlice t l c)
    (base : Nat) {kl kc : IntKind} {L C : Int} (n : Nat) (hl : a.eval l = .int kl L) (hc : a.eval c = .int kc C) (hL : L = (n : Int)) (hC : C = (n : Int)) (b2 : bytes * n ≤ 281474976710656) (b3 : n ≤ maxLen) (b4 : base ≤ w.heap.size)
    (hK : ∀ w', w'.ownsRow base e 1 (.slice (some ⟨w.heap.size, 0, none⟩) n n) n (List.replicate n z) → w.grownBy w' none → wpList P ops Q rest (a.put o.dst (.slice (some ⟨w.heap.size, 0, none⟩) n n)) w') :
    wpList P ops Q (o :: rest) a w := by
  obtain ⟨i, hi, hz0, hz1, hz2⟩ := info_parts E.info
  refine wpList_make_full w hg l c t hop base e i z 1 E.und hi hz0 hz1 kl kc L C n hl hc hL hC (by rw [hz2]; exact b2) b3 b4 (fun w' h1 h2 => hK w' ?_ h2)
  rw [hzc, Nat.mul_one, toList_madeCells_one] at h1
  exact h1
theorem mk_own {P : Program} {w : World} {ops : Array Oper} {rest : List Oper} {o : Oper} {a : Act} {Q : Exit → Act → World → Prop} {t e size bytes : Nat} {z : Value} (E : ElemT P t e z size bytes) (hg : o.guard = none) (l c : Operand) (hop : o.op = Op.makeSlice t l c)
    (base : Nat) {kl kc : IntKind} {C : Int} (n : Nat) (hl : a.eval l = .int kl 0) (hc : a.eval c = .int kc C) (hC : C = (n : Int)) (b2 : bytes * n ≤ 281474976710656) (b3 : n ≤ maxLen) (b4 : base ≤ w.heap.size)
    (hK : ∀ w', w'.ownsRow base e size (.slice (some ⟨w.heap.size, 0, none⟩) 0 n) 0 [] → w.grownBy w' none → wpList P ops Q rest (a.put o.dst (.slice (some ⟨w.heap.size, 0, none⟩) 0 n)) w') :
    wpList P ops Q (o :: rest) a w := by
  obtain ⟨i, hi, hz0, hz1, hz2⟩ := info_parts E.info
  exact wpList_make_own w hg l c t hop base e i z size E.und hi hz0 hz1 kl kc C n hl hc hC (by rw [hz2]; exact b2) b3 b4 hK
theorem below_grown {w w' : World} (h : w.grownBy w' none) : Below w.heap.size w w' := ⟨h.os, h.tape, h.output, h.size, fun k hk => h.block k hk (by simp)⟩

/-! ### bytes -/
/-- the byte at a place, as a number -/
def bt (l : List UInt8) (i : Nat) : Nat := (l[i]?.getD 0).toNat
theorem bt_lt (l : List UInt8) (i : Nat) : bt l i < 256 := u8_lt _
theorem bt_eq (l : List UInt8) (i : Nat) (h : i < l.length) : bt l i = l[i].toNat := by simp [bt, List.getElem?_eq_getElem h]
theorem u8_bt (l : List UInt8) (i : Nat) (h : i < l.length) : by8 l[i] = .int .u8 (bt l i : Int) := by rw [bt_eq l i h]; rfl
theorem take_bt (l : List UInt8) (i : Nat) (h : i < l.length) : l.take (i + 1) = l.take i ++ [UInt8.ofNat (bt l i)] := by
  rw [List.take_succ_eq_append_getElem h, bt_eq l i h, UInt8.ofNat_toNat]
theorem Sl.byte {w : World} {b off n c : Nat} {l : List UInt8} (h : Sl w 1 (some ⟨b, off, .none⟩) n c (l.map by8)) (i : Nat) (hi : i < n) : w.cell? ⟨b, off + i, .none⟩ = some (.int .u8 (bt l i : Int)) := by
  have hl : l.length = n := by simpa using h.len
  have := h.cell i (by simpa [hl] using hi)
  rw [this, List.getElem_map, u8_bt]
theorem bt_drop (l : List UInt8) (k i : Nat) : bt (l.drop k) i = bt l (k + i) := by simp [bt]
theorem bt_take (l : List UInt8) (k i : Nat) (h : i < k) : bt (l.take k) i = bt l i := by simp [bt, List.getElem?_take, h]
theorem bt_append_left (l m : List UInt8) (i : Nat) (h : i < l.length) : bt (l ++ m) i = bt l i := by simp [bt, List.getElem?_append, h]
theorem bt_append_right (l m : List UInt8) (i : Nat) (h : l.length ≤ i) : bt (l ++ m) i = bt m (i - l.length) := by simp [bt, List.getElem?_append, Nat.not_lt.2 h]
theorem bt_ext {l m : List UInt8} (h : l.length = m.length) (h2 : ∀ i, i < l.length → bt l i = bt m i) : l = m := by
  refine List.ext_getElem h fun i h1 h3 => ?_
  have := h2 i h1
  rw [bt_eq l i h1, bt_eq m i h3] at this
  exact UInt8.toNat_inj.1 this

/-- bytes as a text -/
theorem conv_bytes {P : Program} {w : World} {A : Option Addr} {n c src e dst : Nat} {l : List UInt8} (h : Sl w 1 A n c (l.map by8)) (hs : P.underlying src = some (.slice e)) (he : P.underlying e = some (.int .u8)) (hd : P.underlying dst = some .string) :
    (convert src dst (.slice A n c)).run P w = .ok (.string ⟨l.toArray⟩) w := by
  have hl : l.length = n := by simpa using h.len
  have e2 : strOfNums (l.map fun c => (c.toNat : Int)) = ⟨l.toArray⟩ := by
    unfold strOfNums
    rw [List.map_map]
    congr 2
    conv => rhs; rw [← List.map_id l]
    refine List.map_congr_left fun c _ => ?_
    simp
  cases A with
  | none =>
    obtain rfl : c = 0 := h.nil rfl
    obtain rfl : n = 0 := by have := h.le; omega
    obtain rfl : l = [] := List.eq_nil_of_length_eq_zero hl
    rw [run_convert_bytes_nil w src e hs he 0 0 dst hd]
    rfl
  | some ad =>
    rcases Nat.eq_zero_or_pos n with h0 | h0
    · subst h0
      obtain rfl : l = [] := List.eq_nil_of_length_eq_zero hl
      rw [run_convert_bytes_string w src dst e _ 0 c hs he hd]
      simp [Conv.bytesToString]
      rfl
    · obtain ⟨b, off, hb⟩ := h.form h0
      rw [hb] at h ⊢
      rw [run_convert_bytes_arg w src e hs he b off n c (l.map fun c => (c.toNat : Int)) (by simpa using hl) (fun i hi => ?_) dst hd, e2]
      rw [h.byte i hi, bt_eq l i (by omega)]
      simp [List.getD_eq_getElem?_getD, List.getElem?_eq_getElem (show i < l.length by omega)]

/-! ### numbers out of bytes -/
def be (l : List UInt8) : Nat := l.foldl (fun x c => x * 256 + c.toNat) 0
theorem be_snoc (l : List UInt8) (c : UInt8) : be (l ++ [c]) = be l * 256 + c.toNat := by simp [be, List.foldl_append]
theorem be_lt (l : List UInt8) : be l < 256 ^ l.length := by
  have h : ∀ (l : List UInt8) (x : Nat), l.foldl (fun x c => x * 256 + c.toNat) x < (x + 1) * 256 ^ l.length := by
    intro l
    induction l with
    | nil => intro x; simp
    | cons c l ih =>
      intro x
      simp only [List.foldl_cons, List.length_cons]
      have h1 := ih (x * 256 + c.toNat)
      have := u8_lt c
      have h2 : (x * 256 + c.toNat + 1) * 256 ^ l.length ≤ ((x + 1) * 256) * 256 ^ l.length := Nat.mul_le_mul_right _ (by omega)
      rw [Nat.pow_succ, Nat.mul_comm (256 ^ l.length) 256, ← Nat.mul_assoc]
      omega
  simpa [be] using h l 0
theorem be_take (l : List UInt8) (i : Nat) (h : i < l.length) : be (l.take (i + 1)) = be (l.take i) * 256 + bt l i := by
  rw [List.take_succ_eq_append_getElem h, be_snoc, bt_eq l i h]
/-- the lowest byte first -/
def le (l : List UInt8) : Nat := l.foldr (fun c x => c.toNat + 256 * x) 0
theorem le_append (l m : List UInt8) : le (l ++ m) = le l + 256 ^ l.length * le m := by
  induction l with
  | nil => simp [le]
  | cons c l ih =>
    have e : ∀ (c : UInt8) (l : List UInt8), le (c :: l) = c.toNat + 256 * le l := fun _ _ => rfl
    rw [List.cons_append, e, e, ih, List.length_cons, Nat.pow_succ, Nat.mul_add, Nat.mul_comm (256 ^ l.length) 256, ← Nat.mul_assoc]
    omega
theorem le_take (l : List UInt8) (i : Nat) (h : i < l.length) : le (l.take (i + 1)) = le (l.take i) + bt l i * 256 ^ i := by
  rw [List.take_succ_eq_append_getElem h, le_append, bt_eq l i h, List.length_take, Nat.min_eq_left (by omega), Nat.mul_comm]
  simp [le]
theorem le_reverse (l : List UInt8) : le l.reverse = be l := by
  simp only [le, be, List.foldr_reverse]
  congr 1
  funext x c
  omega
theorem le_lt (l : List UInt8) : le l < 256 ^ l.length := by
  have := be_lt l.reverse
  rw [← le_reverse, List.reverse_reverse, List.length_reverse] at this
  exact this
end Go.Proofs.Ytpjmbhhfpoamnaa

namespace Go.Proofs.Ytpjmbhhfpoamnaa
open Go.RowKit
/-- where the row lies behind an append: where it lay, or in a new block -/
theorem ap_block {P : Program} {w : World} {base : Nat} {t ty e : TypeId} {i : TypeInfo} {z : Value} (ht : P.underlying t = some (.slice e)) (hi : P.info? e = some i) (hz : i.zero = some z)
    {v : Value} {n : Nat} {xs : List Value} (hown : w.ownsRow base e i.size v n xs)
    {ad : Addr} {m c : Nat} {news : List Value} (hl : news.length = m * i.size) (hnews : ∀ j u, news[j]? = some u → w.cell? (ad.add j) = some u) (h1 : ∀ u ∈ news, u.oneCell' = true)
    (h63 : n + m ≤ maxLen) (hbytes : (n + m) * i.bytes ≤ 140737488355328)
    {v' : Value} {w' : World} (hr : (Builtin.append_ #[t, t] ty #[v, .slice (some ad) m c]).run P w = .ok v' w') : ∀ k, v'.ownBlock = some k → v.ownBlock = some k ∨ k = w.heap.size := by
  have hsmall : n + m ≤ 9223372036854775807 := by simp only [maxLen] at h63; omega
  rcases hown.2 with ⟨rfl, rfl⟩ | ⟨g, cap, cur, rfl, hbg, hg, hnc, hcm, hcs, htake⟩
  · by_cases hm : m = 0
    · subst hm
      have hn : news = [] := List.eq_nil_of_length_eq_zero (by simpa using hl)
      subst hn
      have e2 : (Builtin.append_ #[t, t] ty #[.slice none 0 0, .slice (some ad) 0 c]).run P w = .ok (.slice none 0 0) w := by
        simp [Builtin.append_, run_underlying ht, sizeOf, typeInfo, hi, Builtin.lenOf, Builtin.firstCells, loadCells, loadCellsFrom]
      rw [e2] at hr
      injection hr with hr _
      subst hr
      intro k hk
      cases hk
    · have e2 := run_append_nil (P := P) w t ty e i z ht hi hz ad m c news hl hnews (by omega) (by omega) (by have hb := hbytes; simp only [Nat.zero_add] at hb; omega)
      rw [e2] at hr
      injection hr with hr _
      subst hr
      intro k hk
      injection hk with hk
      exact .inr hk.symm
  · by_cases hroom : n + m ≤ cap
    · have hfit : n * i.size + news.length ≤ cur.size := by rw [hl, hcs, ← Nat.add_mul]; exact Nat.mul_le_mul_right _ hroom
      have e2 := run_append_room (P := P) w t ty e i ht hi g n cap cur hg ad m c news hl hnews h1 hroom hfit
      rw [e2] at hr
      injection hr with hr _
      subst hr
      intro k hk
      injection hk with hk
      exact .inl (congrArg some hk)
    · have holds : ∀ j u, xs[j]? = some u → w.cell? ((⟨g, 0, none⟩ : Addr).add j) = some u := hown.cells (g := g) rfl
      have e2 := run_append_grow (P := P) w t ty e i z ht hi hz ⟨g, 0, none⟩ n cap xs hown.1 holds ad m c news hl hnews (by omega) (by omega) (growslice_fits (by omega) hbytes)
      rw [e2] at hr
      injection hr with hr _
      subst hr
      intro k hk
      injection hk with hk
      exact .inr hk.symm
/-- append to a row of one's own, and where it lies behind it -/
theorem apk_own {P : Program} {w : World} {ops : Array Oper} {rest : List Oper} {o : Oper} {a : Act} {Q : Exit → Act → World → Prop} {t e size bytes : Nat} {z : Value} (E : ElemT P t e z size bytes) (hgd : o.guard = none) (s x : Operand)
    (ho : o.op = .call { callee := .builtin .append, args := #[s, x], argTypes := #[t, t] }) {base : Nat}
    {v : Value} {n : Nat} {xs : List Value} (hs : a.eval s = v) (hown : w.ownsRow base e size v n xs)
    {A : Option Addr} {m c : Nat} {news : List Value} (hx : a.eval x = .slice A m c) (hsl : Sl w size A m c news) (h1 : ∀ u ∈ news, u.oneCell' = true)
    (h63 : n + m ≤ maxLen) (hbytes : (n + m) * bytes ≤ 140737488355328) (hbase : base ≤ w.heap.size)
    (h : ∀ v' w', w'.ownsRow base e size v' (n + m) (xs ++ news) → w.grownBy w' v.ownBlock → (∀ k, v'.ownBlock = some k → v.ownBlock = some k ∨ k = w.heap.size) → wpList P ops Q rest (a.put o.dst v') w') : wpList P ops Q (o :: rest) a w := by
  refine wpList_plain hgd fun _ hK => ?_
  obtain ⟨i, hi, hz0, hz1, hz2⟩ := info_parts E.info
  cases A with
  | none =>
    obtain rfl : c = 0 := hsl.nil rfl
    obtain rfl : m = 0 := by have := hsl.le; omega
    obtain rfl : news = [] := List.eq_nil_of_length_eq_zero (by have := hsl.len; simpa using this)
    have hrun := run_append_owned_none (P := P) (w := w) base t o.type e i size E.und hi v n xs hown
    unfold Oper.wp
    simp [execOp, ho, resolve, invoke, builtin, hs, hx, hrun, Result.andThen]
    exact hK _ _ (h v w (by simpa using hown) ⟨rfl, rfl, rfl, Nat.le_refl _, fun _ _ _ => rfl⟩ (fun k hk => .inl hk))
  | some ad =>
    obtain ⟨v', w', hr, h2, h3, h4⟩ := run_append_own (P := P) w base t o.type e i z size bytes E.und hi hz0 hz1 hz2 E.zs E.pos v n xs hown ad m c news hsl.len hsl.news h1 h63 hbytes hbase
    have h5 := ap_block (ty := o.type) E.und hi hz0 (hz1.symm ▸ hown) (hz1.symm ▸ hsl.len) hsl.news h1 h63 (hz2.symm ▸ hbytes) hr
    unfold Oper.wp execOp
    simp only [ho, resolve, invoke, builtin, Sem.run_bind, Sem.run_pure, Result.andThen_ok, List.map_toArray, List.map_cons, List.map_nil, hs, hx, hr]
    exact hK _ _ (h v' w' h2 h3 h5)
end Go.Proofs.Ytpjmbhhfpoamnaa

namespace Go.Proofs.Ytpjmbhhfpoamnaa
open Go.RowKit
/-- copy into a row of one's own, from its first place to its last -/
theorem copy_full {P : Program} {w : World} {ops : Array Oper} {rest : List Oper} {o : Oper} {a : Act} {Q : Exit → Act → World → Prop} {t e bytes : Nat} {z : Value} (E : ElemT P t e z 1 bytes) (hgd : o.guard = none) (d s : Operand)
    (ho : o.op = .call { callee := .builtin .copy, args := #[d, s], argTypes := #[t, t] }) {base g n cap : Nat} {xs : List Value} (hd : a.eval d = .slice (some ⟨g, 0, none⟩) n cap) (hown : w.ownsRow base e 1 (.slice (some ⟨g, 0, none⟩) n cap) n xs)
    {A : Option Addr} {c : Nat} {news : List Value} (hs : a.eval s = .slice A n c) (hsl : Sl w 1 A n c news) (h1 : ∀ u ∈ news, u.oneCell' = true)
    (h : ∀ w', w'.ownsRow base e 1 (.slice (some ⟨g, 0, none⟩) n cap) n news → w.grownBy w' (some g) → wpList P ops Q rest (a.put o.dst (goInt n)) w') : wpList P ops Q (o :: rest) a w := by
  obtain ⟨i, hi, hz0, hz1, hz2⟩ := info_parts E.info
  have hl : news.length = n := by simpa using hsl.len
  have hsz : (P.info? e).map (·.size) = some 1 := by rw [hi]; simp [hz1]
  by_cases h0 : n = 0
  · subst h0
    have hn : news = [] := List.eq_nil_of_length_eq_zero hl
    subst hn
    have hx : xs = [] := List.eq_nil_of_length_eq_zero (by simpa using hown.1)
    subst hx
    exact wpList_copy_nothing hgd d s t t ho e E.und hsz _ _ 0 cap 0 c hd hs rfl (h w hown ⟨rfl, rfl, rfl, Nat.le_refl _, fun _ _ _ => rfl⟩)
  · obtain ⟨b, off, rfl⟩ := hsl.form (by omega)
    rcases hown.2 with ⟨h', _⟩ | ⟨g', cap', cur, h', hb, hg, hnc, hcm, hcs, htake⟩
    · simp at h'
    · simp only [Value.slice.injEq, Option.some.injEq, Addr.mk.injEq, and_true, true_and] at h'
      obtain ⟨rfl, rfl⟩ := h'
      refine wpList_copy_own hgd d s t t ho e E.und hsz g 0 n cap _ n c hd hs cur e hg news (by simp [hl]) hsl.news (by simp [hl, hcs]; omega) h1 ?_
      rw [hl]
      refine h _ ⟨by simpa using hl, .inr ⟨g, cap, _, rfl, hb, setRow_heap w g cur _ e _ hg, hnc, hcm, ?_, ?_⟩⟩ ⟨rfl, rfl, rfl, by simp [World.setRow], fun k _ hk => setRow_other w g k _ (fun e => hk (by simp [e]))⟩
      · simp [hl, hcs]; omega
      · simp [← hl]
end Go.Proofs.Ytpjmbhhfpoamnaa

namespace Go.Proofs.Ytpjmbhhfpoamnaa
open Go.RowKit
theorem EF : ElemT Try.prog 22 5 (.int .u8 0) 1 1 := ⟨Try.underlying22, by kernel_rfl, rfl, by decide⟩
theorem flash_own (w : World) {A : Option Addr} {n c : Nat} {l : List UInt8} (h : Sl w 1 A n c (l.map by8)) (hn : n ≤ 140737488355328) :
    Calls Try.prog 74 #[.slice A n c] w fun e w' => e = .returned (.slice (some ⟨w.heap.size, 0, none⟩) n n) ∧ w'.ownsRow w.heap.size 5 1 (.slice (some ⟨w.heap.size, 0, none⟩) n n) n (l.map by8) ∧ Below w.heap.size w w' := by
  have h1 := h.le; have h2 := h.max
  go_enter Try.func74, Try.ntmps74
  go_wp2_with (first | (at_builtin; refine Stopped.out ?_) | (at_make; refine Stopped.out ?_))
  refine Stopped.mk (mk_full EF rfl rfl _ _ rfl w.heap.size n rfl rfl rfl rfl (by omega) (by simp only [maxLen]; omega) (Nat.le_refl _) ?_)
  intro w1 hown hg
  have hb1 := below_grown hg
  have s1 := h.below hb1
  clear hg
  go_wp2_with (with_reducible refine copy_full EF rfl (.tmp 7) (.tmp 8) rfl rfl hown rfl s1 (u8_one _) ?_)
  intro w2 o2 hg2
  have hb2 : Below w.heap.size w w2 := hb1.grown hg2 hb1.size (fun k hk => (Option.some.inj hk) ▸ Nat.le_refl _)
  clear hown hg2 s1
  go_wp2
  go_ret
  exact ⟨rfl, o2, hb2⟩
/-! ### the flash: its block, its banks, the crashes that wait -/
structure FSt where
  size : Nat
  b0 : List UInt8
  b1 : List UInt8
  armed : List (Nat × Nat)
  count : Nat
  writes : Nat
  down : Bool
def crashL (l : List (Nat × Nat)) : List Value := l.flatMap fun c => [.int .i64 (c.1 : Int), .int .i64 (c.2 : Int)]
structure Fl (w : World) (p : Nat) (G : List Nat) (s : FSt) : Prop where
  out : ∃ v0 v1 va, w.heap[p]? = some (.cells #[.int .i64 s.size, v0, v1, va, .int .i64 s.count, .int .i64 s.writes, .bool s.down] 128 (0, 0)) ∧
    w.ownsRow 0 5 1 v0 s.b0.length (s.b0.map by8) ∧ w.ownsRow 0 5 1 v1 s.b1.length (s.b1.map by8) ∧ w.ownsRow 0 138 2 va s.armed.length (crashL s.armed) ∧
    (∀ k, v0.ownBlock = some k → k ≠ p ∧ k ∈ G ∧ v1.ownBlock ≠ some k ∧ va.ownBlock ≠ some k) ∧ (∀ k, v1.ownBlock = some k → k ≠ p ∧ k ∈ G ∧ va.ownBlock ≠ some k) ∧ (∀ k, va.ownBlock = some k → k ≠ p ∧ k ∈ G)
  mem : p ∈ G
  lts : ∀ x ∈ G, x < w.heap.size
theorem Fl.keep {M : List Nat} {w w' : World} {p : Nat} {G : List Nat} {s : FSt} (h : Fl w p G s) (k : Keep M w w') (hM : ∀ x ∈ G, x ∉ M) : Fl w' p G s := by
  obtain ⟨v0, v1, va, hb, h0, h1, ha, k0, k1, ka⟩ := h.out
  exact ⟨⟨v0, v1, va, k.heap hb (hM _ h.mem), k.own h0 (fun j hj => hM _ (k0 j hj).2.1), k.own h1 (fun j hj => hM _ (k1 j hj).2.1), k.own ha (fun j hj => hM _ (ka j hj).2), k0, k1, ka⟩, h.mem, fun x hx => Nat.lt_of_lt_of_le (h.lts x hx) k.size⟩
theorem Fl.below {w w' : World} {p : Nat} {G : List Nat} {s : FSt} (h : Fl w p G s) (k : Below w.heap.size w w') : Fl w' p G s :=
  h.keep (Keep.of_below k []) (by simp)
/-- what a step on the flash leaves -/
structure FStep (w w' : World) (p : Nat) (G : List Nat) (s : FSt) : Prop where
  out : ∃ G', Fl w' p G' s ∧ Keep G w w' ∧ ∀ x ∈ G', x ∈ G ∨ w.heap.size ≤ x
theorem flash_Down (w : World) {p : Nat} {G : List Nat} {s : FSt} (h : Fl w p G s) :
    Calls Try.prog 32 #[.pointer (some ⟨p, 0, none⟩)] w fun e w' => e = .returned (.bool s.down) ∧ w = w' := by
  obtain ⟨v0, v1, va, hb, _⟩ := h.out
  have c6 := box_cell hb 6 (.bool s.down) rfl
  clear hb
  go_enter Try.func32, Try.ntmps32
  go_wp2
  go_ret
  exact ⟨rfl, rfl⟩
theorem flash_Writes (w : World) {p : Nat} {G : List Nat} {s : FSt} (h : Fl w p G s) :
    Calls Try.prog 33 #[.pointer (some ⟨p, 0, none⟩)] w fun e w' => e = .returned (.int .i64 s.writes) ∧ w = w' := by
  obtain ⟨v0, v1, va, hb, _⟩ := h.out
  have c5 := box_cell hb 5 (.int .i64 s.writes) rfl
  clear hb
  go_enter Try.func33, Try.ntmps33
  go_wp2
  go_ret
  exact ⟨rfl, rfl⟩
/-- refused: by the bank's number, or because the flash is down -/
def refusedF (s : FSt) (n : Int) : Nat := if n ≠ 0 ∧ n ≠ 1 then 120 else if s.down then 121 else 0
theorem flash_at_no (w : World) {p : Nat} {G : List Nat} {s : FSt} (h : Fl w p G s) (n : Int) (hr : refusedF s n ≠ 0) :
    Calls Try.prog 75 #[.pointer (some ⟨p, 0, none⟩), .int .i64 n] w fun e w' => e = .returned (.tuple #[.pointer none, .int .i64 (refusedF s n : Nat)]) ∧ w = w' := by
  obtain ⟨v0, v1, va, hb, _⟩ := h.out
  by_cases hn : n ≠ 0 ∧ n ≠ 1
  · have HR : Hid (refusedF s n = 120) := Lib.hid (by rw [refusedF, if_pos hn])
    have q0 : (n != 0) = true := by simpa using hn.1
    have q1 : (n != 1) = true := by simpa using hn.2
    clear hn hr hb
    go_enter Try.func75, Try.ntmps75
    go_wp2
    go_ret2
    exact ⟨by (rw [HR.out]) <;> rfl, rfl⟩
  · have hd : s.down = true := by
      rw [refusedF, if_neg hn] at hr
      cases hsd : s.down <;> simp [hsd] at hr ⊢
    have HR : Hid (refusedF s n = 121) := Lib.hid (by rw [refusedF, if_neg hn, hd]; rfl)
    have c6 := box_cell hb 6 (.bool true) (by rw [hd]; rfl)
    clear hr hb hd
    rcases (show n = 0 ∨ n = 1 by omega) with rfl | rfl
    ·
      go_enter Try.func75, Try.ntmps75
      go_wp2
      go_ret2
      exact ⟨by (rw [HR.out]) <;> rfl, rfl⟩
    ·
      go_enter Try.func75, Try.ntmps75
      go_wp2
      go_ret2
      exact ⟨by (rw [HR.out]) <;> rfl, rfl⟩
theorem flash_at_yes (w : World) {p : Nat} {G : List Nat} {s : FSt} (h : Fl w p G s) (n : Nat) (hn : n ≤ 1) (hd : s.down = false) :
    Calls Try.prog 75 #[.pointer (some ⟨p, 0, none⟩), .int .i64 n] w fun e w' => e = .returned (.tuple #[.pointer (some ⟨p, 1 + n, none⟩), .int .i64 0]) ∧ w = w' := by
  obtain ⟨v0, v1, va, hb, _⟩ := h.out
  have c6 := box_cell hb 6 (.bool false) (by rw [hd]; rfl)
  clear hb hd
  rcases (show n = 0 ∨ n = 1 by omega) with rfl | rfl
  ·
    go_enter Try.func75, Try.ntmps75
    go_wp2
    go_ret2
    exact ⟨rfl, rfl⟩
  ·
    go_enter Try.func75, Try.ntmps75
    go_wp2
    go_ret2
    exact ⟨rfl, rfl⟩
end Go.Proofs.Ytpjmbhhfpoamnaa

namespace Go.Proofs.Ytpjmbhhfpoamnaa
open Go.RowKit
def bankF (s : FSt) (n : Nat) : List UInt8 := if n = 0 then s.b0 else s.b1
/-- a bank's slice, as the block holds it -/
theorem Fl.bank {w : World} {p : Nat} {G : List Nat} {s : FSt} (h : Fl w p G s) (n : Nat) (hn : n ≤ 1) : ∃ A c, w.cell? ⟨p, 1 + n, none⟩ = some (.slice A (bankF s n).length c) ∧ Sl w 1 A (bankF s n).length c ((bankF s n).map by8) := by
  obtain ⟨v0, v1, va, hb, h0, h1, _⟩ := h.out
  rcases (show n = 0 ∨ n = 1 by omega) with rfl | rfl
  · obtain ⟨A, c, rfl, s0, _⟩ := own_sl h0
    exact ⟨A, c, box_cell hb 1 _ rfl, s0⟩
  · obtain ⟨A, c, rfl, s0, _⟩ := own_sl h1
    exact ⟨A, c, box_cell hb 2 _ rfl, s0⟩
theorem Fl.cellSize {w : World} {p : Nat} {G : List Nat} {s : FSt} (h : Fl w p G s) : w.cell? ⟨p, 0, none⟩ = some (.int .i64 s.size) := by
  obtain ⟨v0, v1, va, hb, _⟩ := h.out
  exact box_cell hb 0 _ rfl
set_option maxHeartbeats 400000 in
theorem flash_Read_yes (w : World) {p : Nat} {G : List Nat} {s : FSt} (h : Fl w p G s) (n : Nat) (hn : n ≤ 1) (hd : s.down = false) (hl : (bankF s n).length ≤ 140737488355328) :
    Calls Try.prog 24 #[.pointer (some ⟨p, 0, none⟩), .int .i64 n] w fun e w' => e = .returned (.tuple #[.slice (some ⟨w.heap.size, 0, none⟩) (bankF s n).length (bankF s n).length, .int .i64 0]) ∧
      w'.ownsRow w.heap.size 5 1 (.slice (some ⟨w.heap.size, 0, none⟩) (bankF s n).length (bankF s n).length) (bankF s n).length ((bankF s n).map by8) ∧ Below w.heap.size w w' := by
  obtain ⟨A, c, hc, sb⟩ := h.bank n hn
  obtain ⟨l, hle⟩ : ∃ l, l = bankF s n := ⟨_, rfl⟩
  rw [← hle] at hc sb hl ⊢
  clear hle
  go_enter Try.func24, Try.ntmps24
  go_wp2_with (first | (at_builtin; refine Stopped.out ?_) | (at_make; refine Stopped.out ?_))
  refine (flash_at_yes _ h n hn hd).mono ?_
  rintro e w' ⟨rfl, rfl⟩
  go_wp2_with (first | (at_builtin; refine Stopped.out ?_) | (at_make; refine Stopped.out ?_))
  refine (flash_own _ sb hl).mono ?_
  rintro e w1 ⟨rfl, o1, hb1⟩
  go_wp2
  go_ret2
  exact ⟨rfl, o1, hb1⟩
theorem flash_Read_no (w : World) {p : Nat} {G : List Nat} {s : FSt} (h : Fl w p G s) (n : Int) (hr : refusedF s n ≠ 0) :
    Calls Try.prog 24 #[.pointer (some ⟨p, 0, none⟩), .int .i64 n] w fun e w' => e = .returned (.tuple #[.slice none 0 0, .int .i64 (refusedF s n : Nat)]) ∧ w = w' := by
  have HA := Lib.hid (flash_at_no w h n hr)
  have q : (((refusedF s n : Nat) : Int) != 0) = true := by simp; omega
  obtain ⟨r, hre⟩ : ∃ r, r = refusedF s n := ⟨_, rfl⟩
  rw [← hre] at HA q ⊢
  clear hre hr
  go_enter Try.func24, Try.ntmps24
  go_wp2_with (first | (at_builtin; refine Stopped.out ?_) | (at_make; refine Stopped.out ?_))
  refine HA.out.mono ?_
  rintro e w' ⟨rfl, rfl⟩
  go_wp2
  go_ret2
  exact ⟨rfl, rfl⟩
theorem flash_Room_no (w : World) {p : Nat} {G : List Nat} {s : FSt} (h : Fl w p G s) (n : Int) (hr : refusedF s n ≠ 0) :
    Calls Try.prog 28 #[.pointer (some ⟨p, 0, none⟩), .int .i64 n] w fun e w' => e = .returned (.tuple #[.int .i64 0, .int .i64 (refusedF s n : Nat)]) ∧ w = w' := by
  have HA := Lib.hid (flash_at_no w h n hr)
  have q : (((refusedF s n : Nat) : Int) != 0) = true := by simp; omega
  obtain ⟨r, hre⟩ : ∃ r, r = refusedF s n := ⟨_, rfl⟩
  rw [← hre] at HA q ⊢
  clear hre hr
  go_enter Try.func28, Try.ntmps28
  go_wp2_with (first | (at_builtin; refine Stopped.out ?_) | (at_make; refine Stopped.out ?_))
  refine HA.out.mono ?_
  rintro e w' ⟨rfl, rfl⟩
  go_wp2
  go_ret2
  exact ⟨rfl, rfl⟩
set_option maxHeartbeats 400000 in
theorem flash_Room_yes (w : World) {p : Nat} {G : List Nat} {s : FSt} (h : Fl w p G s) (n : Nat) (hn : n ≤ 1) (hd : s.down = false) (hs : s.size ≤ 1048576) (hl : (bankF s n).length ≤ s.size) :
    Calls Try.prog 28 #[.pointer (some ⟨p, 0, none⟩), .int .i64 n] w fun e w' => e = .returned (.tuple #[.int .i64 (s.size - (bankF s n).length : Nat), .int .i64 0]) ∧ Drawn w w' := by
  obtain ⟨A, c, hc, sb⟩ := h.bank n hn
  have c0 := h.cellSize
  obtain ⟨m, hle⟩ : ∃ m, m = (bankF s n).length := ⟨_, rfl⟩
  obtain ⟨z, hz⟩ : ∃ z, z = s.size := ⟨_, rfl⟩
  have HA := Lib.hid (flash_at_yes w h n hn hd)
  rw [← hle] at hc hl ⊢
  rw [← hz] at c0 hs hl ⊢
  have hsub : ((z - m : Nat) : Int) = (z : Int) - m := by omega
  clear hle hz sb
  rw [hsub]
  clear hsub
  go_enter Try.func28, Try.ntmps28
  go_wp2_with (first | (at_builtin; refine Stopped.out ?_) | (at_make; refine Stopped.out ?_))
  refine HA.out.mono ?_
  rintro e w' ⟨rfl, rfl⟩
  go_wp2
  go_quiet (fail)
  go_wp2
  go_ret2
  exact ⟨by simp, (by first | exact ⟨⟨_, rfl⟩⟩ | exact ⟨⟨_, World.drewN_drewN ..⟩⟩)⟩
theorem flash_Restart (w : World) {p : Nat} {G : List Nat} {s : FSt} (h : Fl w p G s) :
    Calls Try.prog 34 #[.pointer (some ⟨p, 0, none⟩)] w fun e w' => e = .returned (.int .i64 (if s.down then 0 else 123)) ∧ FStep w w' p G { s with down := false } := by
  obtain ⟨v0, v1, va, hb, h0, h1, ha, k0, k1, ka⟩ := h.out
  have hm := h.mem; have hlts := h.lts
  cases hsd : s.down
  · have c6 := box_cell hb 6 (.bool false) (by rw [hsd]; rfl)
    have HK : Hid (FStep w w p G { s with down := false }) := Lib.hid ⟨G, by
      have : ({ s with down := false } : FSt) = s := by cases s; simp at hsd; simp [hsd]
      rw [this]; exact h, Keep.refl _ _, fun x hx => .inl hx⟩
    clear hb h0 h1 ha k0 k1 ka
    go_enter Try.func34, Try.ntmps34
    go_wp2
    go_ret
    exact ⟨rfl, HK.out⟩
  · have c6 := box_cell hb 6 (.bool true) (by rw [hsd]; rfl)
    have f6 := box_free hb 6
    have HK : Hid (FStep w (w.setCell ⟨p, 6, none⟩ (.bool false)) p G { s with down := false }) := Lib.hid (by
      have k2 : Keep [p] w (w.setCell ⟨p, 6, none⟩ (.bool false)) := (Keep.refl [p] w).setCell (.inl (by simp)) _
      refine ⟨G, ⟨⟨v0, v1, va, ?_, k2.own h0 (fun k hk => by have := (k0 k hk).1; simpa using this), k2.own h1 (fun k hk => by have := (k1 k hk).1; simpa using this), k2.own ha (fun k hk => by have := (ka k hk).1; simpa using this), k0, k1, ka⟩, hm, fun x hx => by have := hlts x hx; simpa using this⟩, (Keep.refl G w).setCell (.inl hm) _, fun x hx => .inl hx⟩
      have := heap_setCell_same w p 6 _ _ (.bool false) hb
      simpa using this)
    clear hb h0 h1 ha k0 k1 ka
    go_enter Try.func34, Try.ntmps34
    go_wp2
    go_ret
    exact ⟨rfl, HK.out⟩
end Go.Proofs.Ytpjmbhhfpoamnaa

namespace Go.Proofs.Ytpjmbhhfpoamnaa
open Go.RowKit
set_option maxHeartbeats 800000 in
set_option maxRecDepth 100000 in
theorem flash_Files (w : World) {p : Nat} {G : List Nat} {s : FSt} (h : Fl w p G s) (h0 : s.b0.length ≤ 140737488355328) (h1 : s.b1.length ≤ 140737488355328) :
    Calls Try.prog 25 #[.pointer (some ⟨p, 0, none⟩)] w fun e w' => ∃ A B, e = .returned (.tuple #[.slice A s.b0.length s.b0.length, .slice B s.b1.length s.b1.length]) ∧
      w'.ownsRow w.heap.size 5 1 (.slice A s.b0.length s.b0.length) s.b0.length (s.b0.map by8) ∧ w'.ownsRow w.heap.size 5 1 (.slice B s.b1.length s.b1.length) s.b1.length (s.b1.map by8) ∧
      (∀ ad, A = some ad → ∀ ae, B = some ae → ad.block ≠ ae.block) ∧ Below w.heap.size w w' := by
  obtain ⟨A0, c0, g0, s0⟩ := h.bank 0 (by decide)
  obtain ⟨A1, c1, g1, s1⟩ := h.bank 1 (by decide)
  have e0 : bankF s 0 = s.b0 := rfl
  have e1 : bankF s 1 = s.b1 := rfl
  rw [e0] at g0 s0; rw [e1] at g1 s1
  obtain ⟨x, hx⟩ : ∃ x, x = s.b0 := ⟨_, rfl⟩
  obtain ⟨y, hy⟩ : ∃ y, y = s.b1 := ⟨_, rfl⟩
  rw [← hx] at g0 s0 h0 ⊢; rw [← hy] at g1 s1 h1 ⊢
  clear hx hy e0 e1
  have g1' : w.cell? ⟨p, 2, none⟩ = some (.slice A1 y.length c1) := g1
  have g0' : w.cell? ⟨p, 1, none⟩ = some (.slice A0 x.length c0) := g0
  clear g0 g1
  go_enter Try.func25, Try.ntmps25
  go_wp2_with fail
  go_region_held3 (fun w' => w'.cell? ⟨p, 1, none⟩ = some (.slice A0 x.length c0) ∧ w'.cell? ⟨p, 2, none⟩ = some (.slice A1 y.length c1))
    (first | exact ⟨cell_below (cell_below (w := w.drew) g0' hb2) hb3, cell_below (cell_below (w := w.drew) g1' hb2) hb3⟩ | exact ⟨cell_below (w := w.drew) g0' hb2, cell_below (w := w.drew) g1' hb2⟩ | go_keep)
    (first
      | (go_at_call 74; refine (flash_own _ (s1.drew.below hb2) h1).mono ?_; rintro e w3 ⟨rfl, o3, hb3⟩)
      | (go_at_call 74; refine (flash_own _ s0.drew h0).mono ?_; rintro e w2 ⟨rfl, o2, hb2⟩))
  all_goals
    go_wp2
    go_ret2
    refine ⟨_, _, rfl, own_below o2 hb3, own_mono o3 hb2.size, ?_, bthen (bthen ((Below.refl _ _).drew) hb2) hb3⟩
    intro ad ea ae eb
    obtain rfl := Option.some.inj ea
    obtain rfl := Option.some.inj eb
    have := (own_sl' o2).2.2 _ rfl
    simp at this ⊢
    omega
end Go.Proofs.Ytpjmbhhfpoamnaa

namespace Go.Proofs.Ytpjmbhhfpoamnaa
open Go.RowKit
set_option maxRecDepth 100000 in
theorem flash_Disarm (w : World) {p : Nat} {G : List Nat} {s : FSt} (h : Fl w p G s) :
    Calls Try.prog 39 #[.pointer (some ⟨p, 0, none⟩)] w fun e w' => e = .returned (.tuple #[]) ∧ FStep w w' p G { s with armed := [], count := 0 } := by
  obtain ⟨v0, v1, va, hb, h0, h1, ha, k0, k1, ka⟩ := h.out
  have hm := h.mem; have hlts := h.lts
  obtain ⟨w1, hw1⟩ : ∃ w1, w1 = w.setCell ⟨p, 3, none⟩ (.slice none 0 0) := ⟨_, rfl⟩
  have hb1 : w1.heap[p]? = some (.cells #[.int .i64 s.size, v0, v1, .slice none 0 0, .int .i64 s.count, .int .i64 s.writes, .bool s.down] 128 (0, 0)) := by
    have := heap_setCell_same w p 3 _ _ (.slice none 0 0) hb
    rw [← hw1] at this
    simpa using this
  have c3 := box_cell hb 3 va rfl
  have f3 := box_free hb 3
  have c4 := box_cell hb1 4 (.int .i64 s.count) rfl
  have f4 := box_free hb1 4
  have HK : Hid (FStep w (w1.setCell ⟨p, 4, none⟩ (.int .i64 0)) p G { s with armed := [], count := 0 }) := Lib.hid (by
    have k2 : Keep [p] w1 (w1.setCell ⟨p, 4, none⟩ (.int .i64 0)) := (Keep.refl [p] w1).setCell (.inl (by simp)) _
    have k1' : Keep [p] w w1 := by rw [hw1]; exact (Keep.refl [p] w).setCell (.inl (by simp)) _
    have kk := k1'.trans k2
    refine ⟨G, ⟨⟨v0, v1, .slice none 0 0, ?_, kk.own h0 (fun k hk => by have := (k0 k hk).1; simpa using this), kk.own h1 (fun k hk => by have := (k1 k hk).1; simpa using this), World.ownsRow_nil .., fun k hk => ⟨(k0 k hk).1, (k0 k hk).2.1, (k0 k hk).2.2.1, by simp [Value.ownBlock]⟩, fun k hk => ⟨(k1 k hk).1, (k1 k hk).2.1, by simp [Value.ownBlock]⟩, fun k hk => by cases hk⟩, hm, fun x hx => Nat.lt_of_lt_of_le (hlts x hx) kk.size⟩, kk.mono (by simpa using hm), fun x hx => .inl hx⟩
    have := heap_setCell_same w1 p 4 _ _ (.int .i64 0) hb1
    simpa using this)
  obtain ⟨Aa, ca, rfl, _, _⟩ := own_sl ha
  rw [hw1] at c4 f4 HK
  clear hb hb1 h0 h1 ha k0 k1 ka hw1
  go_enter Try.func39, Try.ntmps39
  go_wp2
  go_end0
  exact ⟨rfl, HK.out⟩
end Go.Proofs.Ytpjmbhhfpoamnaa

namespace Go.Proofs.Ytpjmbhhfpoamnaa
open Go.RowKit
/-- a write while no crash waits -/
theorem flash_write_calm (w : World) {p : Nat} {G : List Nat} {s : FSt} (h : Fl w p G s) (ha0 : s.armed = []) (hw : s.writes ≤ 4611686018427387904) :
    Calls Try.prog 76 #[.pointer (some ⟨p, 0, none⟩)] w fun e w' => e = .returned (.tuple #[.int .i64 0, .bool false]) ∧ FStep w w' p G { s with writes := s.writes + 1 } := by
  obtain ⟨v0, v1, va, hb, h0, h1, ha, k0, k1, ka⟩ := h.out
  have hm := h.mem; have hlts := h.lts
  have c5 := box_cell hb 5 (.int .i64 s.writes) rfl
  have f5 := box_free hb 5
  have HK : Hid (FStep w (w.setCell ⟨p, 5, none⟩ (.int .i64 ((s.writes + 1 : Nat) : Int))) p G { s with writes := s.writes + 1 }) := Lib.hid (by
    have kk : Keep [p] w (w.setCell ⟨p, 5, none⟩ (.int .i64 ((s.writes + 1 : Nat) : Int))) := (Keep.refl [p] w).setCell (.inl (by simp)) _
    refine ⟨G, ⟨⟨v0, v1, va, ?_, kk.own h0 (fun k hk => by have := (k0 k hk).1; simpa using this), kk.own h1 (fun k hk => by have := (k1 k hk).1; simpa using this), kk.own ha (fun k hk => by have := (ka k hk).1; simpa using this), k0, k1, ka⟩, hm, fun x hx => Nat.lt_of_lt_of_le (hlts x hx) kk.size⟩, kk.mono (by simpa using hm), fun x hx => .inl hx⟩
    have := heap_setCell_same w p 5 _ _ (.int .i64 ((s.writes + 1 : Nat) : Int)) hb
    simpa using this)
  have ha2 := ha
  rw [ha0] at ha2
  obtain ⟨Aa, ca, rfl, _, _⟩ := own_sl ha2
  have hb2 := heap_setCell_same w p 5 _ _ (.int .i64 ((s.writes + 1 : Nat) : Int)) hb
  have c3 := box_cell hb2 3 (.slice Aa 0 ca) rfl
  obtain ⟨n, hn⟩ : ∃ n, n = s.writes := ⟨_, rfl⟩
  have HN := Lib.hid hn
  rw [← hn] at c5 c3 hw
  rw [← hn] at HK
  have e1 : ((n + 1 : Nat) : Int) = (n : Int) + 1 := by omega
  rw [e1] at HK c3
  clear hb hb2 h0 h1 ha ha2 k0 k1 ka hn e1
  go_enter Try.func76, Try.ntmps76
  go_wp2
  go_ret2
  exact ⟨rfl, by rw [← HN.out]; exact HK.out⟩
end Go.Proofs.Ytpjmbhhfpoamnaa

namespace Go.Proofs.Ytpjmbhhfpoamnaa
open Go.RowKit
/-- bank 0 behind an append and a store -/
theorem Fl.app0 {w w2 : World} {p : Nat} {G : List Nat} {s : FSt} (h : Fl w p G s) {v0 v1 va v' : Value} (hb : w.heap[p]? = some (.cells #[.int .i64 s.size, v0, v1, va, .int .i64 s.count, .int .i64 s.writes, .bool s.down] 128 (0, 0)))
    (h1 : w.ownsRow 0 5 1 v1 s.b1.length (s.b1.map by8)) (ha : w.ownsRow 0 138 2 va s.armed.length (crashL s.armed))
    (k0 : ∀ k, v0.ownBlock = some k → k ≠ p ∧ k ∈ G ∧ v1.ownBlock ≠ some k ∧ va.ownBlock ≠ some k) (k1 : ∀ k, v1.ownBlock = some k → k ≠ p ∧ k ∈ G ∧ va.ownBlock ≠ some k) (ka : ∀ k, va.ownBlock = some k → k ≠ p ∧ k ∈ G)
    {b : List UInt8} (ho : w2.ownsRow 0 5 1 v' b.length (b.map by8)) (hg : w.grownBy w2 v0.ownBlock) (hv : ∀ k, v'.ownBlock = some k → v0.ownBlock = some k ∨ k = w.heap.size) :
    FStep w (w2.setCell ⟨p, 1, none⟩ v') p G { s with b0 := b } := by
  have hm := h.mem; have hlts := h.lts
  have hp : p < w.heap.size := hlts p hm
  have kk : Keep v0.ownBlock.toList w w2 := (Keep.refl _ w).grown hg (fun k hk => .inl (by simp [hk]))
  have kG : Keep G w w2 := kk.mono (fun x hx => (k0 x (by simpa using hx)).2.1)
  have ks : Keep [p] w2 (w2.setCell ⟨p, 1, none⟩ v') := (Keep.refl [p] w2).setCell (.inl (by simp)) _
  have hb2 := kk.heap hb (fun hx => (k0 p (by simpa using hx)).1 rfl)
  have h12 := kk.own h1 (fun k hk hx => (k0 k (by simpa using hx)).2.2.1 hk)
  have ha2 := kk.own ha (fun k hk hx => (k0 k (by simpa using hx)).2.2.2 hk)
  have hfr : ∀ k, v1.ownBlock = some k → k < w.heap.size := fun k hk => hlts k (k1 k hk).2.1
  have hfa : ∀ k, va.ownBlock = some k → k < w.heap.size := fun k hk => hlts k (ka k hk).2
  have hv2 : ∀ k, v'.ownBlock = some k → k ≠ p ∧ v1.ownBlock ≠ some k ∧ va.ownBlock ≠ some k := fun k hk => by
    rcases hv k hk with h6 | h6
    · exact ⟨(k0 k h6).1, (k0 k h6).2.2⟩
    · exact ⟨by omega, fun h7 => by have := hfr k h7; omega, fun h7 => by have := hfa k h7; omega⟩
  refine ⟨v'.ownBlock.toList ++ G, ⟨⟨v', v1, va, ?_, ks.own ho (fun k hk => by have := (hv2 k hk).1; simpa using this), ks.own h12 (fun k hk => by have := (k1 k hk).1; simpa using this), ks.own ha2 (fun k hk => by have := (ka k hk).1; simpa using this), fun k hk => ⟨(hv2 k hk).1, List.mem_append_left _ (by simp [hk]), (hv2 k hk).2⟩, fun k hk => ⟨(k1 k hk).1, List.mem_append_right _ (k1 k hk).2.1, (k1 k hk).2.2⟩, fun k hk => ⟨(ka k hk).1, List.mem_append_right _ (ka k hk).2⟩⟩, List.mem_append_right _ hm, ?_⟩, kG.setCell (.inl hm) _, ?_⟩
  · have := heap_setCell_same w2 p 1 _ _ v' hb2
    simpa using this
  · intro x hx
    rcases List.mem_append.1 hx with h6 | h6
    · have := (ho.lt x (by simpa using h6)).2
      simpa using this
    · have := Nat.lt_of_lt_of_le (hlts x h6) kk.size
      simpa using this
  · intro x hx
    rcases List.mem_append.1 hx with h6 | h6
    · rcases hv x (by simpa using h6) with h7 | h7
      · exact .inl (k0 x h7).2.1
      · exact .inr (Nat.le_of_eq h7.symm)
    · exact .inl h6
/-- bank 1 behind an append and a store -/
theorem Fl.app1 {w w2 : World} {p : Nat} {G : List Nat} {s : FSt} (h : Fl w p G s) {v0 v1 va v' : Value} (hb : w.heap[p]? = some (.cells #[.int .i64 s.size, v0, v1, va, .int .i64 s.count, .int .i64 s.writes, .bool s.down] 128 (0, 0)))
    (h0 : w.ownsRow 0 5 1 v0 s.b0.length (s.b0.map by8)) (ha : w.ownsRow 0 138 2 va s.armed.length (crashL s.armed))
    (k0 : ∀ k, v0.ownBlock = some k → k ≠ p ∧ k ∈ G ∧ v1.ownBlock ≠ some k ∧ va.ownBlock ≠ some k) (k1 : ∀ k, v1.ownBlock = some k → k ≠ p ∧ k ∈ G ∧ va.ownBlock ≠ some k) (ka : ∀ k, va.ownBlock = some k → k ≠ p ∧ k ∈ G)
    {b : List UInt8} (ho : w2.ownsRow 0 5 1 v' b.length (b.map by8)) (hg : w.grownBy w2 v1.ownBlock) (hv : ∀ k, v'.ownBlock = some k → v1.ownBlock = some k ∨ k = w.heap.size) :
    FStep w (w2.setCell ⟨p, 2, none⟩ v') p G { s with b1 := b } := by
  have hm := h.mem; have hlts := h.lts
  have hp : p < w.heap.size := hlts p hm
  have kk : Keep v1.ownBlock.toList w w2 := (Keep.refl _ w).grown hg (fun k hk => .inl (by simp [hk]))
  have kG : Keep G w w2 := kk.mono (fun x hx => (k1 x (by simpa using hx)).2.1)
  have ks : Keep [p] w2 (w2.setCell ⟨p, 2, none⟩ v') := (Keep.refl [p] w2).setCell (.inl (by simp)) _
  have hb2 := kk.heap hb (fun hx => (k1 p (by simpa using hx)).1 rfl)
  have h02 := kk.own h0 (fun k hk hx => (k0 k hk).2.2.1 (by simpa using hx))
  have ha2 := kk.own ha (fun k hk hx => (k1 k (by simpa using hx)).2.2 hk)
  have hfr : ∀ k, v0.ownBlock = some k → k < w.heap.size := fun k hk => hlts k (k0 k hk).2.1
  have hfa : ∀ k, va.ownBlock = some k → k < w.heap.size := fun k hk => hlts k (ka k hk).2
  have hv2 : ∀ k, v'.ownBlock = some k → k ≠ p ∧ v0.ownBlock ≠ some k ∧ va.ownBlock ≠ some k := fun k hk => by
    rcases hv k hk with h6 | h6
    · exact ⟨(k1 k h6).1, fun h7 => (k0 k h7).2.2.1 h6, (k1 k h6).2.2⟩
    · exact ⟨by omega, fun h7 => by have := hfr k h7; omega, fun h7 => by have := hfa k h7; omega⟩
  refine ⟨v'.ownBlock.toList ++ G, ⟨⟨v0, v', va, ?_, ks.own h02 (fun k hk => by have := (k0 k hk).1; simpa using this), ks.own ho (fun k hk => by have := (hv2 k hk).1; simpa using this), ks.own ha2 (fun k hk => by have := (ka k hk).1; simpa using this), fun k hk => ⟨(k0 k hk).1, List.mem_append_right _ (k0 k hk).2.1, fun h7 => (hv2 k h7).2.1 hk, (k0 k hk).2.2.2⟩, fun k hk => ⟨(hv2 k hk).1, List.mem_append_left _ (by simp [hk]), (hv2 k hk).2.2⟩, fun k hk => ⟨(ka k hk).1, List.mem_append_right _ (ka k hk).2⟩⟩, List.mem_append_right _ hm, ?_⟩, kG.setCell (.inl hm) _, ?_⟩
  · have := heap_setCell_same w2 p 2 _ _ v' hb2
    simpa using this
  · intro x hx
    rcases List.mem_append.1 hx with h6 | h6
    · have := (ho.lt x (by simpa using h6)).2
      simpa using this
    · have := Nat.lt_of_lt_of_le (hlts x h6) kk.size
      simpa using this
  · intro x hx
    rcases List.mem_append.1 hx with h6 | h6
    · rcases hv x (by simpa using h6) with h7 | h7
      · exact .inl (k1 x h7).2.1
      · exact .inr (Nat.le_of_eq h7.symm)
    · exact .inl h6
end Go.Proofs.Ytpjmbhhfpoamnaa

namespace Go.Proofs.Ytpjmbhhfpoamnaa
open Go.RowKit
theorem FStep.thn {w w' w'' : World} {p : Nat} {G G' : List Nat} {s : FSt} (h2 : Keep G w w') (h3 : ∀ x ∈ G', x ∈ G ∨ w.heap.size ≤ x) (k : FStep w' w'' p G' s) : FStep w w'' p G s := by
  obtain ⟨G2, k1, k2, k3⟩ := k.out
  refine ⟨G2, k1, h2.trans' k2 h3, fun x hx => ?_⟩
  rcases k3 x hx with h | h
  · exact h3 x h
  · exact .inr (Nat.le_trans h2.size h)
/-- an Append that finds no room -/
theorem flash_Append_full (w : World) {p : Nat} {G : List Nat} {s : FSt} (h : Fl w p G s) (n : Nat) (hn : n ≤ 1) (hd : s.down = false) (hs : s.size ≤ 1048576) (hl : (bankF s n).length ≤ s.size) {A : Option Addr} {m c : Nat} (hm : m ≤ 140737488355328) (hfull : s.size < (bankF s n).length + m) :
    Calls Try.prog 23 #[.pointer (some ⟨p, 0, none⟩), .int .i64 n, .slice A m c] w fun e w' => e = .returned (.int .i64 122) ∧ Drawn w w' := by
  obtain ⟨B, d, hc, sb⟩ := h.bank n hn
  have c0 := h.cellSize
  obtain ⟨q, hle⟩ : ∃ q, q = (bankF s n).length := ⟨_, rfl⟩
  obtain ⟨z, hz⟩ : ∃ z, z = s.size := ⟨_, rfl⟩
  have HA := Lib.hid (flash_at_yes w h n hn hd)
  rw [← hle] at hc hl hfull
  rw [← hz] at c0 hs hl hfull
  have i1 : (z : Int) - q < m := by omega
  clear hle hz sb
  go_enter Try.func23, Try.ntmps23
  go_wp2_with (first | (at_builtin; refine Stopped.out ?_) | (at_make; refine Stopped.out ?_))
  refine HA.out.mono ?_
  rintro e w' ⟨rfl, rfl⟩
  go_wp2
  go_quiet (fail)
  go_wp2
  go_ret
  exact ⟨rfl, (by first | exact ⟨⟨_, rfl⟩⟩ | exact ⟨⟨_, World.drewN_drewN ..⟩⟩)⟩
end Go.Proofs.Ytpjmbhhfpoamnaa

namespace Go.Proofs.Ytpjmbhhfpoamnaa
open Go.RowKit
theorem Sl.keepz {M : List Nat} {w w' : World} {sz : Nat} {A : Option Addr} {n c : Nat} {vs : List Value} (h : Sl w sz A n c vs) (k : Keep M w w') (hM : ∀ ad, A = some ad → 0 < n → ad.block ∉ M) : Sl w' sz A n c vs := by
  by_cases h0 : 0 < n
  · exact h.keep k (fun ad e => hM ad e h0)
  · obtain rfl : n = 0 := by omega
    obtain rfl : vs = [] := List.eq_nil_of_length_eq_zero (by have := h.len; simpa using this)
    exact ⟨h.len, h.le, h.max, h.nil, fun ad e h2 => by simp at h2⟩
set_option maxRecDepth 100000 in
set_option maxHeartbeats 800000 in
theorem flash_Append_calm0 (w : World) {p : Nat} {G : List Nat} {s : FSt} (h : Fl w p G s) (hd : s.down = false) (ha0 : s.armed = []) (hw : s.writes ≤ 4611686018427387904) (hs : s.size ≤ 1048576) {A : Option Addr} {m c : Nat} {l : List UInt8} (hb : Sl w 1 A m c (l.map by8)) (hA : ∀ ad, A = some ad → 0 < m → ad.block ∉ G) (hroom : s.b0.length + m ≤ s.size) :
    Calls Try.prog 23 #[.pointer (some ⟨p, 0, none⟩), .int .i64 0, .slice A m c] w fun e w' => e = .returned (.int .i64 0) ∧ FStep w w' p G { s with writes := s.writes + 1, b0 := s.b0 ++ l } := by
  obtain ⟨B, d, hc, sb⟩ := h.bank 0 (by decide)
  have c0 := h.cellSize
  have hl : l.length = m := by simpa using hb.len
  have HA := Lib.hid (flash_at_yes w h 0 (by decide) hd)
  have HW := Lib.hid (fun w' : World => fun (e : w = w') => (e ▸ flash_write_calm w h ha0 hw))
  have hbk : bankF s 0 = s.b0 := rfl
  rw [hbk] at hc
  have hc' : w.cell? ⟨p, 1, none⟩ = some (.slice B s.b0.length d) := hc
  obtain ⟨q, hle⟩ : ∃ q, q = s.b0.length := ⟨_, rfl⟩
  obtain ⟨z, hz⟩ : ∃ z, z = s.size := ⟨_, rfl⟩
  have HQ := Lib.hid hle
  rw [← hle] at hc' hroom
  rw [← hz] at c0 hs hroom
  have i1 : decide ((z : Int) - q < m) = false := decide_eq_false (by omega)
  clear hle hz sb hc hbk
  go_enter Try.func23, Try.ntmps23
  go_wp2_with (first | (at_builtin; refine Stopped.out ?_) | (at_make; refine Stopped.out ?_))
  refine HA.out.mono ?_
  rintro e w' ⟨rfl, rfl⟩
  go_wp2
  go_quiet (fail)
  go_wp2_with (first | (at_builtin; refine Stopped.out ?_) | (at_make; refine Stopped.out ?_))
  have hbd : Below w.heap.size w (w.drewN nq) := below_drewN (Below.refl _ _) nq
  refine (flash_write_calm _ (h.below hbd) ha0 hw).mono ?_
  rintro e w1 ⟨rfl, hst⟩
  obtain ⟨G1, h1, hk1, hG1⟩ := hst.out
  have hkw : Keep G w w1 := (Keep.of_below hbd G).trans hk1
  have hb1 := hb.keepz hkw hA
  obtain ⟨v0, v1, va, hblk, r0, r1, ra, k0, k1, ka⟩ := h1.out
  obtain ⟨A0, c0', rfl, _, _⟩ := own_sl r0
  have d1 := box_cell hblk 1 (.slice A0 s.b0.length c0') rfl
  clear hst
  go_wp2_with (first | (at_builtin; refine Stopped.out ?_) | (at_make; refine Stopped.out ?_))
  refine Stopped.mk (apk_own EF rfl (.tmp 47) (.tmp 48) rfl rfl r0 rfl hb1 (u8_one l) (by simp only [maxLen]; have := HQ.out; show s.b0.length + m ≤ _; omega) (by have := HQ.out; show (s.b0.length + m) * 1 ≤ _; omega) (Nat.zero_le _) ?_)
  intro v' w2 o2 hg2 hv2
  rw [← List.map_append] at o2
  have o2' : w2.ownsRow 0 5 1 v' (s.b0 ++ l).length ((s.b0 ++ l).map by8) := by rw [List.length_append, hl]; exact o2
  have HF := Lib.hid (FStep.thn hkw (fun x hx => (hG1 x hx).imp id (fun h => h)) (h1.app0 hblk r1 ra k0 k1 ka o2' hg2 hv2))
  have hpb : w2.heap[p]? = _ := (hg2.block p (h1.lts p h1.mem) (fun e => (k0 p e.symm).1 rfl)).trans hblk
  have e1 := box_cell hpb 1 _ rfl
  have f1 := box_free hpb 1
  obtain ⟨A2, c2, rfl, _, _⟩ := own_sl o2'
  clear hblk r0 r1 ra o2 o2' hg2 hv2 hpb d1
  go_wp2
  go_ret
  exact ⟨rfl, by simpa [ha0, hd, hl] using HF.out⟩
set_option maxRecDepth 100000 in
set_option maxHeartbeats 800000 in
theorem flash_Append_calm1 (w : World) {p : Nat} {G : List Nat} {s : FSt} (h : Fl w p G s) (hd : s.down = false) (ha0 : s.armed = []) (hw : s.writes ≤ 4611686018427387904) (hs : s.size ≤ 1048576) {A : Option Addr} {m c : Nat} {l : List UInt8} (hb : Sl w 1 A m c (l.map by8)) (hA : ∀ ad, A = some ad → 0 < m → ad.block ∉ G) (hroom : s.b1.length + m ≤ s.size) :
    Calls Try.prog 23 #[.pointer (some ⟨p, 0, none⟩), .int .i64 1, .slice A m c] w fun e w' => e = .returned (.int .i64 0) ∧ FStep w w' p G { s with writes := s.writes + 1, b1 := s.b1 ++ l } := by
  obtain ⟨B, d, hc, sb⟩ := h.bank 1 (by decide)
  have c0 := h.cellSize
  have hl : l.length = m := by simpa using hb.len
  have HA := Lib.hid (flash_at_yes w h 1 (by decide) hd)
  have HW := Lib.hid (fun w' : World => fun (e : w = w') => (e ▸ flash_write_calm w h ha0 hw))
  have hbk : bankF s 1 = s.b1 := rfl
  rw [hbk] at hc
  have hc' : w.cell? ⟨p, 2, none⟩ = some (.slice B s.b1.length d) := hc
  obtain ⟨q, hle⟩ : ∃ q, q = s.b1.length := ⟨_, rfl⟩
  obtain ⟨z, hz⟩ : ∃ z, z = s.size := ⟨_, rfl⟩
  have HQ := Lib.hid hle
  rw [← hle] at hc' hroom
  rw [← hz] at c0 hs hroom
  have i1 : decide ((z : Int) - q < m) = false := decide_eq_false (by omega)
  clear hle hz sb hc hbk
  go_enter Try.func23, Try.ntmps23
  go_wp2_with (first | (at_builtin; refine Stopped.out ?_) | (at_make; refine Stopped.out ?_))
  refine HA.out.mono ?_
  rintro e w' ⟨rfl, rfl⟩
  go_wp2
  go_quiet (fail)
  go_wp2_with (first | (at_builtin; refine Stopped.out ?_) | (at_make; refine Stopped.out ?_))
  have hbd : Below w.heap.size w (w.drewN nq) := below_drewN (Below.refl _ _) nq
  refine (flash_write_calm _ (h.below hbd) ha0 hw).mono ?_
  rintro e w1 ⟨rfl, hst⟩
  obtain ⟨G1, h1, hk1, hG1⟩ := hst.out
  have hkw : Keep G w w1 := (Keep.of_below hbd G).trans hk1
  have hb1 := hb.keepz hkw hA
  obtain ⟨v0, v1, va, hblk, r0, r1, ra, k0, k1, ka⟩ := h1.out
  obtain ⟨A0, c0', rfl, _, _⟩ := own_sl r1
  have d1 := box_cell hblk 2 (.slice A0 s.b1.length c0') rfl
  clear hst
  go_wp2_with (first | (at_builtin; refine Stopped.out ?_) | (at_make; refine Stopped.out ?_))
  refine Stopped.mk (apk_own EF rfl (.tmp 47) (.tmp 48) rfl rfl r1 rfl hb1 (u8_one l) (by simp only [maxLen]; have := HQ.out; show s.b1.length + m ≤ _; omega) (by have := HQ.out; show (s.b1.length + m) * 1 ≤ _; omega) (Nat.zero_le _) ?_)
  intro v' w2 o2 hg2 hv2
  rw [← List.map_append] at o2
  have o2' : w2.ownsRow 0 5 1 v' (s.b1 ++ l).length ((s.b1 ++ l).map by8) := by rw [List.length_append, hl]; exact o2
  have HF := Lib.hid (FStep.thn hkw (fun x hx => (hG1 x hx).imp id (fun h => h)) (h1.app1 hblk r0 ra k0 k1 ka o2' hg2 hv2))
  have hpb : w2.heap[p]? = _ := (hg2.block p (h1.lts p h1.mem) (fun e => (k1 p e.symm).1 rfl)).trans hblk
  have e1 := box_cell hpb 2 _ rfl
  have f1 := box_free hpb 2
  obtain ⟨A2, c2, rfl, _, _⟩ := own_sl o2'
  clear hblk r0 r1 ra o2 o2' hg2 hv2 hpb d1
  go_wp2
  go_ret
  exact ⟨rfl, by simpa [ha0, hd, hl] using HF.out⟩
end Go.Proofs.Ytpjmbhhfpoamnaa
