import Derived.Test.YtikjhandhgfohaaMany
set_option linter.unusedVariables false
set_option linter.unusedSimpArgs false
namespace Go.Proofs.Ytikjhandhgfohaa
open Go.RowKit
/-- what stands apart from all rows, in the blocks of X, and is left by what leaves X -/
structure Fr (X : List Nat) (I : World → Prop) : Prop where
  keep : ∀ (M : List Nat) (w w' : World), Keep M w w' → (∀ x ∈ M, x ∉ X) → I w → I w'
def marks (mu : Nat → Nat) (j : Nat) (ls : List (List UInt8)) : Prop := ∀ (t : Nat) l, t < j → ls[t]? = some l → ∀ i, i < l.length → bt l i = mu t
structure AllX (W w : World) (T : Nat) (X : List Nat) (I : World → Prop) (z : Nat) (vz vs : List Value) (ls : List (List UInt8)) (N : Nat) : Prop where
  many : Many w T W.heap.size X vs ls
  i : I w
  below : Below W.heap.size W w
  x : ∀ x ∈ X, W.heap.size ≤ x ∧ x < w.heap.size
  sz : ∀ (j : Nat) v, vz[j]? = some v → w.cell? ⟨z, j * 11 + 10, none⟩ = some v
  zp : ∀ (i : Nat) v, vz[i]? = some v → vs[i]? = some v
  zz : ∀ (i : Nat) v b, vs[i]? = some v → v.ownBlock = some b → b ≠ z
  ml : ∀ x ∈ ls, x.length ≤ N
variable {mu : Nat → Nat} {W w w' : World} {T : Nat} {X M : List Nat} {I : World → Prop} {z : Nat} {vz vs : List Value} {ls : List (List UInt8)} {N : Nat}
theorem AllX.row (h : AllX W w T X I z vz vs ls N) (j : Nat) (hj : j < vz.length) : ∃ A c x, vs[j]? = some (.slice A x.length c) ∧ ls[j]? = some x ∧ w.ownsRow W.heap.size T 1 (.slice A x.length c) x.length (x.map by8) ∧ w.cell? ⟨z, j * 11 + 10, none⟩ = some (.slice A x.length c) ∧ x.length ≤ N := by
  have h1 : vz[j]? = some vz[j] := List.getElem?_eq_getElem hj
  have h2 := h.zp j _ h1
  obtain ⟨v, x, hv, hx, o⟩ := h.many.get j (List.getElem?_eq_some_iff.1 h2).1
  rw [h2] at hv
  obtain rfl := Option.some.inj hv
  obtain ⟨A, c, e, _⟩ := own_sl o
  rw [e] at h2 o
  have h3 := h.sz j _ h1
  rw [e] at h3
  exact ⟨A, c, x, h2, hx, o, h3, h.ml x (List.mem_of_getElem? hx)⟩
theorem AllX.then_ (h : AllX W w T X I z vz vs ls N) (F : Fr X I) (k : Below w.heap.size w w') : AllX W w' T X I z vz vs ls N :=
  ⟨h.many.below k, F.keep [] w w' (Keep.of_below k []) (by simp) h.i, bthen h.below k, fun x hx => ⟨(h.x x hx).1, Nat.lt_of_lt_of_le (h.x x hx).2 k.size⟩, fun j2 v2 hv2 => cell_below (h.sz j2 v2 hv2) k, h.zp, h.zz, h.ml⟩
/-- a byte of a row is written -/
theorem AllX.store (h : AllX W w T X I z vz vs ls N) (F : Fr X I) {j g n c : Nat} {l : List UInt8} (hv : vs[j]? = some (.slice (some ⟨g, 0, none⟩) n c)) (hl : ls[j]? = some l) (k : Nat) (x : UInt8) : AllX W (w.setCell ⟨g, k, none⟩ (by8 x)) T X I z vz vs (ls.set j (l.set k x)) N := by
  have hg := h.many.out j _ g hv rfl
  have kk : Keep [g] w (w.setCell ⟨g, k, none⟩ (by8 x)) := (Keep.refl [g] w).setCell (.inl (by simp)) _
  refine ⟨h.many.store hv hl k x, F.keep [g] _ _ kk (by simpa using hg) h.i, h.below.setCell (p := ⟨g, k, none⟩) (h.many.lt hv rfl).1 _, fun x hx => by simpa using h.x x hx, fun j2 v2 hv2 => kk.cell (h.sz j2 v2 hv2) (fun hx => ?_), h.zp, h.zz, fun r hr => ?_⟩
  · simp at hx
    exact h.zz j _ g hv rfl hx.symm
  · rcases List.mem_or_eq_of_mem_set hr with h1 | h1
    · exact h.ml r h1
    · rw [h1, List.length_set]
      exact h.ml l (List.mem_of_getElem? hl)
/-- a row is gone on with -/
theorem AllX.gone (h : AllX W w T X I z vz vs ls N) (F : Fr X I) {j : Nat} {v : Value} {l : List UInt8} (hv : vs[j]? = some v) (hl : ls[j]? = some l) (o : w'.ownsRow W.heap.size T 1 v l.length (l.map by8)) (k : Keep M w w') (hM : ∀ (i : Nat) u b, vs[i]? = some u → u.ownBlock = some b → b ∈ M → i = j) (hX : ∀ x ∈ M, x ∉ X) (hz : z ∉ M) (hB : ∀ x ∈ M, W.heap.size ≤ x) : AllX W w' T X I z vz vs ls N :=
  ⟨h.many.gone hv hl o k hM, F.keep M _ _ k hX h.i, k.below h.below h.below.size hB, fun x hx => ⟨(h.x x hx).1, Nat.lt_of_lt_of_le (h.x x hx).2 k.size⟩, fun j2 v2 hv2 => k.cell (h.sz j2 v2 hv2) hz, h.zp, h.zz, h.ml⟩
/-- a new row behind them, not among those that are looked up -/
theorem AllX.new (h : AllX W w T X I z vz vs ls N) (F : Fr X I) (k : Below w.heap.size w w') {v : Value} {l : List UInt8} (o : w'.ownsRow w.heap.size T 1 v l.length (l.map by8)) (hz : z < w.heap.size) (hl : l.length ≤ N) : AllX W w' T X I z vz (vs ++ [v]) (ls ++ [l]) N := by
  have h2 := h.then_ F k
  refine ⟨h.many.new k o (Nat.le_refl _) h.below.size (fun x hx => (h.x x hx).2), h2.i, h2.below, h2.x, h2.sz, fun i v hv => ?_, fun i u b hu hb => ?_, fun x hx => ?_⟩
  · have := h.zp i v hv
    rw [List.getElem?_append_left (List.getElem?_eq_some_iff.1 this).1]
    exact this
  · rw [List.getElem?_append] at hu
    split at hu
    · exact h.zz i u b hu hb
    · cases hq : i - vs.length with
      | zero => rw [hq] at hu; obtain rfl := Option.some.inj hu; have := (o.lt b hb).1; omega
      | succ q => rw [hq] at hu; simp at hu
  · rcases List.mem_append.1 hx with h1 | h1
    · exact h.ml x h1
    · simp at h1
      rw [h1]; exact hl

/-! ### each row is written full of its mark -/
def AllSt (mu : Nat → Nat) (W w : World) (T : Nat) (X : List Nat) (I : World → Prop) (z : Nat) (vz vs : List Value) (N j : Nat) : Prop := ∃ ls, AllX W w T X I z vz vs ls N ∧ marks mu j ls
def RowSt (mu : Nat → Nat) (W w : World) (T : Nat) (X : List Nat) (I : World → Prop) (z : Nat) (vz vs : List Value) (N j k m : Nat) : Prop := ∃ ls x, AllX W w T X I z vz vs ls N ∧ marks mu j ls ∧ ls[j]? = some x ∧ x.length = m ∧ ∀ i, i < k → bt x i = mu j
theorem AllSt.row {j : Nat} (h : AllSt mu W w T X I z vz vs N j) (hj : j < vz.length) : ∃ A m c, vs[j]? = some (.slice A m c) ∧ m ≤ N ∧ w.cell? ⟨z, j * 11 + 10, none⟩ = some (.slice A m c) ∧ RowSt mu W w T X I z vz vs N j 0 m := by
  obtain ⟨ls, h1, h2⟩ := h
  obtain ⟨A, c, x, hv, hx, o, hc, hl⟩ := h1.row j hj
  exact ⟨A, x.length, c, hv, hl, hc, ls, x, h1, h2, hx, rfl, fun i hi => by omega⟩
theorem RowSt.cell {j k m : Nat} (h : RowSt mu W w T X I z vz vs N j k m) (hj : j < vz.length) {v : Value} (hv : vs[j]? = some v) : w.cell? ⟨z, j * 11 + 10, none⟩ = some v := by
  obtain ⟨ls, x, h1, _⟩ := h
  obtain ⟨A, c, x, hv2, hx, o, hc, hl⟩ := h1.row j hj
  rw [hv] at hv2
  obtain rfl := Option.some.inj hv2
  exact hc
theorem bt_set (l : List UInt8) (k i : Nat) (x : UInt8) (hk : k < l.length) : bt (l.set k x) i = if k = i then x.toNat else bt l i := by
  unfold bt
  rw [List.getElem?_set]
  split
  · rename_i h; subst h; simp [hk]
  · rfl
theorem RowSt.store (hmu : ∀ i, mu i < 256) {j k m : Nat} (h : RowSt mu W w T X I z vz vs N j k m) (F : Fr X I) {A : Option Addr} {c : Nat} (hv : vs[j]? = some (.slice A m c)) (hk : k < m) :
    ∃ g, A = some ⟨g, 0, none⟩ ∧ (∃ v0, w.cell? ⟨g, k, none⟩ = some v0) ∧ w.frozen? ⟨g, k, none⟩ = false ∧ RowSt mu W (w.setCell ⟨g, k, none⟩ (.int .u8 (mu j : Int))) T X I z vz vs N j (k + 1) m := by
  obtain ⟨ls, x, h1, h2, hx, hl, hm⟩ := h
  have o := h1.many.own j _ _ hv hx
  rw [hl] at o
  obtain ⟨g, c', e, _⟩ := own_form o (by omega)
  injection e with e1 e2 e3
  subst e1
  obtain ⟨v0, hc0⟩ := own_cell o k (by omega)
  refine ⟨g, rfl, ⟨v0, hc0⟩, o.frozenAt k, ls.set j (x.set k (UInt8.ofNat (mu j))), x.set k (UInt8.ofNat (mu j)), ?_, fun t l ht hlt => ?_, ?_, by simpa using hl, fun i hi => ?_⟩
  · have := h1.store F hv hx k (UInt8.ofNat (mu j))
    have e3 : by8 (UInt8.ofNat (mu j)) = .int .u8 (mu j : Int) := by
      have := Nat.mod_eq_of_lt (hmu j)
      simp only [by8, UInt8.toNat_ofNat', this]
    rwa [e3] at this
  · rw [List.getElem?_set_ne (by omega)] at hlt
    exact h2 t l ht hlt
  · exact List.getElem?_set_self (List.getElem?_eq_some_iff.1 hx).1
  · rw [bt_set x k i _ (by omega)]
    split
    · simp; exact hmu j
    · exact hm i (by omega)
theorem RowSt.done {j m : Nat} (h : RowSt mu W w T X I z vz vs N j m m) : AllSt mu W w T X I z vz vs N (j + 1) := by
  obtain ⟨ls, x, h1, h2, hx, hl, hm⟩ := h
  refine ⟨ls, h1, fun t l ht hlt i hi => ?_⟩
  by_cases htj : t = j
  · subst htj
    rw [hx] at hlt
    obtain rfl := Option.some.inj hlt
    exact hm i (by omega)
  · exact h2 t l (by omega) hlt i hi
/-! ### each row is gone on with, a byte at a time -/
def TailSt (W w : World) (T : Nat) (X : List Nat) (I : World → Prop) (z : Nat) (vz vs : List Value) (ls : List (List UInt8)) (N j m B c : Nat) (vl : Value) (q : Nat) : Prop :=
  AllX W w T X I z vz vs ls N ∧ B ≤ w.heap.size ∧ (∀ (i : Nat) u b, vs[i]? = some u → u.ownBlock = some b → b < B) ∧ (∀ x ∈ X, x < B) ∧ z < B ∧
    ∃ v x, vs[j]? = some v ∧ ls[j]? = some x ∧ x.length = m ∧ w.ownsRow W.heap.size T 1 vl (m + q) ((x ++ List.replicate q (UInt8.ofNat c)).map by8) ∧ ∀ b, vl.ownBlock = some b → v.ownBlock = some b ∨ B ≤ b
theorem TailSt.start {j m c B : Nat} (h : AllX W w T X I z vz vs ls N) {v : Value} {x : List UInt8} (hv : vs[j]? = some v) (hx : ls[j]? = some x) (hm : x.length = m) (hz : z < w.heap.size) (hB : B = w.heap.size) : TailSt W w T X I z vz vs ls N j m B c v 0 := by
  subst hB
  exact ⟨h, Nat.le_refl _, fun i u b hu hb => (h.many.lt hu hb).2, fun x hx => (h.x x hx).2, hz, v, x, hv, hx, hm, by have := h.many.own j v x hv hx; rw [hm] at this; simpa using this, fun b hb => .inl hb⟩
theorem TailSt.own {j m B c q : Nat} {vl : Value} (h : TailSt W w T X I z vz vs ls N j m B c vl q) : ∃ xs, w.ownsRow W.heap.size T 1 vl (m + q) xs ∧ xs = ((ls[j]?.getD []) ++ List.replicate q (UInt8.ofNat c)).map by8 := by
  obtain ⟨h1, h2, h3, h4, h5, v, x, hv, hx, hm, o, hb⟩ := h
  exact ⟨_, o, by rw [hx]; rfl⟩
theorem TailSt.below {j m B c q : Nat} {vl : Value} (h : TailSt W w T X I z vz vs ls N j m B c vl q) (F : Fr X I) (k : Below w.heap.size w w') : TailSt W w' T X I z vz vs ls N j m B c vl q := by
  obtain ⟨h1, h2, h3, h4, h5, v, x, hv, hx, hm, o, hb⟩ := h
  exact ⟨h1.then_ F k, Nat.le_trans h2 k.size, h3, h4, h5, v, x, hv, hx, hm, own_below o k, hb⟩
theorem TailSt.step {j m B c q : Nat} {vl vl' : Value} (h : TailSt W w T X I z vz vs ls N j m B c vl q) (F : Fr X I)
    (o : w'.ownsRow W.heap.size T 1 vl' (m + q + 1) (((ls[j]?.getD []) ++ List.replicate q (UInt8.ofNat c)).map by8 ++ [by8 (UInt8.ofNat c)])) (hg : w.grownBy w' vl.ownBlock) (hb' : ∀ k, vl'.ownBlock = some k → vl.ownBlock = some k ∨ k = w.heap.size)
    (hk : ∀ (base2 : Nat) (v2 : Value) (n2 : Nat) (xs2 : List Value), n2 ≤ m + q → w.ownsRow base2 T 1 v2 n2 xs2 → w'.ownsRow base2 T 1 v2 n2 xs2) : TailSt W w' T X I z vz vs ls N j m B c vl' (q + 1) := by
  obtain ⟨h1, h2, h3, h4, h5, v, x, hv, hx, hm, o0, hb⟩ := h
  have kk : Keep vl.ownBlock.toList w w' := (Keep.refl _ w).grown hg (fun k hk => .inl (by simp [hk]))
  have hlo := fun k (hk : vl.ownBlock = some k) => (o0.lt k hk).1
  refine ⟨h1.gone F hv hx (hk _ _ _ _ (by omega) (h1.many.own j v x hv hx)) kk (fun i u b hu hb2 hM => ?_) (fun y hy hyX => ?_) (fun hzM => ?_) (fun y hy => hlo y (by simpa using hy)), Nat.le_trans h2 kk.size, h3, h4, h5, v, x, hv, hx, hm, ?_, fun b hb2 => ?_⟩
  · have h6 : vl.ownBlock = some b := by simpa using hM
    rcases hb b h6 with h7 | h7
    · exact h1.many.apart i j u v b hu hv hb2 h7
    · have := h3 i u b hu hb2; omega
  · have h6 : vl.ownBlock = some y := by simpa using hy
    rcases hb y h6 with h7 | h7
    · exact h1.many.out j v y hv h7 hyX
    · have := h4 y hyX; omega
  · have h6 : vl.ownBlock = some z := by simpa using hzM
    rcases hb z h6 with h7 | h7
    · exact h1.zz j v z hv h7 rfl
    · omega
  · rw [hx] at o
    rw [List.replicate_succ', ← List.append_assoc, List.map_append, ← Nat.add_assoc]
    exact o
  · rcases hb' b hb2 with h6 | h6
    · exact hb b h6
    · exact .inr (by omega)
theorem TailSt.done {j m B c q : Nat} {vl : Value} (h : TailSt W w T X I z vz vs ls N j m B c vl q) (hq : 0 < q) : ∃ g cp, vl = .slice (some ⟨g, 0, none⟩) (m + q) cp ∧ m + q ≤ cp ∧ Sl w 1 (some ⟨g, m, none⟩) q (cp - m) ((List.replicate q (UInt8.ofNat c)).map by8) := by
  obtain ⟨h1, h2, h3, h4, h5, v, x, hv, hx, hm, o, hb⟩ := h
  obtain ⟨g, cp, rfl, _, _, hc⟩ := own_form o (by omega)
  refine ⟨g, cp, rfl, hc, ?_⟩
  have := own_drop o m (by omega)
  rw [List.map_append, List.drop_left' (by simpa using hm), Nat.add_sub_cancel_left] at this
  exact this
theorem AllX.short {la lm : List (List UInt8)} {va : List Value} {v : Value} {x : List UInt8} {w0 : World} (h : AllX W w T X I z vz va la N) (hva : va = vs ++ [v]) (hla : la = lm ++ [x]) (h0 : AllX W w0 T X I z vz vs lm N) : AllX W w T X I z vz vs lm N := by
  subst hva; subst hla
  have hl := h0.many.len
  have up : ∀ (i : Nat) u, vs[i]? = some u → (vs ++ [v])[i]? = some u := fun i u hu => by rw [List.getElem?_append_left (List.getElem?_eq_some_iff.1 hu).1]; exact hu
  refine ⟨⟨hl, fun i u r hu hr => h.many.own i u r (up i u hu) (by rw [List.getElem?_append_left (List.getElem?_eq_some_iff.1 hr).1]; exact hr), fun i j u u2 k hu hu2 => h.many.apart i j u u2 k (up i u hu) (up j u2 hu2), fun i u k hu => h.many.out i u k (up i u hu)⟩, h.i, h.below, h.x, h.sz, h0.zp, h0.zz, h0.ml⟩
theorem AllX.zlt (h : AllX W w T X I z vz vs ls N) (h0 : 0 < vz.length) : z < w.heap.size := cell_lt (h.sz 0 _ (List.getElem?_eq_getElem h0))
/-- the row of marks behind them all -/
theorem AllX.markRow (h : AllX W w T X I z vz vs ls N) {j : Nat} {v : Value} (hv : vs[j]? = some v) {n : Nat} {c : UInt8} (hl : ls[j]? = some (List.replicate n c)) (h0 : 0 < n) : ∃ g cp, v = .slice (some ⟨g, 0, none⟩) n cp ∧ n ≤ cp ∧ Sl w 1 (some ⟨g, 0, none⟩) n cp ((List.replicate n c).map by8) ∧ ∀ k, k < n → w.cell? ⟨g, k, none⟩ = some (by8 c) := by
  have o := h.many.own j v _ hv hl
  rw [List.length_replicate] at o
  obtain ⟨g, cp, rfl, _, _, hc⟩ := own_form o h0
  have s := (own_sl' o).2.1
  refine ⟨g, cp, rfl, hc, s, fun k hk => ?_⟩
  have := s.cell k (by simpa using hk)
  simpa using this
theorem AllX.cellOf {j : Nat} (h : AllX W w T X I z vz vs ls N) (hj : j < vz.length) {v : Value} (hv : vs[j]? = some v) : w.cell? ⟨z, j * 11 + 10, none⟩ = some v := by
  obtain ⟨A, c, x, hv2, hx, o, hc, hl⟩ := h.row j hj
  rw [hv] at hv2
  obtain rfl := Option.some.inj hv2
  exact hc
theorem TailSt.x {j m B c q : Nat} {vl : Value} (h : TailSt W w T X I z vz vs ls N j m B c vl q) : AllX W w T X I z vz vs ls N := h.1
end Go.Proofs.Ytikjhandhgfohaa
