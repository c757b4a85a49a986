import Derived.Test.YtdooabbeolfgfaaPl01g
set_option linter.unusedVariables false
set_option linter.unusedSimpArgs false
namespace Go.Proofs.Ytdooabbeolfgfaa
open Go.RowKit
/-! ### the lists of a join: as they came in, in memory of their own with marks behind them, and the copies -/
structure Raws (W w : World) (r n c : Nat) (vs : List Value) (R : List (List UInt8)) : Prop where
  row : Sl w 1 (some ⟨r, 0, none⟩) n c vs
  len : R.length = n
  at_ : ∀ (i : Nat) (l : List UInt8), R[i]? = some l → ∃ a m c, vs[i]? = some (.slice a m c) ∧ Sl W 1 a m c (l.map by8) ∧ m ≤ 140737488351232
variable {W w w' : World} {r n c : Nat} {vs : List Value} {R : List (List UInt8)} {M : List Nat}
theorem Raws.sls (h : Raws W w r n c vs R) (hb : Below W.heap.size W w) : Sls w (some ⟨r, 0, none⟩) n c vs R := ⟨h.row, h.len, fun i l hl => by
  obtain ⟨a, m, c, h1, h2, h3⟩ := h.at_ i l hl
  exact ⟨a, m, c, h1, h2.below hb, h3⟩⟩
theorem Raws.keep (h : Raws W w r n c vs R) (k : Keep M w w') (hr : r ∉ M) : Raws W w' r n c vs R := ⟨h.row.keep k (fun ad e => by obtain rfl := Option.some.inj e; exact hr), h.len, h.at_⟩
theorem Raws.below (h : Raws W w r n c vs R) (k : Below w.heap.size w w') : Raws W w' r n c vs R := h.keep (Keep.of_below k []) (by simp)
theorem Raws.get (h : Raws W w r n c vs R) (j : Nat) (hj : j < n) : ∃ a m d l, R[j]? = some l ∧ w.cell? ⟨r, j, none⟩ = some (.slice a m d) ∧ Sl W 1 a m d (l.map by8) ∧ l.length = m := by
  have e := List.getElem?_eq_getElem (show j < R.length by rw [h.len]; exact hj)
  obtain ⟨a, m, d, h1, h2, h3⟩ := h.at_ j _ e
  obtain ⟨hk2, h4⟩ := List.getElem?_eq_some_iff.1 h1
  have hc := h.row.cell j hk2
  rw [Nat.zero_add, h4] at hc
  exact ⟨a, m, d, _, e, hc, h2, by have := h2.len; simpa using this⟩
/-- a row's content is another one -/
theorem Many.other {w w' : World} {T B : Nat} {X M : List Nat} {vs : List Value} {ls : List (List UInt8)} (h : Many w T B X vs ls) {j : Nat} {v : Value} {l l' : List UInt8} (hv : vs[j]? = some v) (hl : ls[j]? = some l) (o : w'.ownsRow B T 1 v l'.length (l'.map by8)) (k : Keep M w w') (hM : ∀ (i : Nat) u b, vs[i]? = some u → u.ownBlock = some b → b ∈ M → i = j) : Many w' T B X vs (ls.set j l') := by
  have hj : j < ls.length := (List.getElem?_eq_some_iff.1 hl).1
  refine ⟨by simp [h.len], fun i u q hu hq => ?_, h.apart, h.out⟩
  by_cases hij : i = j
  · subst hij
    rw [hv] at hu
    obtain rfl := Option.some.inj hu
    rw [List.getElem?_set_self hj] at hq
    obtain rfl := Option.some.inj hq
    exact o
  · rw [List.getElem?_set_ne (fun e => hij e.symm)] at hq
    exact k.own (h.own i u q hu hq) (fun b hb hx => hij (hM i u b hu hb hx))
structure Giv (w : World) (B C : Nat) (vF vG : Value) (fs gs : List Value) (Fl R : List (List UInt8)) : Prop where
  many : Many w 5 B [] fs Fl
  lenG : gs.length = fs.length
  lenR : R.length = fs.length
  ownF : w.ownsRow B 24 1 vF fs.length fs
  ownG : w.ownsRow B 24 1 vG fs.length gs
  apart : ∀ b, vF.ownBlock = some b → vG.ownBlock ≠ some b
  form : ∀ (i : Nat) f l, Fl[i]? = some f → R[i]? = some l → f.length = l.length + 70 ∧ f.take l.length = l ∧ ∃ g c, fs[i]? = some (.slice (some ⟨g, 0, none⟩) (l.length + 70) c) ∧ gs[i]? = some (.slice (some ⟨g, 0, none⟩) l.length c)
  hiF : ∀ b, vF.ownBlock = some b → b < C
  hiG : ∀ b, vG.ownBlock = some b → b < C
  hi : ∀ (i : Nat) v b, fs[i]? = some v → v.ownBlock = some b → b < C
variable {B C : Nat} {vF vG : Value} {fs gs : List Value} {Fl : List (List UInt8)}
theorem Giv.start (w : World) (B C : Nat) : Giv w B C (.slice none 0 0) (.slice none 0 0) [] [] [] [] :=
  ⟨Many.nil _ _ _ _, rfl, rfl, World.ownsRow_nil .., World.ownsRow_nil .., fun b hb => (by cases hb), fun i f l hf => (by simp at hf), fun b hb => (by cases hb), fun b hb => (by cases hb), fun i v b hv => (by simp at hv)⟩
theorem Giv.keep (h : Giv w B C vF vG fs gs Fl R) (k : Keep M w w') (hM : ∀ x ∈ M, x < B ∨ C ≤ x) : Giv w' B C vF vG fs gs Fl R :=
  ⟨h.many.keep k (fun i v b hv hb hx => by have h1 := (h.many.lt hv hb).1; have h2 := h.hi i v b hv hb; have := hM b hx; omega), h.lenG, h.lenR,
    k.own h.ownF (fun b hb hx => by have h1 := (h.ownF.lt b hb).1; have h2 := h.hiF b hb; have := hM b hx; omega),
    k.own h.ownG (fun b hb hx => by have h1 := (h.ownG.lt b hb).1; have h2 := h.hiG b hb; have := hM b hx; omega), h.apart, h.form, h.hiF, h.hiG, h.hi⟩
theorem Giv.below (h : Giv w B C vF vG fs gs Fl R) (k : Below w.heap.size w w') : Giv w' B C vF vG fs gs Fl R := h.keep (Keep.of_below k []) (by simp)
theorem Giv.row (h : Giv w B C vF vG fs gs Fl R) (i : Nat) (hi : i < fs.length) : ∃ f l g c, Fl[i]? = some f ∧ R[i]? = some l ∧ f.length = l.length + 70 ∧ f.take l.length = l ∧ fs[i]? = some (.slice (some ⟨g, 0, none⟩) (l.length + 70) c) ∧ gs[i]? = some (.slice (some ⟨g, 0, none⟩) l.length c) ∧
    w.ownsRow B 5 1 (.slice (some ⟨g, 0, none⟩) (l.length + 70) c) (l.length + 70) (f.map by8) ∧ Sl w 1 (some ⟨g, 0, none⟩) l.length c (l.map by8) ∧ B ≤ g ∧ g < C := by
  have e1 := List.getElem?_eq_getElem (show i < Fl.length by rw [← h.many.len]; exact hi)
  have e2 := List.getElem?_eq_getElem (show i < R.length by rw [h.lenR]; exact hi)
  obtain ⟨h1, h2, g, c, h3, h4⟩ := h.form i _ _ e1 e2
  have o := h.many.own i _ _ h3 e1
  have hs := ((own_sl' (h1 ▸ o)).2.1).preL (m := (R[i]'(by rw [h.lenR]; exact hi)).length) (by omega)
  rw [h2] at hs
  exact ⟨_, _, g, c, e1, e2, h1, h2, h3, h4, h1 ▸ o, hs, (o.lt g rfl).1, h.hi i _ g h3 rfl⟩
theorem Giv.sls (h : Giv w B C vF vG fs gs Fl R) (hn : fs.length = n) (h0 : 0 < n) (hm : ∀ l ∈ R, l.length ≤ 4096) : ∃ b c, vG = .slice (some ⟨b, 0, none⟩) n c ∧ Sls w (some ⟨b, 0, none⟩) n c gs R ∧ n ≤ c ∧ c ≤ 9223372036854775807 ∧ B ≤ b ∧ b < C := by
  subst hn
  obtain ⟨b, c, rfl, h1, h2, h3⟩ := own_form h.ownG h0
  have s := (own_sl' h.ownG).2.1
  refine ⟨b, c, rfl, ⟨s, h.lenR, fun i l hl => ?_⟩, h3, s.max, h1, h.hiG b rfl⟩
  obtain ⟨f, l', g, d, _, e2, _, _, _, e6, _, e8, _⟩ := h.row i (by rw [← h.lenR]; exact (List.getElem?_eq_some_iff.1 hl).1)
  rw [hl] at e2
  obtain rfl := Option.some.inj e2
  exact ⟨_, _, _, e6, e8, by have := hm l (List.mem_of_getElem? hl); omega⟩
theorem Giv.formF (h : Giv w B C vF vG fs gs Fl R) (hn : fs.length = n) (h0 : 0 < n) : ∃ b c, vF = .slice (some ⟨b, 0, none⟩) n c ∧ n ≤ c ∧ c ≤ 9223372036854775807 ∧ Sl w 1 (some ⟨b, 0, none⟩) n c fs ∧ B ≤ b ∧ b < C := by
  subst hn
  obtain ⟨b, c, rfl, h1, h2, h3⟩ := own_form h.ownF h0
  have s := (own_sl' h.ownF).2.1
  exact ⟨b, c, rfl, h3, s.max, s, h1, h.hiF b rfl⟩
theorem cell_at {w : World} {b n c : Nat} {vs : List Value} (s : Sl w 1 (some ⟨b, 0, none⟩) n c vs) {i : Nat} {v : Value} (h : vs[i]? = some v) : w.cell? ⟨b, i, none⟩ = some v := by
  obtain ⟨h1, h2⟩ := List.getElem?_eq_some_iff.1 h
  have := s.cell i h1
  rw [Nat.zero_add, h2] at this
  exact this
/-- one more list: its memory is new, and both rows are gone on with -/
theorem Giv.snoc (h : Giv w B C vF vG fs gs Fl R) (hB : B ≤ w.heap.size) (hC : C ≤ w.heap.size) {wa w3 wb w4 : World} (ha : Below w.heap.size w wa) {vF' vG' : Value} {g c m : Nat} {f l : List UInt8}
    (o : wa.ownsRow w.heap.size 5 1 (.slice (some ⟨g, 0, none⟩) (m + 70) c) (m + 70) (f.map by8)) (hl : l.length = m) (hf : f.length = l.length + 70) (hfl : f.take l.length = l)
    (oF : w3.ownsRow B 24 1 vF' (fs.length + 1) (fs ++ [.slice (some ⟨g, 0, none⟩) (m + 70) c])) (g3 : wa.grownBy w3 vF.ownBlock) (lF : ∀ k, vF'.ownBlock = some k → vF.ownBlock = some k ∨ k = wa.heap.size) (hb : Below w3.heap.size w3 wb)
    (oG : w4.ownsRow B 24 1 vG' (fs.length + 1) (gs ++ [.slice (some ⟨g, 0, none⟩) m c])) (g4 : wb.grownBy w4 vG.ownBlock) (lG : ∀ k, vG'.ownBlock = some k → vG.ownBlock = some k ∨ k = wb.heap.size) (hT : (24 : Nat) ≠ 5) :
    Giv w4 B w4.heap.size vF' vG' (fs ++ [.slice (some ⟨g, 0, none⟩) (m + 70) c]) (gs ++ [.slice (some ⟨g, 0, none⟩) m c]) (Fl ++ [f]) (R ++ [l]) ∧ Keep (vF.ownBlock.toList ++ vG.ownBlock.toList) w w4 := by
  subst hl
  have hbF : ∀ b, vF.ownBlock = some b → b < w.heap.size := fun b hb => (h.ownF.lt b hb).2
  have hbG : ∀ b, vG.ownBlock = some b → b < w.heap.size := fun b hb => (h.ownG.lt b hb).2
  have k3 : Keep vF.ownBlock.toList wa w3 := (Keep.refl _ _).grown g3 (fun k hk => .inl ((tl _ _).2 hk))
  have k4 : Keep vG.ownBlock.toList wb w4 := (Keep.refl _ _).grown g4 (fun k hk => .inl ((tl _ _).2 hk))
  have kb := Keep.of_below hb []
  have kw : Keep (vF.ownBlock.toList ++ vG.ownBlock.toList) w w4 :=
    ((((Keep.of_below ha (vF.ownBlock.toList ++ vG.ownBlock.toList)).trans' k3 (fun x hx => .inl (List.mem_append_left _ hx)))).trans' kb (by simp)).trans' k4 (fun x hx => .inl (List.mem_append_right _ hx))
  have s1 := ha.size; have s2 := k3.size; have s3 := hb.size; have s4 := k4.size
  have oF4 : w4.ownsRow B 24 1 vF' (fs.length + 1) (fs ++ [.slice (some ⟨g, 0, none⟩) (l.length + 70) c]) := k4.own (own_below oF hb) (fun b hb2 hx => by
    rw [tl] at hx
    rcases lF b hb2 with h1 | h1
    · exact h.apart b h1 hx
    · have := hbG b hx; omega)
  have o4 : w4.ownsRow B 5 1 (.slice (some ⟨g, 0, none⟩) (l.length + 70) c) (f.length) (f.map by8) := by
    rw [hf]
    refine own_mono (k4.own (own_below (k3.own o (fun b hb2 hx => ?_)) hb) (fun b hb2 hx => ?_)) hB
    · rw [tl] at hx
      have h5 := (o.lt b hb2).1
      have := hbF b hx; omega
    · rw [tl] at hx
      have h5 := (o.lt b hb2).1
      have := hbG b hx; omega
  have mk : Many w4 5 B [] fs Fl := h.many.keep kw (fun i v b hv hb2 hx => by
    obtain ⟨v', l', e1, e2, e3⟩ := h.many.get i (List.getElem?_eq_some_iff.1 hv).1
    rw [hv] at e1
    obtain rfl := Option.some.inj e1
    rw [List.mem_append, tl, tl] at hx
    rcases hx with h1 | h1
    · exact own_types' h.ownF e3 hT h1 hb2
    · exact own_types' h.ownG e3 hT h1 hb2)
  have hlen : (fs ++ [Value.slice (some ⟨g, 0, none⟩) (l.length + 70) c]).length = fs.length + 1 := by simp
  refine ⟨⟨mk.snoc o4 (fun i u b hu hb2 e => ?_) (by simp), by simp [h.lenG], by simp [h.lenR], by rw [hlen]; exact oF4, by rw [hlen]; exact oG, fun b h1 h2 => ?_, fun i f' l' hf' hl' => ?_, fun b hb2 => (oF4.lt b hb2).2, fun b hb2 => (oG.lt b hb2).2, fun i v b hv hb2 => ?_⟩, kw⟩
  · have h5 := (h.many.lt hu hb2).2
    have h6 := (o.lt b e).1
    omega
  · rcases lF b h1 with h3 | h3 <;> rcases lG b h2 with h4 | h4
    · exact h.apart b h3 h4
    · have := hbF b h3; omega
    · have := hbG b h4; omega
    · have := (oF.lt b h1).2; omega
  · rw [List.getElem?_append] at hf' hl'
    rw [← h.many.len] at hf'
    rw [h.lenR] at hl'
    split at hf'
    · rename_i h1
      rw [if_pos h1] at hl'
      obtain ⟨q1, q2, g', c', q3, q4⟩ := h.form i f' l' hf' hl'
      exact ⟨q1, q2, g', c', by rw [List.getElem?_append_left h1]; exact q3, by rw [List.getElem?_append_left (by rw [h.lenG]; exact h1)]; exact q4⟩
    · rename_i h1
      rw [if_neg h1] at hl'
      cases hq : i - fs.length with
      | zero =>
        rw [hq] at hf' hl'
        obtain rfl := Option.some.inj hf'; obtain rfl := Option.some.inj hl'
        have e : i = fs.length := by omega
        subst e
        exact ⟨hf, hfl, g, c, by simp, by rw [← h.lenG]; simp⟩
      | succ q => rw [hq] at hf'; simp at hf'
  · rw [List.getElem?_append] at hv
    split at hv
    · have := (h.many.lt hv hb2).2; have := kw.size; omega
    · cases hq : i - fs.length with
      | zero => rw [hq] at hv; obtain rfl := Option.some.inj hv; exact (o4.lt b hb2).2
      | succ q => rw [hq] at hv; simp at hv
/-- one of the lists is written over in its place -/
theorem Giv.turned (h : Giv w B C vF vG fs gs Fl R) {i : Nat} {g c : Nat} {f l L' : List UInt8} (hf : Fl[i]? = some f) (hl : R[i]? = some l) (hfs : fs[i]? = some (.slice (some ⟨g, 0, none⟩) (l.length + 70) c)) (hL : L'.length = l.length + 70)
    (o : w'.ownsRow B 5 1 (.slice (some ⟨g, 0, none⟩) (l.length + 70) c) (l.length + 70) (L'.map by8)) (k : Keep [g] w w') (hT : (24 : Nat) ≠ 5) : Giv w' B C vF vG fs gs (Fl.set i L') (R.set i (L'.take l.length)) := by
  obtain ⟨q1, q2, g', c', q3, q4⟩ := h.form i f l hf hl
  have hif : i < Fl.length := (List.getElem?_eq_some_iff.1 hf).1
  have hil : i < R.length := (List.getElem?_eq_some_iff.1 hl).1
  have og := h.many.own i _ _ hfs hf
  refine ⟨h.many.other hfs hf (by rw [hL]; exact o) k (fun j u b hu hb hx => ?_), h.lenG, by simp [h.lenR], k.own h.ownF (fun b hb hx => ?_), k.own h.ownG (fun b hb hx => ?_), h.apart, fun j f' l' hf' hl' => ?_, h.hiF, h.hiG, h.hi⟩
  · simp at hx
    subst hx
    exact h.many.apart j i u _ b hu hfs hb rfl
  · simp at hx
    subst hx
    exact own_types' h.ownF og hT hb rfl
  · simp at hx
    subst hx
    exact own_types' h.ownG og hT hb rfl
  · by_cases hij : j = i
    · subst hij
      rw [List.getElem?_set_self hif] at hf'
      rw [List.getElem?_set_self hil] at hl'
      obtain rfl := Option.some.inj hf'; obtain rfl := Option.some.inj hl'
      have e : (L'.take l.length).length = l.length := by rw [List.length_take]; omega
      rw [e]
      exact ⟨hL, rfl, g', c', q3, q4⟩
    · rw [List.getElem?_set_ne (fun e => hij e.symm)] at hf' hl'
      exact h.form j f' l' hf' hl'
/-- copies -/
structure Oth (w : World) (D : Nat) (vO : Value) (os : List Value) (Q : List (List UInt8)) : Prop where
  many : Many w 5 D [] os Q
  own : w.ownsRow D 24 1 vO os.length os
theorem flat_same : ∀ (R R' : List (List UInt8)), R'.map List.length = R.map List.length → R'.flatten.length = R.flatten.length := fun R R' h => by rw [List.length_flatten, List.length_flatten, h]
theorem le_flat {R : List (List UInt8)} {l : List UInt8} (h : l ∈ R) : l.length ≤ R.flatten.length := by
  induction R with
  | nil => simp at h
  | cons x R ih =>
    rw [List.flatten_cons, List.length_append]
    rcases List.mem_cons.1 h with rfl | h1
    · omega
    · have := ih h1; omega
variable {D : Nat} {vO : Value} {os : List Value} {Q : List (List UInt8)}
theorem Oth.start (w : World) (D : Nat) : Oth w D (.slice none 0 0) [] [] := ⟨Many.nil _ _ _ _, World.ownsRow_nil ..⟩
theorem Oth.keep (h : Oth w D vO os Q) (k : Keep M w w') (hM : ∀ x ∈ M, x < D) : Oth w' D vO os Q :=
  ⟨h.many.keep k (fun i v b hv hb hx => by have h1 := (h.many.lt hv hb).1; have := hM b hx; omega), k.own h.own (fun b hb hx => by have h1 := (h.own.lt b hb).1; have := hM b hx; omega)⟩
theorem Oth.below (h : Oth w D vO os Q) (k : Below w.heap.size w w') : Oth w' D vO os Q := h.keep (Keep.of_below k []) (by simp)
theorem Oth.snoc (h : Oth w D vO os Q) (hD : D ≤ w.heap.size) {wa w3 : World} (ha : Below w.heap.size w wa) {v vO' : Value} {l : List UInt8} {m : Nat} (o : wa.ownsRow w.heap.size 5 1 v m (l.map by8)) (hl : l.length = m)
    (oO : w3.ownsRow D 24 1 vO' (os.length + 1) (os ++ [v])) (g3 : wa.grownBy w3 vO.ownBlock) (hT : (24 : Nat) ≠ 5) : Oth w3 D vO' (os ++ [v]) (Q ++ [l]) := by
  subst hl
  have k3 : Keep vO.ownBlock.toList wa w3 := (Keep.refl _ _).grown g3 (fun k hk => .inl ((tl _ _).2 hk))
  have kw : Keep vO.ownBlock.toList w w3 := (Keep.of_below ha _).trans k3
  have mk : Many w3 5 D [] os Q := h.many.keep kw (fun i v b hv hb2 hx => by
    obtain ⟨v', l', e1, e2, e3⟩ := h.many.get i (List.getElem?_eq_some_iff.1 hv).1
    rw [hv] at e1
    obtain rfl := Option.some.inj e1
    rw [tl] at hx
    exact own_types' h.own e3 hT hx hb2)
  have o3 := k3.own o (fun b hb hx => by rw [tl] at hx; have h1 := (o.lt b hb).1; have h2 := (h.own.lt b hx).2; omega)
  refine ⟨mk.snoc (own_mono o3 hD) (fun i u b hu hb e => ?_) (by simp), by simpa using oO⟩
  have h5 := (h.many.lt hu hb).2
  have h6 := (o3.lt b e).1
  omega
theorem Oth.sls (h : Oth w D vO os Q) (hn : os.length = n) (hm : ∀ l ∈ Q, l.length ≤ 4096) : ∃ A c, vO = .slice A n c ∧ Sls w A n c os Q ∧ n ≤ c ∧ c ≤ 9223372036854775807 := by
  subst hn
  obtain ⟨A, c, rfl, s, _⟩ := own_sl h.own
  refine ⟨A, c, rfl, ⟨s, h.many.len.symm, fun i l hl => ?_⟩, s.le, s.max⟩
  obtain ⟨v, l', e1, e2, o⟩ := h.many.get i (by rw [h.many.len]; exact (List.getElem?_eq_some_iff.1 hl).1)
  rw [hl] at e2
  obtain rfl := Option.some.inj e2
  obtain ⟨A, c, rfl, s, _⟩ := own_sl o
  exact ⟨_, _, _, e1, s, by have := hm l (List.mem_of_getElem? hl); omega⟩
end Go.Proofs.Ytdooabbeolfgfaa
