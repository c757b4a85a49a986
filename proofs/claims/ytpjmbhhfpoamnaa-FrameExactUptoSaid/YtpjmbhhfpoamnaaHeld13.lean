import Derived.Test.YtpjmbhhfpoamnaaShelfPut
set_option linter.unusedVariables false
set_option linter.unusedSimpArgs false
namespace Go.Proofs.Ytpjmbhhfpoamnaa
open Go.RowKit
def muH (i : Nat) : Nat := (2 * i + 1) % 256
theorem muH_lt (i : Nat) : muH i < 256 := Nat.mod_lt _ (by decide)
variable {W w w' w0 w1 wa w2 : World} {T L p : Nat} {X M G : List Nat} {I : World → Prop} {z : Nat} {vz vs us ws : List Value} {ls : List (List UInt8)} {N B j m : Nat} {vl vl' vx v : Value}
/-- the shelf laid open: its cells, and each of its rows -/
theorem Shf.open_ (h : Shf W w p G vs ws ls N) : ∃ AL cL AW cW, w.heap[p]? = some (.cells #[.slice AL vs.length cL, .slice AW vs.length cW] 90 (0, 0)) ∧
    (∀ j, j < vs.length → ∃ z zw A c A' c' x, AL = some ⟨z, 0, none⟩ ∧ AW = some ⟨zw, 0, none⟩ ∧ w.cell? ⟨z, j, none⟩ = some (.slice A x.length c) ∧ w.cell? ⟨zw, j, none⟩ = some (.slice A' x.length c') ∧ ls[j]? = some x ∧ Sl w 1 A x.length c (x.map by8) ∧ Sl w 1 A' x.length c' (x.map by8)) ∧
    ∃ z, (0 < vs.length → AL = some ⟨z, 0, none⟩) ∧ AllX W w 5 [p] (fun w => w.heap[p]? = some (.cells #[.slice AL vs.length cL, .slice AW vs.length cW] 90 (0, 0))) z vs vs ls N := by
  obtain ⟨vL, vW, hb, oL, oW, g1, g2, g3, g4⟩ := h.out
  have hwl : ws.length = vs.length := by rw [h.wl, h.many.len]
  rw [hwl] at oW
  obtain ⟨AL, cL, rfl, sL, hAL⟩ := own_sl oL
  obtain ⟨AW, cW, rfl, sW, hAW⟩ := own_sl oW
  have form : ∀ {AL : Option Addr} {cL : Nat} {us : List Value}, w.ownsRow W.heap.size 22 1 (.slice AL vs.length cL) vs.length us → 0 < vs.length → ∃ z, AL = some ⟨z, 0, none⟩ := fun o h0 => by
    obtain ⟨g, c, e, _⟩ := own_form o h0
    injection e with e1 _ _
    exact ⟨g, e1⟩
  refine ⟨AL, cL, AW, cW, hb, fun j hj => ?_, ?_⟩
  · obtain ⟨z, rfl⟩ := form oL (by omega)
    obtain ⟨zw, rfl⟩ := form oW (by omega)
    obtain ⟨v, x, hv, hx, o⟩ := h.many.get j hj
    obtain ⟨A, c, rfl, s, _⟩ := own_sl o
    obtain ⟨A', c', e, s', _⟩ := g4 j x hx
    have c1 := sL.cell j hj
    have c2 := sW.cell j (by omega)
    have e1 : vs[j] = .slice A x.length c := by have := (List.getElem?_eq_some_iff.1 hv).2; exact this
    have e2 : ws[j]'(by omega) = .slice A' x.length c' := (List.getElem?_eq_some_iff.1 e).2
    rw [e1, Nat.zero_add] at c1
    rw [e2, Nat.zero_add] at c2
    exact ⟨z, zw, A, c, A', c', x, rfl, rfl, c1, c2, hx, s, s'⟩
  · have hx : ∀ (i : Nat) u b, vs[i]? = some u → u.ownBlock = some b → b ∉ [p] := fun i u b hu hb hp => (g3 i u b hu hb).2.1 (by simpa using hp)
    have hm : Many w 5 W.heap.size [p] vs ls := ⟨h.many.len, h.many.own, h.many.apart, hx⟩
    by_cases h0 : 0 < vs.length
    · obtain ⟨z, rfl⟩ := form oL h0
      refine ⟨z, fun _ => rfl, hm, hb, h.below, fun x hx => by simp at hx; rw [hx]; exact ⟨h.pl, h.lts p h.mem⟩, ?_, fun i v h => h, fun i u b hu hbk e => ?_, h.ml⟩
      · exact ⟨sL.len, Nat.le_refl _, Nat.le_trans sL.le sL.max, (fun e => by cases e), sL.at_⟩
      · subst e
        exact (g3 i u b hu hbk).2.2.1 rfl
    · have e0 : vs = [] := List.eq_nil_of_length_eq_zero (by omega)
      refine ⟨0, fun h1 => absurd h1 h0, hm, hb, h.below, fun x hx => by simp at hx; rw [hx]; exact ⟨h.pl, h.lts p h.mem⟩, ?_, fun i v h => h, fun i u b hu hb e => ?_, h.ml⟩
      · rw [e0]
        exact ⟨by simp, Nat.le_refl _, by decide, (fun e => by cases e), fun ad _ hp => by simp at hp⟩
      · rw [e0] at hu; simp at hu
theorem AllX.keepAll (h : AllX W w T X I z vz vs ls N) (F : Fr X I) (k : Keep M w w') (hM : ∀ (i : Nat) u b, vs[i]? = some u → u.ownBlock = some b → b ∉ M) (hX : ∀ x ∈ M, x ∉ X) (hz : z ∉ M) (hB : ∀ x ∈ M, W.heap.size ≤ x) : AllX W w' T X I z vz vs ls N :=
  ⟨h.many.keep k hM, F.keep M _ _ k hX h.i, k.below h.below h.below.size hB, fun x hx => ⟨(h.x x hx).1, Nat.lt_of_lt_of_le (h.x x hx).2 k.size⟩, h.sz.keep k (fun ad e => by obtain rfl := Option.some.inj e; exact hz), h.zp, h.zz, h.ml⟩
theorem TailSt.keep {c q : Nat} {w3 : World} (h : TailSt W wa T X I z vz vs ls N j m w0.heap.size c vl q) (hb : Below w1.heap.size w1 wa) (k : Keep v.ownBlock.toList w0 w1) (hv : vs[j]? = some v) (hg : wa.grownBy w3 vl.ownBlock) : Keep v.ownBlock.toList w0 w3 := by
  obtain ⟨_, _, _, _, _, v', x, hv', _, _, _, hvx⟩ := h
  rw [hv] at hv'
  obtain rfl := Option.some.inj hv'
  refine (k.trans (Keep.of_below hb _)).grown hg (fun b e => ?_)
  rcases hvx b e with h1 | h1
  · exact .inl (by simp [h1])
  · exact .inr h1
/-- the rows that were gone on with, and the list that holds them -/
structure LongSt (W w : World) (T L : Nat) (X : List Nat) (I : World → Prop) (z : Nat) (vs : List Value) (ls : List (List UInt8)) (N B : Nat) (us : List Value) (vl : Value) : Prop where
  x : AllX W w T X I z vs vs ls N
  hB : B ≤ w.heap.size
  hv : ∀ (i : Nat) u b, vs[i]? = some u → u.ownBlock = some b → b < B
  hX : ∀ x ∈ X, x < B
  hz : 0 < vs.length → z < B
  hW : W.heap.size ≤ B
  row : w.ownsRow B L 1 vl us.length us
  out : ∃ xs, Many w T W.heap.size [] us xs ∧ (∀ i, i < us.length → ∃ x, ls[i]? = some x ∧ xs[i]? = some (x ++ List.replicate 70 0)) ∧ ∀ (i : Nat) u b, us[i]? = some u → u.ownBlock = some b → b < B → ∃ v, vs[i]? = some v ∧ v.ownBlock = some b
theorem LongSt.start (h : AllX W w T X I z vs vs ls N) (hz : 0 < vs.length → z < w.heap.size) : LongSt W w T L X I z vs ls N w.heap.size [] (.slice none 0 0) :=
  ⟨h, Nat.le_refl _, fun i u b hu hb => (h.many.lt hu hb).2, fun x hx => (h.x x hx).2, hz, h.below.size, World.ownsRow_nil .., [], Many.nil .., fun i hi => by simp at hi, fun i u b hu => by simp at hu⟩
theorem LongSt.rowAt (h : LongSt W w0 T L X I z vs ls N B us vl) (hju : us.length = j) (hv : vs[j]? = some v) (k : Keep v.ownBlock.toList w0 w1) : w1.ownsRow B L 1 vl j us := by
  subst hju
  exact k.own h.row (fun b hb2 hx2 => by
    have e : v.ownBlock = some b := by simpa using hx2
    have := h.hv _ _ b hv e
    have := (h.row.lt b hb2).1
    omega)
theorem LongSt.step (hT : T ≠ L) (h : LongSt W w0 T L X I z vs ls N B us vl) (F : Fr X I) (hju : us.length = j) (hj : j < vs.length) (hv : vs[j]? = some v) (t : TailSt W w1 T X I z vs vs ls N j m w0.heap.size 0 vx 70) (k : Keep v.ownBlock.toList w0 w1) (ka : Below w1.heap.size w1 wa)
    (o : w2.ownsRow B L 1 vl' (j + 1) (us ++ [vx])) (hg : wa.grownBy w2 vl.ownBlock) : LongSt W w2 T L X I z vs ls N B (us ++ [vx]) vl' := by
  subst hju
  obtain ⟨xs, hm, hx, hb⟩ := h.out
  obtain ⟨t1, t2, t3, t4, t5, v', x, hv', hlx, hlm, ox, hvx⟩ := t
  rw [hv] at hv'
  obtain rfl := Option.some.inj hv'
  have hXa := t1.then_ F ka
  have hvb : ∀ b, v.ownBlock = some b → b < B := fun b hb => h.hv _ _ b hv hb
  have hus : ∀ (i : Nat) u b, us[i]? = some u → u.ownBlock = some b → b ∉ v.ownBlock.toList := fun i u b hu hbu hx2 => by
    have e : v.ownBlock = some b := by simpa using hx2
    obtain ⟨v2, hv2, hb2⟩ := hb i u b hu hbu (hvb b e)
    have := h.x.many.apart i us.length v2 v b hv2 hv hb2 e
    have := (List.getElem?_eq_some_iff.1 hu).1
    omega
  have hm1 := hm.keep k hus
  have hma := hm1.below ka
  have ol1 := k.own h.row (fun b hb2 hx2 => by
    have e : v.ownBlock = some b := by simpa using hx2
    have := hvb b e
    have := (h.row.lt b hb2).1
    omega)
  have ola := own_below ol1 ka
  have kg : Keep vl.ownBlock.toList wa w2 := (Keep.refl _ wa).grown hg (fun b e => .inl (by simp [e]))
  have hne : ∀ {u : Value} {b n B' : Nat} {ys : List Value}, wa.ownsRow B' T 1 u n ys → u.ownBlock = some b → b ∉ vl.ownBlock.toList := fun {u b n B' ys} ou hu hx2 => by
    have e : vl.ownBlock = some b := by simpa using hx2
    exact own_types' ola ou hT.symm e hu
  have hlo : ∀ x ∈ vl.ownBlock.toList, B ≤ x := fun x hx2 => (ola.lt x (by simpa using hx2)).1
  have hz := h.hz (by omega)
  have hX2 := hXa.keepAll F kg (fun i u b hu hbu => by
    obtain ⟨l, hl⟩ : ∃ l, ls[i]? = some l := ⟨_, List.getElem?_eq_getElem (by rw [← h.x.many.len]; exact (List.getElem?_eq_some_iff.1 hu).1)⟩
    exact hne (hXa.many.own i u l hu hl) hbu) (fun x hx2 hxX => by have := hlo x hx2; have := h.hX x hxX; omega) (fun hx2 => by have := hlo z hx2; omega) (fun x hx2 => Nat.le_trans h.hW (hlo x hx2))
  have hxlen := h.x.many.len
  have hlt0 : ∀ (i : Nat) u b, us[i]? = some u → u.ownBlock = some b → b < w0.heap.size := fun i u b hu hbu => (hm.lt hu hbu).2
  have hm2 : Many w2 T W.heap.size [] (us ++ [vx]) (xs ++ [x ++ List.replicate 70 0]) := by
    refine (hma.keep kg (fun i u b hu hbu => ?_)).snoc (kg.own (own_below ?_ ka) (fun b hbu => hne (own_below ox ka) hbu)) (fun i u b hu hbu hbx => ?_) (by simp)
    · obtain ⟨l, hl⟩ : ∃ l, xs[i]? = some l := ⟨_, List.getElem?_eq_getElem (by rw [← hm.len]; exact (List.getElem?_eq_some_iff.1 hu).1)⟩
      exact hne (hma.own i u l hu hl) hbu
    · rw [List.length_append, List.length_replicate, hlm]
      exact ox
    · rcases hvx b hbx with h1 | h1
      · exact hus i u b hu hbu (by simp [h1])
      · have := hlt0 i u b hu hbu; omega
  have hB1 : B ≤ w2.heap.size := Nat.le_trans h.hB (Nat.le_trans k.size (Nat.le_trans ka.size kg.size))
  refine ⟨hX2, hB1, h.hv, h.hX, h.hz, h.hW, by simpa using o, _, hm2, fun i hi => ?_, fun i u b hu hbu hlt => ?_⟩
  · by_cases hi2 : i < us.length
    · obtain ⟨y, hy, hyx⟩ := hx i hi2
      exact ⟨y, hy, by rw [List.getElem?_append_left (by rw [← hm.len]; exact hi2)]; exact hyx⟩
    · have hi3 : i = us.length := by simp at hi; omega
      subst hi3
      exact ⟨x, hlx, by rw [List.getElem?_append_right (by rw [← hm.len]; exact Nat.le_refl _), ← hm.len, Nat.sub_self]; rfl⟩
  · rw [List.getElem?_append] at hu
    split at hu
    · exact hb i u b hu hbu hlt
    · rename_i hi2
      have hq : i - us.length = 0 := by
        cases hq : i - us.length with
        | zero => rfl
        | succ q => rw [hq] at hu; simp at hu
      rw [hq] at hu
      obtain rfl := Option.some.inj hu
      rcases hvx b hbu with h1 | h1
      · exact ⟨v, by rw [show i = us.length by omega]; exact hv, h1⟩
      · have := h.hB; omega
/-- what is looked at in the end -/
theorem LongSt.read (h : LongSt W w T L X I z vs ls N B us vl) {mu : Nat → Nat} {n : Nat} (hmk : marks mu n ls) (hj : j < n) (hun : us.length = n) (hu : n = vs.length) :
    ∃ A c g cg gx cx x, ls[j]? = some x ∧ w.cell? ⟨z, j, none⟩ = some (.slice A x.length c) ∧ vl = .slice (some ⟨g, 0, none⟩) n cg ∧ w.cell? ⟨g, j, none⟩ = some (.slice (some ⟨gx, 0, none⟩) (x.length + 70) cx) ∧ x.length ≤ N ∧
      Sl w 1 A x.length c (x.map by8) ∧ Sl w 1 (some ⟨gx, 0, none⟩) (x.length + 70) cx ((x ++ List.replicate 70 0).map by8) ∧ ∀ k, k < x.length → bt x k = mu j := by
  subst hun
  obtain ⟨xs, hm, hx, _⟩ := h.out
  obtain ⟨A, c, x, hv, hl, o, hc, hN⟩ := h.x.row j (by omega)
  obtain ⟨x', hl', hxs⟩ := hx j hj
  rw [hl] at hl'
  obtain rfl := Option.some.inj hl'
  have hu0 : us[j]? = some us[j] := List.getElem?_eq_getElem hj
  have ou := hm.own j _ _ hu0 hxs
  rw [List.length_append, List.length_replicate] at ou
  obtain ⟨gx, cx, e, _, _, _⟩ := own_form ou (by omega)
  have su : Sl w 1 (some ⟨gx, 0, none⟩) (x.length + 70) cx ((x ++ List.replicate 70 0).map by8) := by
    rw [e] at ou
    exact (own_sl' ou).2.1
  obtain ⟨g, cg, e2, _, _, _⟩ := own_form h.row (by omega)
  have sr : Sl w 1 (some ⟨g, 0, none⟩) us.length cg us := by
    have := h.row
    rw [e2] at this
    exact (own_sl' this).2.1
  have cr := sr.cell j hj
  rw [Nat.zero_add] at cr
  have cr2 : w.cell? ⟨g, j, none⟩ = some (.slice (some ⟨gx, 0, none⟩) (x.length + 70) cx) := by rw [← e]; exact cr
  exact ⟨A, c, g, cg, gx, cx, x, hl, hc, e2, cr2, hN, (own_sl' o).2.1, su, fun k hk => hmk j x hj hl k hk⟩
theorem bt_long (x : List UInt8) (k : Nat) : bt (x ++ List.replicate 70 0) k = if k < x.length then bt x k else 0 := by
  unfold bt
  rw [List.getElem?_append]
  split
  · rfl
  · rw [List.getElem?_replicate]
    split <;> simp
end Go.Proofs.Ytpjmbhhfpoamnaa
