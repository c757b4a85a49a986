import Derived.Test.YtikjhandhgfohaaMarks33
set_option linter.unusedVariables false
set_option linter.unusedSimpArgs false
namespace Go.Proofs.Ytikjhandhgfohaa
open Go.RowKit
theorem own_types' {W : World} {B B' T T' s s' n n' k : Nat} {v v' : Value} {xs xs' : List Value} (o : W.ownsRow B T s v n xs) (o' : W.ownsRow B' T' s' v' n' xs') (h : T ≠ T') (hk : v.ownBlock = some k) : v'.ownBlock ≠ some k := fun hk' => by
  rcases o.2 with ⟨rfl, _⟩ | ⟨g, c, cu, rfl, _, hg, _⟩
  · cases hk
  · rcases o'.2 with ⟨rfl, _⟩ | ⟨g', c', cu', rfl, _, hg', _⟩
    · cases hk'
    · injection hk with hk; injection hk' with hk'
      have hk2 : g = k := hk
      have hk3 : g' = k := hk'
      subst hk2; subst hk3
      rw [hg] at hg'
      injection hg' with hg'; injection hg' with _ hg' _
      exact h hg'
def muI (i : Nat) : Nat := i % 256
theorem muI_lt (i : Nat) : muI i < 256 := Nat.mod_lt _ (by decide)
variable {W w w' w0 w1 wa w2 : World} {T L p : Nat} {X M G : List Nat} {I : World → Prop} {z : Nat} {vz vs us ws : List Value} {ls : List (List UInt8)} {N B j m : Nat} {vl vl' vx v : Value}
theorem AllX.keepAll (h : AllX W w T X I z vz vs ls N) (F : Fr X I) (k : Keep M w w') (hM : ∀ (i : Nat) u b, vs[i]? = some u → u.ownBlock = some b → b ∉ M) (hX : ∀ x ∈ M, x ∉ X) (hz : z ∉ M) (hB : ∀ x ∈ M, W.heap.size ≤ x) : AllX W w' T X I z vz vs ls N :=
  ⟨h.many.keep k hM, F.keep M _ _ k hX h.i, k.below h.below h.below.size hB, fun x hx => ⟨(h.x x hx).1, Nat.lt_of_lt_of_le (h.x x hx).2 k.size⟩, fun j2 v2 hv2 => k.cell (h.sz j2 v2 hv2) hz, h.zp, h.zz, h.ml⟩
theorem TailSt.keep {c q : Nat} {w3 : World} (h : TailSt W wa T X I z vz vs ls N j m w0.heap.size c vl q) (hb : Below w1.heap.size w1 wa) (k : Keep v.ownBlock.toList w0 w1) (hv : vs[j]? = some v) (hg : wa.grownBy w3 vl.ownBlock) : Keep v.ownBlock.toList w0 w3 := by
  obtain ⟨_, _, _, _, _, v', x, hv', _, _, _, hvx⟩ := h
  rw [hv] at hv'
  obtain rfl := Option.some.inj hv'
  refine (k.trans (Keep.of_below hb _)).grown hg (fun b e => ?_)
  rcases hvx b e with h1 | h1
  · exact .inl (by simp [h1])
  · exact .inr h1
/-- the rows that were gone on with, and the list that holds them -/
structure LongSt (W w : World) (T L : Nat) (X : List Nat) (I : World → Prop) (z : Nat) (vs : List Value) (ls : List (List UInt8)) (N B : Nat) (us : List Value) (vl : Value) : Prop where
  x : AllX W w T X I z vs vs ls N
  hB : B ≤ w.heap.size
  hv : ∀ (i : Nat) u b, vs[i]? = some u → u.ownBlock = some b → b < B
  hX : ∀ x ∈ X, x < B
  hz : 0 < vs.length → z < B
  hW : W.heap.size ≤ B
  row : w.ownsRow B L 1 vl us.length us
  out : ∃ xs, Many w T W.heap.size [] us xs ∧ (∀ i, i < us.length → ∃ x, ls[i]? = some x ∧ xs[i]? = some (x ++ List.replicate 64 (UInt8.ofNat (255 - i)))) ∧ ∀ (i : Nat) u b, us[i]? = some u → u.ownBlock = some b → b < B → ∃ v, vs[i]? = some v ∧ v.ownBlock = some b
theorem LongSt.start (h : AllX W w T X I z vs vs ls N) (hz : 0 < vs.length → z < w.heap.size) : LongSt W w T L X I z vs ls N w.heap.size [] (.slice none 0 0) :=
  ⟨h, Nat.le_refl _, fun i u b hu hb => (h.many.lt hu hb).2, fun x hx => (h.x x hx).2, hz, h.below.size, World.ownsRow_nil .., [], Many.nil .., fun i hi => by simp at hi, fun i u b hu => by simp at hu⟩
theorem LongSt.rowAt (h : LongSt W w0 T L X I z vs ls N B us vl) (hju : us.length = j) (hv : vs[j]? = some v) (k : Keep v.ownBlock.toList w0 w1) : w1.ownsRow B L 1 vl j us := by
  subst hju
  exact k.own h.row (fun b hb2 hx2 => by
    have e : v.ownBlock = some b := by simpa using hx2
    have := h.hv _ _ b hv e
    have := (h.row.lt b hb2).1
    omega)
theorem LongSt.step (hT : T ≠ L) (h : LongSt W w0 T L X I z vs ls N B us vl) (F : Fr X I) (hju : us.length = j) (hj : j < vs.length) (hv : vs[j]? = some v) (t : TailSt W w1 T X I z vs vs ls N j m w0.heap.size (255 - j) vx 64) (k : Keep v.ownBlock.toList w0 w1) (ka : Below w1.heap.size w1 wa)
    (o : w2.ownsRow B L 1 vl' (j + 1) (us ++ [vx])) (hg : wa.grownBy w2 vl.ownBlock) : LongSt W w2 T L X I z vs ls N B (us ++ [vx]) vl' := by
  subst hju
  obtain ⟨xs, hm, hx, hb⟩ := h.out
  obtain ⟨t1, t2, t3, t4, t5, v', x, hv', hlx, hlm, ox, hvx⟩ := t
  rw [hv] at hv'
  obtain rfl := Option.some.inj hv'
  have hXa := t1.then_ F ka
  have hvb : ∀ b, v.ownBlock = some b → b < B := fun b hb => h.hv _ _ b hv hb
  have hus : ∀ (i : Nat) u b, us[i]? = some u → u.ownBlock = some b → b ∉ v.ownBlock.toList := fun i u b hu hbu hx2 => by
    have e : v.ownBlock = some b := by simpa using hx2
    obtain ⟨v2, hv2, hb2⟩ := hb i u b hu hbu (hvb b e)
    have := h.x.many.apart i us.length v2 v b hv2 hv hb2 e
    have := (List.getElem?_eq_some_iff.1 hu).1
    omega
  have hm1 := hm.keep k hus
  have hma := hm1.below ka
  have ol1 := k.own h.row (fun b hb2 hx2 => by
    have e : v.ownBlock = some b := by simpa using hx2
    have := hvb b e
    have := (h.row.lt b hb2).1
    omega)
  have ola := own_below ol1 ka
  have kg : Keep vl.ownBlock.toList wa w2 := (Keep.refl _ wa).grown hg (fun b e => .inl (by simp [e]))
  have hne : ∀ {u : Value} {b n B' : Nat} {ys : List Value}, wa.ownsRow B' T 1 u n ys → u.ownBlock = some b → b ∉ vl.ownBlock.toList := fun {u b n B' ys} ou hu hx2 => by
    have e : vl.ownBlock = some b := by simpa using hx2
    exact own_types' ola ou hT.symm e hu
  have hlo : ∀ x ∈ vl.ownBlock.toList, B ≤ x := fun x hx2 => (ola.lt x (by simpa using hx2)).1
  have hz := h.hz (by omega)
  have hX2 := hXa.keepAll F kg (fun i u b hu hbu => by
    obtain ⟨l, hl⟩ : ∃ l, ls[i]? = some l := ⟨_, List.getElem?_eq_getElem (by rw [← h.x.many.len]; exact (List.getElem?_eq_some_iff.1 hu).1)⟩
    exact hne (hXa.many.own i u l hu hl) hbu) (fun x hx2 hxX => by have := hlo x hx2; have := h.hX x hxX; omega) (fun hx2 => by have := hlo z hx2; omega) (fun x hx2 => Nat.le_trans h.hW (hlo x hx2))
  have hxlen := h.x.many.len
  have hlt0 : ∀ (i : Nat) u b, us[i]? = some u → u.ownBlock = some b → b < w0.heap.size := fun i u b hu hbu => (hm.lt hu hbu).2
  have hm2 : Many w2 T W.heap.size [] (us ++ [vx]) (xs ++ [x ++ List.replicate 64 (UInt8.ofNat (255 - us.length))]) := by
    refine (hma.keep kg (fun i u b hu hbu => ?_)).snoc (kg.own (own_below ?_ ka) (fun b hbu => hne (own_below ox ka) hbu)) (fun i u b hu hbu hbx => ?_) (by simp)
    · obtain ⟨l, hl⟩ : ∃ l, xs[i]? = some l := ⟨_, List.getElem?_eq_getElem (by rw [← hm.len]; exact (List.getElem?_eq_some_iff.1 hu).1)⟩
      exact hne (hma.own i u l hu hl) hbu
    · rw [List.length_append, List.length_replicate, hlm]
      exact ox
    · rcases hvx b hbx with h1 | h1
      · exact hus i u b hu hbu (by simp [h1])
      · have := hlt0 i u b hu hbu; omega
  have hB1 : B ≤ w2.heap.size := Nat.le_trans h.hB (Nat.le_trans k.size (Nat.le_trans ka.size kg.size))
  refine ⟨hX2, hB1, h.hv, h.hX, h.hz, h.hW, by simpa using o, _, hm2, fun i hi => ?_, fun i u b hu hbu hlt => ?_⟩
  · by_cases hi2 : i < us.length
    · obtain ⟨y, hy, hyx⟩ := hx i hi2
      exact ⟨y, hy, by rw [List.getElem?_append_left (by rw [← hm.len]; exact hi2)]; exact hyx⟩
    · have hi3 : i = us.length := by simp at hi; omega
      subst hi3
      exact ⟨x, hlx, by rw [List.getElem?_append_right (by rw [← hm.len]; exact Nat.le_refl _), ← hm.len, Nat.sub_self]; rfl⟩
  · rw [List.getElem?_append] at hu
    split at hu
    · exact hb i u b hu hbu hlt
    · rename_i hi2
      have hq : i - us.length = 0 := by
        cases hq : i - us.length with
        | zero => rfl
        | succ q => rw [hq] at hu; simp at hu
      rw [hq] at hu
      obtain rfl := Option.some.inj hu
      rcases hvx b hbu with h1 | h1
      · exact ⟨v, by rw [show i = us.length by omega]; exact hv, h1⟩
      · have := h.hB; omega
/-- what is looked at in the end -/
theorem LongSt.read (h : LongSt W w T L X I z vs ls N B us vl) {mu : Nat → Nat} {n : Nat} (hmk : marks mu n ls) (hj : j < n) (hun : us.length = n) (hu : n = vs.length) :
    ∃ A c g cg gx cx x, ls[j]? = some x ∧ w.cell? ⟨z, j * 11 + 10, none⟩ = some (.slice A x.length c) ∧ vl = .slice (some ⟨g, 0, none⟩) n cg ∧ w.cell? ⟨g, j, none⟩ = some (.slice (some ⟨gx, 0, none⟩) (x.length + 64) cx) ∧ x.length ≤ N ∧
      Sl w 1 A x.length c (x.map by8) ∧ Sl w 1 (some ⟨gx, 0, none⟩) (x.length + 64) cx ((x ++ List.replicate 64 (UInt8.ofNat (255 - j))).map by8) ∧ ∀ k, k < x.length → bt x k = mu j := by
  subst hun
  obtain ⟨xs, hm, hx, _⟩ := h.out
  obtain ⟨A, c, x, hv, hl, o, hc, hN⟩ := h.x.row j (by omega)
  obtain ⟨x', hl', hxs⟩ := hx j hj
  rw [hl] at hl'
  obtain rfl := Option.some.inj hl'
  have hu0 : us[j]? = some us[j] := List.getElem?_eq_getElem hj
  have ou := hm.own j _ _ hu0 hxs
  rw [List.length_append, List.length_replicate] at ou
  obtain ⟨gx, cx, e, _, _, _⟩ := own_form ou (by omega)
  have su : Sl w 1 (some ⟨gx, 0, none⟩) (x.length + 64) cx ((x ++ List.replicate 64 (UInt8.ofNat (255 - j))).map by8) := by
    rw [e] at ou
    exact (own_sl' ou).2.1
  obtain ⟨g, cg, e2, _, _, _⟩ := own_form h.row (by omega)
  have sr : Sl w 1 (some ⟨g, 0, none⟩) us.length cg us := by
    have := h.row
    rw [e2] at this
    exact (own_sl' this).2.1
  have cr := sr.cell j hj
  rw [Nat.zero_add] at cr
  have cr2 : w.cell? ⟨g, j, none⟩ = some (.slice (some ⟨gx, 0, none⟩) (x.length + 64) cx) := by rw [← e]; exact cr
  exact ⟨A, c, g, cg, gx, cx, x, hl, hc, e2, cr2, hN, (own_sl' o).2.1, su, fun k hk => hmk j x hj hl k hk⟩
theorem bt_long (x : List UInt8) (c : Nat) (hc : c < 256) (k : Nat) (hk : k < x.length + 64) : bt (x ++ List.replicate 64 (UInt8.ofNat c)) k = if k < x.length then bt x k else c := by
  unfold bt
  rw [List.getElem?_append]
  split
  · rfl
  · rw [List.getElem?_replicate, if_pos (by omega)]
    simp; omega
end Go.Proofs.Ytikjhandhgfohaa
