import Derived.Test.YtikjhandhgfohaaAp2
set_option linter.unusedVariables false
set_option linter.unusedSimpArgs false
namespace Go.Proofs.Ytikjhandhgfohaa
open Go.RowKit
/-- what else is known behind an append: every row that stood in no more places than the row appended to is as it was -/
theorem ap_rows {P : Program} {w : World} {base : Nat} {t ty e : TypeId} {i : TypeInfo} {z : Value} (ht : P.underlying t = some (.slice e)) (hi : P.info? e = some i) (hz : i.zero = some z)
    {v : Value} {n : Nat} {xs : List Value} (hown : w.ownsRow base e i.size v n xs)
    {ad : Addr} {m c : Nat} {news : List Value} (hl : news.length = m * i.size) (hnews : ∀ j u, news[j]? = some u → w.cell? (ad.add j) = some u) (h1 : ∀ u ∈ news, u.oneCell' = true)
    (h63 : n + m ≤ maxLen) (hbytes : (n + m) * i.bytes ≤ 140737488355328)
    {v' : Value} {w' : World} (hr : (Builtin.append_ #[t, t] ty #[v, .slice (some ad) m c]).run P w = .ok v' w') :
    ∀ (base2 : Nat) (v2 : Value) (n2 : Nat) (xs2 : List Value), n2 ≤ n → w.ownsRow base2 e i.size v2 n2 xs2 → w'.ownsRow base2 e i.size v2 n2 xs2 := by
  have hsmall : n + m ≤ 9223372036854775807 := by simp only [maxLen] at h63; omega
  intro base2 v2 n2 xs2 hn2 ho2
  rcases hown.2 with ⟨rfl, rfl⟩ | ⟨g, cap, cur, rfl, hbg, hg, hnc, hcm, hcs, htake⟩
  · by_cases hm : m = 0
    · subst hm
      have hn : news = [] := List.eq_nil_of_length_eq_zero (by simpa using hl)
      subst hn
      have e2 : (Builtin.append_ #[t, t] ty #[.slice none 0 0, .slice (some ad) 0 c]).run P w = .ok (.slice none 0 0) w := by
        simp [Builtin.append_, run_underlying ht, sizeOf, typeInfo, hi, Builtin.lenOf, Builtin.firstCells, loadCells, loadCellsFrom]
      rw [e2] at hr
      injection hr with _ hr
      subst hr
      exact ho2
    · have e2 := run_append_nil (P := P) w t ty e i z ht hi hz ad m c news hl hnews (by omega) (by omega) (by have hb := hbytes; simp only [Nat.zero_add] at hb; omega)
      rw [e2] at hr
      injection hr with _ hr
      subst hr
      exact own_below ho2 (((Below.refl _ _).drew).alloc (Nat.le_refl _) _)
  · by_cases hroom : n + m ≤ cap
    · have hfit : n * i.size + news.length ≤ cur.size := by rw [hl, hcs, ← Nat.add_mul]; exact Nat.mul_le_mul_right _ hroom
      have e2 := run_append_room (P := P) w t ty e i ht hi g n cap cur hg ad m c news hl hnews h1 hroom hfit
      rw [e2] at hr
      injection hr with _ hr
      subst hr
      rcases ho2.2 with ⟨rfl, rfl⟩ | ⟨g2, cap2, cur2, rfl, hb2, hg2, hnc2, hcm2, hcs2, htake2⟩
      · exact ⟨ho2.1, .inl ⟨rfl, rfl⟩⟩
      · by_cases hgg : g2 = g
        · subst hgg
          rw [hg] at hg2
          injection hg2 with hg2
          injection hg2 with hg2
          subst hg2
          have hle : n2 * i.size ≤ n * i.size := Nat.mul_le_mul_right _ hn2
          have hle2 : n * i.size ≤ cur.size := by omega
          refine ⟨ho2.1, .inr ⟨g2, cap2, _, rfl, hb2, setRow_heap w g2 cur _ e _ hg, hnc2, hcm2, ?_, ?_⟩⟩
          · simp; omega
          · simp only [List.append_assoc]
            rw [List.take_append_of_le_length (by simp; omega), List.take_take, Nat.min_eq_left hle, htake2]
        · exact ⟨ho2.1, .inr ⟨g2, cap2, cur2, rfl, hb2, (setRow_other w g g2 _ hgg).trans hg2, hnc2, hcm2, hcs2, htake2⟩⟩
    · have holds : ∀ j u, xs[j]? = some u → w.cell? ((⟨g, 0, none⟩ : Addr).add j) = some u := hown.cells (g := g) rfl
      have e2 := run_append_grow (P := P) w t ty e i z ht hi hz ⟨g, 0, none⟩ n cap xs hown.1 holds ad m c news hl hnews (by omega) (by omega) (growslice_fits (by omega) hbytes)
      rw [e2] at hr
      injection hr with _ hr
      subst hr
      exact own_below ho2 (((Below.refl _ _).drew).alloc (Nat.le_refl _) _)
/-- append to a row of one's own: where it lies behind it, and which rows are as they were -/
theorem apx_own {P : Program} {w : World} {ops : Array Oper} {rest : List Oper} {o : Oper} {a : Act} {Q : Exit → Act → World → Prop} {t e size bytes : Nat} {z : Value} (E : ElemT P t e z size bytes) (hgd : o.guard = none) (s x : Operand)
    (ho : o.op = .call { callee := .builtin .append, args := #[s, x], argTypes := #[t, t] }) {base : Nat}
    {v : Value} {n : Nat} {xs : List Value} (hs : a.eval s = v) (hown : w.ownsRow base e size v n xs)
    {A : Option Addr} {m c : Nat} {news : List Value} (hx : a.eval x = .slice A m c) (hsl : Sl w size A m c news) (h1 : ∀ u ∈ news, u.oneCell' = true)
    (h63 : n + m ≤ maxLen) (hbytes : (n + m) * bytes ≤ 140737488355328) (hbase : base ≤ w.heap.size)
    (h : ∀ v' w', w'.ownsRow base e size v' (n + m) (xs ++ news) → w.grownBy w' v.ownBlock → (∀ k, v'.ownBlock = some k → v.ownBlock = some k ∨ k = w.heap.size) →
      (∀ (base2 : Nat) (v2 : Value) (n2 : Nat) (xs2 : List Value), n2 ≤ n → w.ownsRow base2 e size v2 n2 xs2 → w'.ownsRow base2 e size v2 n2 xs2) → wpList P ops Q rest (a.put o.dst v') w') : wpList P ops Q (o :: rest) a w := by
  refine wpList_plain hgd fun _ hK => ?_
  obtain ⟨i, hi, hz0, hz1, hz2⟩ := info_parts E.info
  cases A with
  | none =>
    obtain rfl : c = 0 := hsl.nil rfl
    obtain rfl : m = 0 := by have := hsl.le; omega
    obtain rfl : news = [] := List.eq_nil_of_length_eq_zero (by have := hsl.len; simpa using this)
    have hrun := run_append_owned_none (P := P) (w := w) base t o.type e i size E.und hi v n xs hown
    unfold Oper.wp
    simp [execOp, ho, resolve, invoke, builtin, hs, hx, hrun, Result.andThen]
    exact hK _ _ (h v w (by simpa using hown) ⟨rfl, rfl, rfl, Nat.le_refl _, fun _ _ _ => rfl⟩ (fun k hk => .inl hk) (fun _ _ _ _ _ h2 => h2))
  | some ad =>
    obtain ⟨v', w', hr, h2, h3, h4⟩ := run_append_own (P := P) w base t o.type e i z size bytes E.und hi hz0 hz1 hz2 E.zs E.pos v n xs hown ad m c news hsl.len hsl.news h1 h63 hbytes hbase
    have h5 := ap_block (ty := o.type) E.und hi hz0 (hz1.symm ▸ hown) (hz1.symm ▸ hsl.len) hsl.news h1 h63 (hz2.symm ▸ hbytes) hr
    have h6 := ap_rows (ty := o.type) E.und hi hz0 (hz1.symm ▸ hown) (hz1.symm ▸ hsl.len) hsl.news h1 h63 (hz2.symm ▸ hbytes) hr
    rw [hz1] at h6
    unfold Oper.wp execOp
    simp only [ho, resolve, invoke, builtin, Sem.run_bind, Sem.run_pure, Result.andThen_ok, List.map_toArray, List.map_cons, List.map_nil, hs, hx, hr]
    exact hK _ _ (h v' w' h2 h3 h5 h6)

/-! ### many rows of bytes, apart from one another and from the blocks of X -/
structure Many (w : World) (T B : Nat) (X : List Nat) (vs : List Value) (ls : List (List UInt8)) : Prop where
  len : vs.length = ls.length
  own : ∀ (i : Nat) v l, vs[i]? = some v → ls[i]? = some l → w.ownsRow B T 1 v l.length (l.map by8)
  apart : ∀ (i j : Nat) v u k, vs[i]? = some v → vs[j]? = some u → v.ownBlock = some k → u.ownBlock = some k → i = j
  out : ∀ (i : Nat) v k, vs[i]? = some v → v.ownBlock = some k → k ∉ X
variable {w w' : World} {T B : Nat} {X X' M : List Nat} {vs : List Value} {ls : List (List UInt8)}
theorem Many.nil (w : World) (T B : Nat) (X : List Nat) : Many w T B X [] [] := ⟨rfl, by simp, by simp, by simp⟩
theorem Many.get (h : Many w T B X vs ls) (i : Nat) (hi : i < vs.length) : ∃ v l, vs[i]? = some v ∧ ls[i]? = some l ∧ w.ownsRow B T 1 v l.length (l.map by8) := by
  have h1 : vs[i]? = some vs[i] := List.getElem?_eq_getElem hi
  have hi2 : i < ls.length := by rw [← h.len]; exact hi
  have h2 : ls[i]? = some ls[i] := List.getElem?_eq_getElem hi2
  exact ⟨_, _, h1, h2, h.own i _ _ h1 h2⟩
theorem Many.lt (h : Many w T B X vs ls) {i : Nat} {v : Value} {k : Nat} (hv : vs[i]? = some v) (hk : v.ownBlock = some k) : B ≤ k ∧ k < w.heap.size := by
  obtain ⟨v', l, h1, _, h3⟩ := h.get i (List.getElem?_eq_some_iff.1 hv).1
  rw [hv] at h1
  obtain rfl := Option.some.inj h1
  exact h3.lt k hk
theorem Many.keep (h : Many w T B X vs ls) (k : Keep M w w') (hM : ∀ (i : Nat) v b, vs[i]? = some v → v.ownBlock = some b → b ∉ M) : Many w' T B X vs ls :=
  ⟨h.len, fun i v l hv hl => k.own (h.own i v l hv hl) (fun b hb => hM i v b hv hb), h.apart, h.out⟩
theorem Many.keepX (h : Many w T B X vs ls) (k : Keep M w w') (hM : ∀ x ∈ M, x ∈ X) : Many w' T B X vs ls :=
  h.keep k (fun i v b hv hb hx => h.out i v b hv hb (hM b hx))
theorem Many.below (h : Many w T B X vs ls) (k : Below w.heap.size w w') : Many w' T B X vs ls := h.keep (Keep.of_below k []) (by simp)
theorem Many.more (h : Many w T B X vs ls) (hX : ∀ x ∈ X', x ∈ X ∨ w.heap.size ≤ x) : Many w T B X' vs ls :=
  ⟨h.len, h.own, h.apart, fun i v k hv hk hx => by
    rcases hX k hx with h1 | h1
    · exact h.out i v k hv hk h1
    · have := (h.lt hv hk).2
      omega⟩
theorem Many.snoc (h : Many w T B X vs ls) {v : Value} {l : List UInt8} (o : w.ownsRow B T 1 v l.length (l.map by8)) (ha : ∀ (i : Nat) u k, vs[i]? = some u → u.ownBlock = some k → v.ownBlock ≠ some k) (hX : ∀ k, v.ownBlock = some k → k ∉ X) : Many w T B X (vs ++ [v]) (ls ++ [l]) := by
  have hl := h.len
  refine ⟨by simp [hl], fun i u r hu hr => ?_, fun i j u u2 k hu hu2 hk hk2 => ?_, fun i u k hu hk => ?_⟩
  · rw [List.getElem?_append] at hu hr
    rw [hl] at hu
    split at hu
    · rename_i h1
      rw [if_pos h1] at hr
      exact h.own i u r hu hr
    · rename_i h1
      rw [if_neg h1] at hr
      cases hq : i - ls.length with
      | zero => rw [hq] at hu hr; obtain rfl := Option.some.inj hu; obtain rfl := Option.some.inj hr; exact o
      | succ q => rw [hq] at hu; simp at hu
  · rw [List.getElem?_append] at hu hu2
    split at hu <;> split at hu2
    · exact h.apart i j u u2 k hu hu2 hk hk2
    · rename_i h1 h2
      cases hq : j - vs.length with
      | zero => rw [hq] at hu2; obtain rfl := Option.some.inj hu2; exact absurd hk2 (ha i u k hu hk)
      | succ q => rw [hq] at hu2; simp at hu2
    · rename_i h1 h2
      cases hq : i - vs.length with
      | zero => rw [hq] at hu; obtain rfl := Option.some.inj hu; exact absurd hk (ha j u2 k hu2 hk2)
      | succ q => rw [hq] at hu; simp at hu
    · have e1 : i - vs.length = 0 := by
        cases hq : i - vs.length with
        | zero => rfl
        | succ q => rw [hq] at hu; simp at hu
      have e2 : j - vs.length = 0 := by
        cases hq : j - vs.length with
        | zero => rfl
        | succ q => rw [hq] at hu2; simp at hu2
      omega
  · rw [List.getElem?_append] at hu
    split at hu
    · exact h.out i u k hu hk
    · cases hq : i - vs.length with
      | zero => rw [hq] at hu; obtain rfl := Option.some.inj hu; exact hX k hk
      | succ q => rw [hq] at hu; simp at hu
/-- a new row -/
theorem Many.new (h : Many w T B X vs ls) (k : Below w.heap.size w w') {v : Value} {l : List UInt8} {C : Nat} (o : w'.ownsRow C T 1 v l.length (l.map by8)) (hC : w.heap.size ≤ C) (hB : B ≤ w.heap.size) (hX : ∀ x ∈ X, x < w.heap.size) : Many w' T B X (vs ++ [v]) (ls ++ [l]) :=
  (h.below k).snoc (own_mono o (Nat.le_trans hB hC)) (fun i u b hu hb hv => by have h1 := (h.lt hu hb).2; have h2 := (o.lt b hv).1; omega) (fun b hb hx => by have h1 := hX b hx; have h2 := (o.lt b hb).1; omega)
/-- a byte of one of them is written -/
theorem Many.store (h : Many w T B X vs ls) {j : Nat} {g n c : Nat} {l : List UInt8} (hv : vs[j]? = some (.slice (some ⟨g, 0, none⟩) n c)) (hl : ls[j]? = some l) (k : Nat) (x : UInt8) :
    Many (w.setCell ⟨g, k, none⟩ (by8 x)) T B X vs (ls.set j (l.set k x)) := by
  have hj : j < ls.length := (List.getElem?_eq_some_iff.1 hl).1
  refine ⟨by simp [h.len], fun i v r hvi hri => ?_, h.apart, h.out⟩
  by_cases hij : i = j
  · subst hij
    rw [hv] at hvi
    obtain rfl := Option.some.inj hvi
    rw [List.getElem?_set_self hj] at hri
    obtain rfl := Option.some.inj hri
    have o := h.own i _ _ hv hl
    have hn : n = l.length := by
      rcases o.2 with ⟨e, _⟩ | ⟨g', c', cur, e, _⟩
      · cases e
      · injection e
    subst hn
    have := (o.stored k (by8 x)).1
    rw [← List.map_set] at this
    simpa using this
  · rw [List.getElem?_set_ne (fun e => hij e.symm)] at hri
    refine ((Keep.refl [g] w).setCell (.inl (by simp)) (by8 x)).own (h.own i v r hvi hri) (fun b hb hx => hij ?_)
    simp at hx
    subst hx
    exact h.apart i j v _ b hvi hv hb rfl
/-- one of them is gone on with -/
theorem Many.gone (h : Many w T B X vs ls) {j : Nat} {v : Value} {l : List UInt8} (hv : vs[j]? = some v) (hl : ls[j]? = some l) (o : w'.ownsRow B T 1 v l.length (l.map by8)) (k : Keep M w w') (hM : ∀ (i : Nat) u b, vs[i]? = some u → u.ownBlock = some b → b ∈ M → i = j) : Many w' T B X vs ls := by
  refine ⟨h.len, fun i u r hu hr => ?_, h.apart, h.out⟩
  by_cases hij : i = j
  · subst hij
    rw [hv] at hu; rw [hl] at hr
    obtain rfl := Option.some.inj hu; obtain rfl := Option.some.inj hr
    exact o
  · exact k.own (h.own i u r hu hr) (fun b hb hx => hij (hM i u b hu hb hx))
/-- the end of a row behind a place -/
theorem own_drop {w : World} {base e g m cap : Nat} {xs : List Value} (o : w.ownsRow base e 1 (.slice (some ⟨g, 0, none⟩) m cap) m xs) (n : Nat) (hn : n ≤ m) : Sl w 1 (some ⟨g, n, none⟩) (m - n) (cap - n) (xs.drop n) := by
  obtain ⟨_, s, _⟩ := own_sl' o
  have h1 := s.le; have h2 := s.max; have h3 := s.len
  refine ⟨by simp [h3], by omega, by omega, (fun e => by cases e), fun ad he hp => ?_⟩
  obtain rfl := Option.some.inj he
  refine ⟨rfl, fun i hi => ?_⟩
  have hi2 : n + i < xs.length := by simp at hi; omega
  have := s.cell (n + i) hi2
  rw [List.getElem_drop]
  simpa using this
end Go.Proofs.Ytikjhandhgfohaa
