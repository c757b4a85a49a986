import Derived.Test.YtpjmbhhfpoamnaaMarks2
set_option linter.unusedVariables false
set_option linter.unusedSimpArgs false
namespace Go.Proofs.Ytpjmbhhfpoamnaa
open Go.RowKit
/-! ### the shelf: the lists that were answered, and what they were -/
structure Shf (W w : World) (p : Nat) (G : List Nat) (vs ws : List Value) (ls : List (List UInt8)) (N : Nat) : Prop where
  out : ∃ vL vW, w.heap[p]? = some (.cells #[vL, vW] 90 (0, 0)) ∧ w.ownsRow W.heap.size 22 1 vL vs.length vs ∧ w.ownsRow W.heap.size 22 1 vW ws.length ws ∧
    (∀ b, vL.ownBlock = some b → b ≠ p ∧ b ∈ G) ∧ (∀ b, vW.ownBlock = some b → b ≠ p ∧ b ∈ G ∧ vL.ownBlock ≠ some b) ∧
    (∀ (i : Nat) v b, vs[i]? = some v → v.ownBlock = some b → b ∈ G ∧ b ≠ p ∧ vL.ownBlock ≠ some b ∧ vW.ownBlock ≠ some b) ∧
    (∀ (i : Nat) l, ls[i]? = some l → ∃ A c, ws[i]? = some (.slice A l.length c) ∧ Sl w 1 A l.length c (l.map by8) ∧ ∀ ad, A = some ad → 0 < l.length → ad.block < W.heap.size ∨ ad.block ∈ G ∧ ad.block ≠ p ∧ vL.ownBlock ≠ some ad.block ∧ vW.ownBlock ≠ some ad.block)
  many : Many w 5 W.heap.size [] vs ls
  wl : ws.length = ls.length
  below : Below W.heap.size W w
  pl : W.heap.size ≤ p
  mem : p ∈ G
  lts : ∀ x ∈ G, x < w.heap.size
  ml : ∀ x ∈ ls, x.length ≤ N
variable {W w w' : World} {p : Nat} {G M : List Nat} {vs ws : List Value} {ls : List (List UInt8)} {N : Nat}
theorem Sl.keepP {M : List Nat} {w w' : World} {sz : Nat} {A : Option Addr} {n c : Nat} {vs : List Value} (h : Sl w sz A n c vs) (k : Keep M w w') (hM : ∀ ad, A = some ad → 0 < n → ad.block ∉ M) : Sl w' sz A n c vs := by
  by_cases h0 : 0 < n
  · exact h.keep k (fun ad e => hM ad e h0)
  · obtain rfl : n = 0 := by omega
    obtain rfl : vs = [] := List.eq_nil_of_length_eq_zero (by have := h.len; simpa using this)
    exact ⟨h.len, h.le, h.max, h.nil, fun ad e h2 => by simp at h2⟩
theorem own_types' {W : World} {B B' T T' s s' n n' k : Nat} {v v' : Value} {xs xs' : List Value} (o : W.ownsRow B T s v n xs) (o' : W.ownsRow B' T' s' v' n' xs') (h : T ≠ T') (hk : v.ownBlock = some k) : v'.ownBlock ≠ some k := fun hk' => by
  rcases o.2 with ⟨rfl, _⟩ | ⟨g, c, cu, rfl, _, hg, _⟩
  · cases hk
  · rcases o'.2 with ⟨rfl, _⟩ | ⟨g', c', cu', rfl, _, hg', _⟩
    · cases hk'
    · injection hk with hk; injection hk' with hk'
      have hk2 : g = k := hk
      have hk3 : g' = k := hk'
      subst hk2; subst hk3
      rw [hg] at hg'
      injection hg' with hg'; injection hg' with _ hg' _
      exact h hg'
theorem Shf.keep (h : Shf W w p G vs ws ls N) (k : Keep M w w') (hM : ∀ x ∈ G, x ∉ M) (hW : ∀ x ∈ M, W.heap.size ≤ x) : Shf W w' p G vs ws ls N := by
  obtain ⟨vL, vW, hb, oL, oW, g1, g2, g3, g4⟩ := h.out
  refine ⟨⟨vL, vW, k.heap hb (hM _ h.mem), k.own oL (fun b hb => hM b (g1 b hb).2), k.own oW (fun b hb => hM b (g2 b hb).2.1), g1, g2, g3, fun i l hl => ?_⟩, h.many.keep k (fun i v b hv hb => hM b (g3 i v b hv hb).1), h.wl, k.below h.below h.below.size hW, h.pl, h.mem, fun x hx => Nat.lt_of_lt_of_le (h.lts x hx) k.size, h.ml⟩
  obtain ⟨A, c, e, s, hA⟩ := g4 i l hl
  refine ⟨A, c, e, ?_, hA⟩
  by_cases h0 : 0 < l.length
  · exact s.keep k (fun ad ea hx => (hA ad ea h0).elim (fun h1 => by have := hW _ hx; omega) (fun h1 => hM _ h1.1 hx))
  · have e0 : l = [] := List.eq_nil_of_length_eq_zero (by omega)
    subst e0
    exact ⟨s.len, s.le, s.max, s.nil, fun ad _ hp => by simp at hp⟩
theorem Shf.then_ (h : Shf W w p G vs ws ls N) (k : Below w.heap.size w w') : Shf W w' p G vs ws ls N := h.keep (Keep.of_below k []) (by simp) (by simp)
theorem tl (v : Value) (b : Nat) : b ∈ v.ownBlock.toList ↔ v.ownBlock = some b := by simp [Option.mem_toList]
/-- a list joins the shelf -/
theorem Shf.put (h : Shf W w p G vs ws ls N) {w5 : World} {vL vW vL' vW' v v2 : Value} {l : List UInt8} {C : Nat} (hT : (22 : Nat) ≠ 5)
    (hb0 : w.heap[p]? = some (.cells #[vL, vW] 90 (0, 0)))
    (hb : w5.heap[p]? = some (.cells #[vL', vW'] 90 (0, 0))) (oL : w5.ownsRow W.heap.size 22 1 vL' (vs.length + 1) (vs ++ [v])) (oW : w5.ownsRow W.heap.size 22 1 vW' (ws.length + 1) (ws ++ [v2]))
    (lL : ∀ b, vL'.ownBlock = some b → vL.ownBlock = some b ∨ (w.heap.size ≤ b ∧ b < C)) (lW : ∀ b, vW'.ownBlock = some b → vW.ownBlock = some b ∨ C ≤ b) (hC : w.heap.size ≤ C)
    (k : Keep (p :: (vL.ownBlock.toList ++ vW.ownBlock.toList)) w w5)
    (o : w5.ownsRow W.heap.size 5 1 v l.length (l.map by8)) (hv : ∀ b, v.ownBlock = some b → b ∉ G) (o2 : w5.ownsRow w.heap.size 5 1 v2 l.length (l.map by8)) (hl : l.length ≤ N) :
    Shf W w5 p (G ++ (v.ownBlock.toList ++ (v2.ownBlock.toList ++ (vL'.ownBlock.toList ++ vW'.ownBlock.toList)))) (vs ++ [v]) (ws ++ [v2]) (ls ++ [l]) N := by
  obtain ⟨vL0, vW0, hb1, oL0, oW0, g1, g2, g3, g4⟩ := h.out
  rw [hb0] at hb1
  injection hb1 with hb1; injection hb1 with hb1 _ _
  injection hb1 with hb1; injection hb1 with e1 e2; injection e2 with e2 _
  subst e1; subst e2
  have hls := h.many.len
  have hMB : ∀ x ∈ p :: (vL.ownBlock.toList ++ vW.ownBlock.toList), x ∈ G := fun x hx => by
    simp only [List.mem_cons, List.mem_append, tl] at hx
    rcases hx with rfl | hx | hx
    · exact h.mem
    · exact (g1 x hx).2
    · exact (g2 x hx).2.1
  have hne : ∀ {u u' : Value} {b n n' B B' : Nat} {xs xs' : List Value}, w5.ownsRow B 22 1 u n xs → w5.ownsRow B' 5 1 u' n' xs' → u.ownBlock = some b → u'.ownBlock ≠ some b := fun a c e => own_types' a c hT e
  have hold : ∀ (i : Nat) u b, vs[i]? = some u → u.ownBlock = some b → b ∉ p :: (vL.ownBlock.toList ++ vW.ownBlock.toList) := fun i u b hu hb => by
    have := g3 i u b hu hb
    simp only [List.mem_cons, List.mem_append, tl, not_or]
    exact ⟨this.2.1, this.2.2.1, this.2.2.2⟩
  have mk := h.many.keep k hold
  have ms : Many w5 5 W.heap.size [] (vs ++ [v]) (ls ++ [l]) := mk.snoc o (fun i u b hu hb hb2 => hv b hb2 (g3 i u b hu hb).1) (by simp)
  have hp5 : p < w5.heap.size := Nat.lt_of_lt_of_le (h.lts p h.mem) k.size
  have hpw := h.lts p h.mem
  have lw : ∀ b, vW.ownBlock = some b → b < w.heap.size := fun b hb => h.lts b (g2 b hb).2.1
  have ll : ∀ b, vL.ownBlock = some b → b < w.heap.size := fun b hb => h.lts b (g1 b hb).2
  refine ⟨⟨vL', vW', hb, by simpa using oL, by simpa using oW, fun b hb => ⟨?_, ?_⟩, fun b hb => ⟨?_, ?_, fun hb2 => ?_⟩, fun i u b hu hb => ?_, fun i x hx => ?_⟩, ms, by simp [h.wl], k.below h.below h.below.size (fun x hx => ?_), h.pl, by simp [h.mem], fun x hx => ?_, fun x hx => ?_⟩
  · rcases lL b hb with h1 | h1
    · exact (g1 b h1).1
    · omega
  · simp [tl, hb]
  · rcases lW b hb with h1 | h1
    · exact (g2 b h1).1
    · omega
  · simp [tl, hb]
  · rcases lW b hb with h1 | h1 <;> rcases lL b hb2 with h2 | h2
    · exact (g2 b h1).2.2 h2
    · have := lw b h1; omega
    · have := ll b h2; omega
    · omega
  · obtain ⟨u', x, hu', hx, ou⟩ := ms.get i (List.getElem?_eq_some_iff.1 hu).1
    rw [hu] at hu'
    obtain rfl := Option.some.inj hu'
    refine ⟨?_, ?_, fun e => hne oL ou e hb, fun e => hne oW ou e hb⟩
    · rw [List.getElem?_append] at hu
      split at hu
      · have := (g3 i u b hu hb).1; simp [this]
      · cases hq : i - vs.length with
        | zero => rw [hq] at hu; obtain rfl := Option.some.inj hu; simp [hb]
        | succ q => rw [hq] at hu; simp at hu
    · rw [List.getElem?_append] at hu
      split at hu
      · exact (g3 i u b hu hb).2.1
      · cases hq : i - vs.length with
        | zero => rw [hq] at hu; obtain rfl := Option.some.inj hu; exact fun e => hv b hb (e ▸ h.mem)
        | succ q => rw [hq] at hu; simp at hu
  · rw [List.getElem?_append] at hx
    split at hx
    · rename_i hlt
      obtain ⟨A, c, e, s, hA⟩ := g4 i x hx
      have hlt2 : i < ws.length := (List.getElem?_eq_some_iff.1 e).1
      refine ⟨A, c, by rw [List.getElem?_append_left hlt2]; exact e, s.keepP k (fun ad ea h0 hm => ?_), fun ad ea h0 => ?_⟩
      · have := (hA ad ea h0).resolve_left (fun h1 => by
          have hlo : W.heap.size ≤ ad.block := by
            simp only [List.mem_cons, List.mem_append, tl] at hm
            rcases hm with hm | hm | hm
            · rw [hm]; exact h.pl
            · exact (oL0.lt _ hm).1
            · exact (oW0.lt _ hm).1
          omega)
        simp only [List.mem_cons, List.mem_append, tl] at hm
        rcases hm with hm | hm | hm
        · exact this.2.1 hm
        · exact this.2.2.1 hm
        · exact this.2.2.2 hm
      · rcases hA ad ea h0 with h9 | h9
        · exact .inl h9
        refine .inr ?_
        have h8 := h.lts _ h9.1
        refine ⟨by simp [h9.1], h9.2.1, fun e => ?_, fun e => ?_⟩
        · rcases lL _ e with h1 | h1
          · exact h9.2.2.1 h1
          · omega
        · rcases lW _ e with h1 | h1
          · exact h9.2.2.2 h1
          · omega
    · have hq : i - ls.length = 0 := by
        cases hq : i - ls.length with
        | zero => rfl
        | succ q => rw [hq] at hx; simp at hx
      rw [hq] at hx
      obtain rfl := Option.some.inj hx
      have hwl : ws.length = ls.length := h.wl
      obtain ⟨A, c, e, s, _⟩ := own_sl o2
      refine ⟨A, c, by rw [List.getElem?_append_right (by omega), show i - ws.length = 0 by omega, e]; rfl, s, fun ad ea h0 => ?_⟩
      have hbk : v2.ownBlock = some ad.block := by rw [e, ea]; rfl
      have h7 := (o2.lt _ hbk).1
      refine .inr ⟨by simp [hbk], by omega, fun e => hne oL o2 e hbk, fun e => hne oW o2 e hbk⟩
  · have := hMB x hx
    simp only [List.mem_cons, List.mem_append, tl] at hx
    rcases hx with rfl | hx | hx
    · exact h.pl
    · exact (oL0.lt x hx).1
    · exact (oW0.lt x hx).1
  · simp only [List.mem_append, tl] at hx
    rcases hx with hx | hx | hx | hx | hx
    · exact Nat.lt_of_lt_of_le (h.lts x hx) k.size
    · exact (o.lt x hx).2
    · exact (o2.lt x hx).2
    · exact (oL.lt x hx).2
    · exact (oW.lt x hx).2
  · rcases List.mem_append.1 hx with h1 | h1
    · exact h.ml x h1
    · simp at h1
      rw [h1]; exact hl
/-- a list joins the shelf, and what was wanted with it, wherever that lies -/
theorem Shf.putG (h : Shf W w p G vs ws ls N) {w5 : World} {vL vW vL' vW' v v2 : Value} {l : List UInt8} {C : Nat} (hT : (22 : Nat) ≠ 5)
    (hb0 : w.heap[p]? = some (.cells #[vL, vW] 90 (0, 0)))
    (hb : w5.heap[p]? = some (.cells #[vL', vW'] 90 (0, 0))) (oL : w5.ownsRow W.heap.size 22 1 vL' (vs.length + 1) (vs ++ [v])) (oW : w5.ownsRow W.heap.size 22 1 vW' (ws.length + 1) (ws ++ [v2]))
    (lL : ∀ b, vL'.ownBlock = some b → vL.ownBlock = some b ∨ (w.heap.size ≤ b ∧ b < C)) (lW : ∀ b, vW'.ownBlock = some b → vW.ownBlock = some b ∨ C ≤ b) (hC : w.heap.size ≤ C)
    (k : Keep (p :: (vL.ownBlock.toList ++ vW.ownBlock.toList)) w w5)
    (o : w5.ownsRow W.heap.size 5 1 v l.length (l.map by8)) (hv : ∀ b, v.ownBlock = some b → b ∉ G) {A2 : Option Addr} {c2 : Nat} {X2 : List Nat} (hv2 : v2 = .slice A2 l.length c2) (s2 : Sl w5 1 A2 l.length c2 (l.map by8)) (hX2 : ∀ x ∈ X2, x < w5.heap.size) (hA2 : ∀ ad, A2 = some ad → 0 < l.length → ad.block < W.heap.size ∨ ad.block ∈ X2 ∧ ad.block ≠ p ∧ vL'.ownBlock ≠ some ad.block ∧ vW'.ownBlock ≠ some ad.block) (hl : l.length ≤ N) :
    Shf W w5 p (G ++ (v.ownBlock.toList ++ (X2 ++ (vL'.ownBlock.toList ++ vW'.ownBlock.toList)))) (vs ++ [v]) (ws ++ [v2]) (ls ++ [l]) N := by
  obtain ⟨vL0, vW0, hb1, oL0, oW0, g1, g2, g3, g4⟩ := h.out
  rw [hb0] at hb1
  injection hb1 with hb1; injection hb1 with hb1 _ _
  injection hb1 with hb1; injection hb1 with e1 e2; injection e2 with e2 _
  subst e1; subst e2
  have hls := h.many.len
  have hMB : ∀ x ∈ p :: (vL.ownBlock.toList ++ vW.ownBlock.toList), x ∈ G := fun x hx => by
    simp only [List.mem_cons, List.mem_append, tl] at hx
    rcases hx with rfl | hx | hx
    · exact h.mem
    · exact (g1 x hx).2
    · exact (g2 x hx).2.1
  have hne : ∀ {u u' : Value} {b n n' B B' : Nat} {xs xs' : List Value}, w5.ownsRow B 22 1 u n xs → w5.ownsRow B' 5 1 u' n' xs' → u.ownBlock = some b → u'.ownBlock ≠ some b := fun a c e => own_types' a c hT e
  have hold : ∀ (i : Nat) u b, vs[i]? = some u → u.ownBlock = some b → b ∉ p :: (vL.ownBlock.toList ++ vW.ownBlock.toList) := fun i u b hu hb => by
    have := g3 i u b hu hb
    simp only [List.mem_cons, List.mem_append, tl, not_or]
    exact ⟨this.2.1, this.2.2.1, this.2.2.2⟩
  have mk := h.many.keep k hold
  have ms : Many w5 5 W.heap.size [] (vs ++ [v]) (ls ++ [l]) := mk.snoc o (fun i u b hu hb hb2 => hv b hb2 (g3 i u b hu hb).1) (by simp)
  have hp5 : p < w5.heap.size := Nat.lt_of_lt_of_le (h.lts p h.mem) k.size
  have hpw := h.lts p h.mem
  have lw : ∀ b, vW.ownBlock = some b → b < w.heap.size := fun b hb => h.lts b (g2 b hb).2.1
  have ll : ∀ b, vL.ownBlock = some b → b < w.heap.size := fun b hb => h.lts b (g1 b hb).2
  refine ⟨⟨vL', vW', hb, by simpa using oL, by simpa using oW, fun b hb => ⟨?_, ?_⟩, fun b hb => ⟨?_, ?_, fun hb2 => ?_⟩, fun i u b hu hb => ?_, fun i x hx => ?_⟩, ms, by simp [h.wl], k.below h.below h.below.size (fun x hx => ?_), h.pl, by simp [h.mem], fun x hx => ?_, fun x hx => ?_⟩
  · rcases lL b hb with h1 | h1
    · exact (g1 b h1).1
    · omega
  · simp [tl, hb]
  · rcases lW b hb with h1 | h1
    · exact (g2 b h1).1
    · omega
  · simp [tl, hb]
  · rcases lW b hb with h1 | h1 <;> rcases lL b hb2 with h2 | h2
    · exact (g2 b h1).2.2 h2
    · have := lw b h1; omega
    · have := ll b h2; omega
    · omega
  · obtain ⟨u', x, hu', hx, ou⟩ := ms.get i (List.getElem?_eq_some_iff.1 hu).1
    rw [hu] at hu'
    obtain rfl := Option.some.inj hu'
    refine ⟨?_, ?_, fun e => hne oL ou e hb, fun e => hne oW ou e hb⟩
    · rw [List.getElem?_append] at hu
      split at hu
      · have := (g3 i u b hu hb).1; simp [this]
      · cases hq : i - vs.length with
        | zero => rw [hq] at hu; obtain rfl := Option.some.inj hu; simp [hb]
        | succ q => rw [hq] at hu; simp at hu
    · rw [List.getElem?_append] at hu
      split at hu
      · exact (g3 i u b hu hb).2.1
      · cases hq : i - vs.length with
        | zero => rw [hq] at hu; obtain rfl := Option.some.inj hu; exact fun e => hv b hb (e ▸ h.mem)
        | succ q => rw [hq] at hu; simp at hu
  · rw [List.getElem?_append] at hx
    split at hx
    · rename_i hlt
      obtain ⟨A, c, e, s, hA⟩ := g4 i x hx
      have hlt2 : i < ws.length := (List.getElem?_eq_some_iff.1 e).1
      refine ⟨A, c, by rw [List.getElem?_append_left hlt2]; exact e, s.keepP k (fun ad ea h0 hm => ?_), fun ad ea h0 => ?_⟩
      · have := (hA ad ea h0).resolve_left (fun h1 => by
          have hlo : W.heap.size ≤ ad.block := by
            simp only [List.mem_cons, List.mem_append, tl] at hm
            rcases hm with hm | hm | hm
            · rw [hm]; exact h.pl
            · exact (oL0.lt _ hm).1
            · exact (oW0.lt _ hm).1
          omega)
        simp only [List.mem_cons, List.mem_append, tl] at hm
        rcases hm with hm | hm | hm
        · exact this.2.1 hm
        · exact this.2.2.1 hm
        · exact this.2.2.2 hm
      · rcases hA ad ea h0 with h9 | h9
        · exact .inl h9
        refine .inr ?_
        have h8 := h.lts _ h9.1
        refine ⟨by simp [h9.1], h9.2.1, fun e => ?_, fun e => ?_⟩
        · rcases lL _ e with h1 | h1
          · exact h9.2.2.1 h1
          · omega
        · rcases lW _ e with h1 | h1
          · exact h9.2.2.2 h1
          · omega
    · have hq : i - ls.length = 0 := by
        cases hq : i - ls.length with
        | zero => rfl
        | succ q => rw [hq] at hx; simp at hx
      rw [hq] at hx
      obtain rfl := Option.some.inj hx
      have hwl : ws.length = ls.length := h.wl
      refine ⟨A2, c2, by rw [List.getElem?_append_right (by omega), show i - ws.length = 0 by omega, hv2]; rfl, s2, fun ad ea h0 => ?_⟩
      rcases hA2 ad ea h0 with h9 | h9
      · exact .inl h9
      · exact .inr ⟨by simp [h9.1], h9.2⟩
  · have := hMB x hx
    simp only [List.mem_cons, List.mem_append, tl] at hx
    rcases hx with rfl | hx | hx
    · exact h.pl
    · exact (oL0.lt x hx).1
    · exact (oW0.lt x hx).1
  · simp only [List.mem_append, tl] at hx
    rcases hx with hx | hx | hx | hx | hx
    · exact Nat.lt_of_lt_of_le (h.lts x hx) k.size
    · exact (o.lt x hx).2
    · exact hX2 x hx
    · exact (oL.lt x hx).2
    · exact (oW.lt x hx).2
  · rcases List.mem_append.1 hx with h1 | h1
    · exact h.ml x h1
    · simp at h1
      rw [h1]; exact hl
end Go.Proofs.Ytpjmbhhfpoamnaa
