import Derived.Test.YtdooabbeolfgfaaShelf01
import Derived.Test.YtdooabbeolfgfaaSame
import Derived.Test.YtdooabbeolfgfaaChecked
set_option linter.unusedVariables false
set_option linter.unusedSimpArgs false
namespace Go.Proofs.Ytdooabbeolfgfaa
open Go.RowKit
theorem EShl : ElemT Try.prog 25 24 (.slice none 0 0) 1 24 := ⟨Try.underlying25, by kernel_rfl, rfl, by decide⟩
theorem EBsh : ElemT Try.prog 24 5 (.int .u8 0) 1 1 := ⟨Try.underlying24, by kernel_rfl, rfl, by decide⟩
theorem put_end1 {W w W2 wa w5 : World} {p : Nat} {G : List Nat} {vs ws : List Value} {ls : List (List UInt8)} {N : Nat} {A A1 A2 A5 AL AW : Option Addr} {c c1 c2 c5 cL cW n nl : Nat} {l : List UInt8} (hT : (24 : Nat) ≠ 5) (h : Shf W w p G vs ws ls N) (hnl : nl = l.length) (hl : l.length ≤ N) (hn0 : n = vs.length) (hn1 : ws.length = n)
    (hb0 : w.heap[p]? = some (.cells #[.slice AL n cL, .slice AW n cW] 47 (0, 0)))
    (g1 : ∀ b, (Value.slice AL n cL).ownBlock = some b → b ≠ p ∧ b ∈ G) (g2 : ∀ b, (Value.slice AW n cW).ownBlock = some b → b ≠ p ∧ b ∈ G ∧ (Value.slice AL n cL).ownBlock ≠ some b) (hv : ∀ b, (Value.slice A l.length c).ownBlock = some b → b ∉ G)
    (hsL : ∀ b, (Value.slice AL n cL).ownBlock = some b → W.heap.size ≤ b) (hsW : ∀ b, (Value.slice AW n cW).ownBlock = some b → W.heap.size ≤ b)
    (oL2 : W2.ownsRow W.heap.size 24 1 (.slice A1 (n + 1) c1) (n + 1) (vs ++ [.slice A nl c])) (hlo1 : ∀ k, (Value.slice A1 (n + 1) c1).ownBlock = some k → (Value.slice AL n cL).ownBlock = some k ∨ k = w.heap.size + 1) (k2 : Keep (p :: (Value.slice AL n cL).ownBlock.toList) w W2) (ol2 : W2.ownsRow W.heap.size 5 1 (.slice A nl c) nl (l.map by8))
    (s2 : Sl w 1 A2 nl c2 (l.map by8)) (hA2 : ∀ ad, A2 = some ad → 0 < nl → ad.block < W.heap.size ∨ ad.block ∉ G)
    (o5 : w5.ownsRow W.heap.size 24 1 (.slice A5 (n + 1) c5) (n + 1) (ws ++ [.slice A2 nl c2])) (k5 : Keep (Value.slice AW n cW).ownBlock.toList W2 w5) (hb5 : w5.heap[p]? = some (.cells #[.slice A1 (n + 1) c1, .slice AW n cW] 47 (0, 0))) (hlo5 : ∀ k, (Value.slice A5 (n + 1) c5).ownBlock = some k → (Value.slice AW n cW).ownBlock = some k ∨ k = wa.heap.size) (hwa : W2.heap.size ≤ wa.heap.size) :
    (∃ G', Shf W (w5.setCell ⟨p, 1, none⟩ (.slice A5 (n + 1) c5)) p G' (vs ++ [.slice A nl c]) (ws ++ [.slice A2 nl c2]) (ls ++ [l]) N ∧ Keep G w (w5.setCell ⟨p, 1, none⟩ (.slice A5 (n + 1) c5)) ∧ ∀ x ∈ G', x ∈ G ∨ (Value.slice A nl c).ownBlock = some x ∨ (0 < l.length ∧ A2.map Addr.block = some x) ∨ w.heap.size ≤ x) ∧ Sl (w5.setCell ⟨p, 1, none⟩ (.slice A5 (n + 1) c5)) 1 A nl c (l.map by8) ∧ Sl (w5.setCell ⟨p, 1, none⟩ (.slice A5 (n + 1) c5)) 1 A2 nl c2 (l.map by8) := by
  subst hnl; subst hn0
  have hpw := h.lts p h.mem
  have hsz := k2.size
  have hlw : ∀ b, (Value.slice AW vs.length cW).ownBlock = some b → b < w.heap.size := fun b hb => h.lts b (g2 b hb).2.1
  have hll : ∀ b, (Value.slice AL vs.length cL).ownBlock = some b → b < w.heap.size := fun b hb => h.lts b (g1 b hb).2
  have kp : Keep [p] w5 (w5.setCell ⟨p, 1, none⟩ (.slice A5 (vs.length + 1) c5)) := (Keep.refl [p] w5).setCell (.inl (by simp)) _
  have hA1p : ∀ k, (Value.slice A1 (vs.length + 1) c1).ownBlock = some k → k ≠ p := fun k hk e => by
    subst e
    rcases hlo1 k hk with h1 | h1
    · exact (g1 k h1).1 rfl
    · omega
  have kw : Keep (p :: ((Value.slice AL vs.length cL).ownBlock.toList ++ (Value.slice AW vs.length cW).ownBlock.toList)) w (w5.setCell ⟨p, 1, none⟩ (.slice A5 (vs.length + 1) c5)) :=
    ((k2.mono (M' := p :: ((Value.slice AL vs.length cL).ownBlock.toList ++ (Value.slice AW vs.length cW).ownBlock.toList)) (fun x hx => by simp only [List.mem_cons, List.mem_append] at hx ⊢; exact hx.elim .inl (fun h1 => .inr (.inl h1)))).trans' k5 (fun x hx => by simp only [List.mem_cons, List.mem_append]; exact .inl (.inr (.inr hx)))).trans' kp (fun x hx => by simp at hx; simp [hx])
  have oW6 : (w5.setCell ⟨p, 1, none⟩ (.slice A5 (vs.length + 1) c5)).ownsRow W.heap.size 24 1 (.slice A5 (vs.length + 1) c5) (ws.length + 1) (ws ++ [.slice A2 l.length c2]) := by
    rw [hn1]
    refine kp.own o5 (fun b hb hx => ?_)
    simp at hx
    subst hx
    rcases hlo5 b hb with h1 | h1
    · exact (g2 b h1).1 rfl
    · omega
  have hMG : ∀ x ∈ p :: ((Value.slice AL vs.length cL).ownBlock.toList ++ (Value.slice AW vs.length cW).ownBlock.toList), x ∈ G ∧ W.heap.size ≤ x := fun x hx => by
    simp only [List.mem_cons, List.mem_append, tl] at hx
    rcases hx with h1 | h1 | h1
    · rw [h1]; exact ⟨h.mem, h.pl⟩
    · exact ⟨(g1 x h1).2, hsL x h1⟩
    · exact ⟨(g2 x h1).2.1, hsW x h1⟩
  have s6 : Sl (w5.setCell ⟨p, 1, none⟩ (.slice A5 (vs.length + 1) c5)) 1 A2 l.length c2 (l.map by8) := s2.keepP kw (fun ad ea h0 hm => by
    rcases hA2 ad ea h0 with h1 | h1
    · have := (hMG _ hm).2; omega
    · exact h1 (hMG _ hm).1)
  have ol6 : (w5.setCell ⟨p, 1, none⟩ (.slice A5 (vs.length + 1) c5)).ownsRow W.heap.size 5 1 (.slice A l.length c) l.length (l.map by8) := kp.own (k5.own ol2 (fun b hb hx => by
    rw [tl] at hx
    exact hv b hb (g2 b hx).2.1)) (fun b hb hx => by
    simp at hx
    subst hx
    exact hv b hb h.mem)
  have hlt2 : ∀ ad, A2 = some ad → 0 < l.length → ad.block < w.heap.size := fun ad ea h0 => by
    obtain ⟨hs, hc⟩ := s2.at_ ad ea (by simpa using h0)
    have h9 := World.block_lt_of_cell? w ⟨ad.block, ad.off + 0, none⟩ (hc 0 (by simpa using h0))
    exact h9
  refine ⟨⟨_, h.putG hT hb0 (heap_setCell_same w5 p 1 _ _ _ hb5) (kp.own (k5.own oL2 (fun b hb hx => ?_)) (fun b hb hx => hA1p b hb (by simpa using hx))) oW6 (C := W2.heap.size) (fun b hb => ?_) (fun b hb => ?_) hsz kw ol6 hv (A2 := A2) (c2 := c2) (X2 := if 0 < l.length then (A2.map Addr.block).toList else []) rfl s6 (fun x hx => ?_) (fun ad ea h0 => ?_) hl, kw.mono (fun x hx => (hMG x hx).1), fun x hx => ?_⟩, (own_sl' ol6).2.1, s6⟩
  · rw [tl] at hx
    rcases hlo1 b hb with h1 | h1
    · exact (g2 b hx).2.2 h1
    · have := hlw b hx; omega
  · rcases hlo1 b hb with h1 | h1
    · exact .inl h1
    · have := (oL2.lt b hb).2
      exact .inr (by omega)
  · rcases hlo5 b hb with h1 | h1
    · exact .inl h1
    · exact .inr (by omega)
  · split at hx
    · rename_i h0
      cases hA : A2 with
      | none => rw [hA] at hx; simp at hx
      | some ad =>
        rw [hA] at hx
        simp at hx
        have := hlt2 ad hA h0
        have := kw.size
        omega
    · simp at hx
  · rcases hA2 ad ea h0 with h1 | h1
    · exact .inl h1
    · have h8 := hlt2 ad ea h0
      refine .inr ⟨by rw [if_pos h0, ea]; simp, fun e => h1 (e ▸ h.mem), fun e => ?_, fun e => ?_⟩
      · rcases hlo1 _ e with h2 | h2
        · exact h1 (g1 _ h2).2
        · omega
      · rcases hlo5 _ e with h2 | h2
        · exact h1 (g2 _ h2).2.1
        · omega
  · simp only [List.mem_append, tl] at hx
    rcases hx with h1 | h1 | h1 | h1 | h1
    · exact .inl h1
    · exact .inr (.inl h1)
    · split at h1
      · rename_i h0; exact .inr (.inr (.inl ⟨h0, by simpa using h1⟩))
      · simp at h1
    · rcases hlo1 x h1 with h2 | h2
      · exact .inl (g1 x h2).2
      · exact .inr (.inr (.inr (by omega)))
    · rcases hlo5 x h1 with h2 | h2
      · exact .inl (g2 x h2).2.1
      · exact .inr (.inr (.inr (by omega)))
set_option maxRecDepth 100000 in
set_option maxHeartbeats 1600000 in
theorem put01 {W : World} (w : World) {p : Nat} {G : List Nat} {vs ws : List Value} {ls : List (List UInt8)} {N : Nat} (h : Shf W w p G vs ws ls N) {A A2 : Option Addr} {c c2 : Nat} {l : List UInt8}
    (o : w.ownsRow W.heap.size 5 1 (.slice A l.length c) l.length (l.map by8)) (hv : ∀ b, (Value.slice A l.length c).ownBlock = some b → b ∉ G) (s2 : Sl w 1 A2 l.length c2 (l.map by8)) (hA2 : ∀ ad, A2 = some ad → 0 < l.length → ad.block < W.heap.size ∨ ad.block ∉ G) (hl : l.length ≤ N) (hN : N ≤ 100000000) (hn : vs.length ≤ 1000000000) :
    Calls Try.prog 132 #[.pointer (some ⟨p, 0, none⟩), .slice A l.length c, .slice A2 l.length c2] w fun e w' => e = .returned (.bool true) ∧ ∃ G', Shf W w' p G' (vs ++ [.slice A l.length c]) (ws ++ [.slice A2 l.length c2]) (ls ++ [l]) N ∧ Keep G w w' ∧ ∀ x ∈ G', x ∈ G ∨ (Value.slice A l.length c).ownBlock = some x ∨ (0 < l.length ∧ A2.map Addr.block = some x) ∨ w.heap.size ≤ x := by
  obtain ⟨vL, vW, hb0, oL, oW, g1, g2, g3, g4⟩ := h.out
  have hwl := h.wl; have hvl := h.many.len
  have hpl := h.lts p h.mem
  have hWw := h.below.size
  have hGm := h.mem
  obtain ⟨n, hn0⟩ : ∃ n, n = vs.length := ⟨_, rfl⟩
  have hn1 : ws.length = n := by rw [hn0, hwl, hvl]
  rw [hn1] at oW
  rw [← hn0] at oL hn
  have hsL := fun b hb => (oL.lt b hb).1
  have hsW := fun b hb => (oW.lt b hb).1
  obtain ⟨AL, cL, rfl, sL, _⟩ := own_sl oL
  obtain ⟨AW, cW, rfl, sW, _⟩ := own_sl oW
  obtain ⟨nl, hnl⟩ : ∃ nl, nl = l.length := ⟨_, rfl⟩
  have d0 := box_cell hb0 0 (.slice AL n cL) rfl
  have hba : Below w.heap.size w (w.alloc (.cells #[.slice A nl c] 24)) := (Below.refl _ _).alloc (Nat.le_refl _) _
  have hlw : w.ownsRow W.heap.size 5 1 (.slice A nl c) nl (l.map by8) := by rw [hnl]; exact o
  have hs2 : Sl w 1 A2 nl c2 (l.map by8) := by rw [hnl]; exact s2
  have hA2' : ∀ ad, A2 = some ad → 0 < nl → ad.block < W.heap.size ∨ ad.block ∉ G := by rw [hnl]; exact hA2
  have H0 := Lib.hid (And.intro h (And.intro oL (And.intro oW (And.intro hb0 (And.intro hlw (And.intro hv hba))))))
  have HL := Lib.hid (And.intro hnl (And.intro hl (And.intro hn0 hn1)))
  have HG := Lib.hid (And.intro g1 g2)
  have HS := Lib.hid (And.intro hs2 (And.intro hA2' (And.intro hsL hsW)))
  rw [← hnl] at ⊢
  have hnN : nl ≤ 100000000 := by omega
  clear h oL oW hb0 o hv hl sL sW hnl g1 g2 g3 g4 hba hwl hvl hn0 hn1 hlw s2 hA2 hs2 hA2' hsL hsW
  go_enter Try.func132, Try.ntmps132
  go_wp2_with (first | (at_builtin; refine Stopped.out ?_) | (at_make; refine Stopped.out ?_))
  refine Stopped.mk (apk_own EShl rfl (.tmp 11) (.tmp 13) rfl rfl (own_below H0.out.2.1 H0.out.2.2.2.2.2.2) rfl (Sl.fresh w [.slice A nl c] 24 1 1 rfl (by decide)) (by simp [Value.oneCell']) (by simp only [maxLen]; omega) (by omega) (by simp; omega) ?_)
  intro v1 w1 o1 hg1 hloc1
  have hg1' : (w.alloc (.cells #[.slice A nl c] 24)).grownBy w1 (Value.slice AL n cL).ownBlock := hg1
  have k1 : Keep (Value.slice AL n cL).ownBlock.toList w w1 := (Keep.of_below H0.out.2.2.2.2.2.2 _).trans ((Keep.refl _ _).grown hg1' (fun b e => .inl (by simp [e])))
  have hpn : p ∉ (Value.slice AL n cL).ownBlock.toList := fun hx => (HG.out.1 p (by simpa using hx)).1 rfl
  have hb1 := k1.heap H0.out.2.2.2.1 hpn
  have e0 := box_cell hb1 0 (.slice AL n cL) rfl
  have e0f := box_free hb1 0
  have e1 := box_cell hb1 1 (.slice AW n cW) rfl
  obtain ⟨A1, c1, rfl, sl1, _⟩ := own_sl o1
  have H1 := Lib.hid (And.intro o1 (And.intro k1 (And.intro hb1 (And.intro hloc1 hg1'))))
  have hb2 := heap_setCell_same w1 p 0 _ _ (.slice A1 (n + 1) c1) hb1
  have hpl1 : p < w1.heap.size := Nat.lt_of_lt_of_le hpl k1.size
  obtain ⟨W2, hW2⟩ : ∃ W2, W2 = w1.setCell ⟨p, 0, none⟩ (.slice A1 (n + 1) c1) := ⟨_, rfl⟩
  have ks : Keep [p] w1 W2 := by rw [hW2]; exact (Keep.refl [p] w1).setCell (.inl (by simp)) _
  rw [← hW2] at hb2
  replace hb2 : W2.heap[p]? = some (.cells #[.slice A1 (n + 1) c1, .slice AW n cW] 47 (0, 0)) := hb2
  have hAWn : ∀ b, (Value.slice AW n cW).ownBlock = some b → b ≠ p ∧ b ∉ (Value.slice AL n cL).ownBlock.toList := fun b hb => ⟨(HG.out.2 b hb).1, fun hx => (HG.out.2 b hb).2.2 (by simpa using hx)⟩
  have hLn : ∀ b, (Value.slice A nl c).ownBlock = some b → b ∉ G := fun b hb => H0.out.2.2.2.2.2.1 b (by cases A <;> exact hb)
  have oW2 : W2.ownsRow W.heap.size 24 1 (.slice AW n cW) n ws := ks.own (H1.out.2.1.own H0.out.2.2.1 (fun b hb => (hAWn b hb).2)) (fun b hb hx => (hAWn b hb).1 (by simpa using hx))
  have ol2 : W2.ownsRow W.heap.size 5 1 (.slice A nl c) nl (l.map by8) := ks.own (H1.out.2.1.own H0.out.2.2.2.2.1 (fun b hb hx => hLn b hb (HG.out.1 b (by simpa using hx)).2)) (fun b hb hx => hLn b hb (by simp at hx; rw [hx]; exact hGm))
  have hlo1 : ∀ k, (Value.slice A1 (n + 1) c1).ownBlock = some k → (Value.slice AL n cL).ownBlock = some k ∨ k = w.heap.size + 1 := fun k hk => by
    rcases H1.out.2.2.2.1 k hk with h1 | h1
    · exact .inl h1
    · exact .inr (by simpa using h1)
  have oL2 : W2.ownsRow W.heap.size 24 1 (.slice A1 (n + 1) c1) (n + 1) (vs ++ [.slice A nl c]) := ks.own H1.out.1 (fun b hb hx => by
    simp at hx
    subst hx
    rcases hlo1 b hb with h1 | h1
    · exact hpn (by simpa using h1)
    · omega)
  have k2 : Keep (p :: (Value.slice AL n cL).ownBlock.toList) w W2 := by
    rw [hW2]
    exact (H1.out.2.1.mono (fun x hx => by simp at hx ⊢; exact .inr hx)).setCell (.inl (by simp)) _
  have H2 := Lib.hid (And.intro oL2 (And.intro hlo1 (And.intro k2 (And.intro hb2 (And.intro oW2 ol2)))))
  have q1 := box_cell hb2 1 (.slice AW n cW) rfl
  have hsz : w.heap.size ≤ W2.heap.size := k2.size
  have hba2 : Below W2.heap.size W2 (W2.alloc (.cells #[.slice A2 nl c2] 24)) := (Below.refl _ _).alloc (Nat.le_refl _) _
  have HB2 := Lib.hid hba2
  have q2 := cell_below q1 hba2
  clear o1 hg1 hg1' hloc1 k1 hb1 sl1 d0 oL2 hlo1 k2 hb2 hpl1 ks hba2
  have sfr := Sl.fresh W2 [.slice A2 nl c2] 24 1 1 rfl (by decide)
  rw [show W2.heap.size = w1.heap.size by rw [hW2]; simp] at sfr
  go_wp2_with (first | (at_builtin; refine Stopped.out ?_) | (at_make; refine Stopped.out ?_))
  rw [← hW2]
  clear hW2 e0 e0f e1
  refine Stopped.mk (apk_own EShl rfl (.tmp 21) (.tmp 23) rfl rfl (own_below oW2 HB2.out) rfl sfr (by simp [Value.oneCell']) (by simp only [maxLen]; omega) (by omega) (by simp; omega) ?_)
  intro v5 w5 o5 hg5 hloc5
  have hg5' : (W2.alloc (.cells #[.slice A2 nl c2] 24)).grownBy w5 (Value.slice AW n cW).ownBlock := hg5
  have k5 : Keep (Value.slice AW n cW).ownBlock.toList W2 w5 := (Keep.of_below HB2.out _).trans ((Keep.refl _ _).grown hg5' (fun b e => .inl (by simp [e])))
  have hb5 := k5.heap H2.out.2.2.2.1 (fun hx => (hAWn p (by simpa using hx)).1 rfl)
  have i1 := box_cell hb5 1 (.slice AW n cW) rfl
  have i1f := box_free hb5 1
  obtain ⟨A5, c5, rfl, _, _⟩ := own_sl o5
  have hE := put_end1 (by decide) H0.out.1 HL.out.1 HL.out.2.1 HL.out.2.2.1 HL.out.2.2.2 H0.out.2.2.2.1 HG.out.1 HG.out.2 H0.out.2.2.2.2.2.1 HS.out.2.2.1 HS.out.2.2.2 H2.out.1 H2.out.2.1 H2.out.2.2.1 ol2 HS.out.1 HS.out.2.1 o5 k5 hb5 hloc5 (by simp)
  have HE := Lib.hid hE
  clear o5 hg5 hg5' hloc5 k5 hb5 hE q1 q2
  go_wp2_with (first | (at_builtin; refine Stopped.out ?_) | (at_make; refine Stopped.out ?_))
  refine (same01 _ HE.out.2.1 HE.out.2.2).mono ?_
  rintro e w6 ⟨rfl, hd⟩
  rw [decide_eq_true rfl]
  obtain ⟨⟨G', hS, hK, hG'⟩, _, _⟩ := HE.out
  have HF := Lib.hid (And.intro (hS.then_ hd.below) (And.intro (hK.trans' (hd.keep []) (by simp)) hG'))
  clear hS hK hG' hd
  go_wp2
  go_ret
  exact ⟨rfl, G', HF.out.1, HF.out.2.1, fun x hx => (HF.out.2.2 x hx).imp id (fun h => h.imp id (fun h => h.imp (fun h => ⟨by have := h.1; have := HL.out.1; omega, h.2⟩) id))⟩
end Go.Proofs.Ytdooabbeolfgfaa
