import Derived.Test.YtpjmbhhfpoamnaaShelf13
import Derived.Test.YtpjmbhhfpoamnaaSame13
import Derived.Test.YtpjmbhhfpoamnaaChecked
import Derived.Deep.RegionLaw
import Derived.RangeFuncOwn
set_option linter.unusedVariables false
set_option linter.unusedSimpArgs false
namespace Go.Proofs.Ytpjmbhhfpoamnaa
open Go.RowKit
theorem EShl : ElemT Try.prog 34 22 (.slice none 0 0) 1 24 := ⟨Try.underlying34, by kernel_rfl, rfl, by decide⟩
theorem EBsh : ElemT Try.prog 22 5 (.int .u8 0) 1 1 := ⟨Try.underlying22, by kernel_rfl, rfl, by decide⟩
theorem apk_step {P : Program} {w : World} {ops : Array Oper} {o : Oper} {a : Act} {K : Act → World → Prop} {Q : Exit → Act → World → Prop} {F : Prop} {t e size bytes : Nat} {z : Value} (E : ElemT P t e z size bytes) (hgd : o.guard = none) (s x : Operand)
    (ho : o.op = .call { callee := .builtin .append, args := #[s, x], argTypes := #[t, t] }) {base : Nat}
    {v : Value} {n : Nat} {xs : List Value} (hs : a.eval s = v) (hown : w.ownsRow base e size v n xs)
    {A : Option Addr} {m c : Nat} {news : List Value} (hx : a.eval x = .slice A m c) (hsl : Sl w size A m c news) (h1 : ∀ u ∈ news, u.oneCell' = true)
    (h63 : n + m ≤ maxLen) (hbytes : (n + m) * bytes ≤ 140737488355328) (hbase : base ≤ w.heap.size)
    (h : ∀ v' w', w'.ownsRow base e size v' (n + m) (xs ++ news) → w.grownBy w' v.ownBlock → (∀ k, v'.ownBlock = some k → v.ownBlock = some k ∨ k = w.heap.size) → K (a.put o.dst v') w') :
    if Region.wanted o (yielded ops a.tmps) = true then Oper.wp P o a w K Q else F := by
  rw [if_pos (by simp [Region.wanted, hgd])]
  obtain ⟨i, hi, hz0, hz1, hz2⟩ := info_parts E.info
  cases A with
  | none =>
    obtain rfl : c = 0 := hsl.nil rfl
    obtain rfl : m = 0 := by have := hsl.le; omega
    obtain rfl : news = [] := List.eq_nil_of_length_eq_zero (by have := hsl.len; simpa using this)
    have hrun := run_append_owned_none (P := P) (w := w) base t o.type e i size E.und hi v n xs hown
    unfold Oper.wp
    simp [execOp, ho, resolve, invoke, builtin, hs, hx, hrun, Result.andThen]
    exact h v w (by simpa using hown) ⟨rfl, rfl, rfl, Nat.le_refl _, fun _ _ _ => rfl⟩ (fun k hk => .inl hk)
  | some ad =>
    obtain ⟨v', w', hr, h2, h3, h4⟩ := run_append_own (P := P) w base t o.type e i z size bytes E.und hi hz0 hz1 hz2 E.zs E.pos v n xs hown ad m c news hsl.len hsl.news h1 h63 hbytes hbase
    have h5 := ap_block (ty := o.type) E.und hi hz0 (hz1.symm ▸ hown) (hz1.symm ▸ hsl.len) hsl.news h1 h63 (hz2.symm ▸ hbytes) hr
    unfold Oper.wp execOp
    simp only [ho, resolve, invoke, builtin, Sem.run_bind, Sem.run_pure, Result.andThen_ok, List.map_toArray, List.map_cons, List.map_nil, hs, hx, hr]
    exact h v' w' h2 h3 h5
/-- what is no row of cells is as it was -/
def NonC (w w' : World) : Prop := ∀ (k : Nat) (o : Obj), w.heap[k]? = some o → o.isCells = false → w'.heap[k]? = some o
theorem nonC_of {M : List Nat} {W W' : World} (k : Keep M W W') (hM : ∀ x ∈ M, ∃ cs t fr, W.heap[x]? = some (.cells cs t fr)) : NonC W W' := fun i o hi ho => by
  have hlt := (Array.getElem?_eq_some_iff.1 hi).1
  by_cases hx : i ∈ M
  · obtain ⟨cs, t, fr, h⟩ := hM i hx
    rw [hi] at h
    have := Option.some.inj h
    subst this
    cases ho
  · exact (k.block i hlt hx).trans hi
theorem own_cells {w : World} {base e size n k : Nat} {v : Value} {xs : List Value} (o : w.ownsRow base e size v n xs) (hk : v.ownBlock = some k) : ∃ cs t fr, w.heap[k]? = some (.cells cs t fr) := by
  rcases o.2 with ⟨h1, _⟩ | ⟨g, cap, cur, h1, _, h3, _⟩
  · subst h1; cases hk
  · subst h1
    have e : g = k := Option.some.inj hk
    subst e
    exact ⟨_, _, _, h3⟩
theorem put_end {W w W2 w3 wa w5 : World} {p : Nat} {G : List Nat} {vs ws : List Value} {ls : List (List UInt8)} {N : Nat} {A A1 A3 A5 AL AW : Option Addr} {c c1 c3 c5 cL cW n nl : Nat} {l : List UInt8} (hT : (22 : Nat) ≠ 5) (h : Shf W w p G vs ws ls N) (hnl : nl = l.length) (hl : l.length ≤ N) (hn0 : n = vs.length) (hn1 : ws.length = n)
    (hb0 : w.heap[p]? = some (.cells #[.slice AL n cL, .slice AW n cW] 90 (0, 0))) (oL0 : w.ownsRow W.heap.size 22 1 (.slice AL n cL) n vs) (oW0 : w.ownsRow W.heap.size 22 1 (.slice AW n cW) n ws)
    (g1 : ∀ b, (Value.slice AL n cL).ownBlock = some b → b ≠ p ∧ b ∈ G) (g2 : ∀ b, (Value.slice AW n cW).ownBlock = some b → b ≠ p ∧ b ∈ G ∧ (Value.slice AL n cL).ownBlock ≠ some b) (hv : ∀ b, (Value.slice A l.length c).ownBlock = some b → b ∉ G)
    (oL2 : W2.ownsRow W.heap.size 22 1 (.slice A1 (n + 1) c1) (n + 1) (vs ++ [.slice A nl c])) (hlo1 : ∀ k, (Value.slice A1 (n + 1) c1).ownBlock = some k → (Value.slice AL n cL).ownBlock = some k ∨ k = w.heap.size + 1) (k2 : Keep (p :: (Value.slice AL n cL).ownBlock.toList) w W2) (ol2 : W2.ownsRow W.heap.size 5 1 (.slice A nl c) nl (l.map by8))
    (o3 : w3.ownsRow w.heap.size 5 1 (.slice A3 (0 + nl) c3) (0 + nl) ([] ++ l.map by8)) (k3 : Keep [] W2 w3)
    (o5 : w5.ownsRow W.heap.size 22 1 (.slice A5 (n + 1) c5) (n + 1) (ws ++ [.slice A3 nl c3])) (k5 : Keep (Value.slice AW n cW).ownBlock.toList w3 w5) (hb5 : w5.heap[p]? = some (.cells #[.slice A1 (n + 1) c1, .slice AW n cW] 90 (0, 0))) (hlo5 : ∀ k, (Value.slice A5 (n + 1) c5).ownBlock = some k → (Value.slice AW n cW).ownBlock = some k ∨ k = wa.heap.size) (hwa : w3.heap.size ≤ wa.heap.size) :
    ∃ v2 G', Shf W (w5.setCell ⟨p, 1, none⟩ (.slice A5 (n + 1) c5)) p G' (vs ++ [.slice A nl c]) (ws ++ [v2]) (ls ++ [l]) N ∧ Keep G w (w5.setCell ⟨p, 1, none⟩ (.slice A5 (n + 1) c5)) ∧ (∀ x ∈ G', x ∈ G ∨ (Value.slice A nl c).ownBlock = some x ∨ w.heap.size ≤ x) ∧ NonC w (w5.setCell ⟨p, 1, none⟩ (.slice A5 (n + 1) c5)) := by
  subst hnl; subst hn0
  rw [Nat.zero_add] at o3
  have hpw := h.lts p h.mem
  have hsz := k2.size
  have hs3 := k3.size
  have hlw : ∀ b, (Value.slice AW vs.length cW).ownBlock = some b → b < w.heap.size := fun b hb => h.lts b (g2 b hb).2.1
  have hll : ∀ b, (Value.slice AL vs.length cL).ownBlock = some b → b < w.heap.size := fun b hb => h.lts b (g1 b hb).2
  have kp : Keep [p] w5 (w5.setCell ⟨p, 1, none⟩ (.slice A5 (vs.length + 1) c5)) := (Keep.refl [p] w5).setCell (.inl (by simp)) _
  have hL2 : W2.heap.size ≤ w5.heap.size := Nat.le_trans k3.size k5.size
  have hA1p : ∀ k, (Value.slice A1 (vs.length + 1) c1).ownBlock = some k → k ≠ p := fun k hk e => by
    subst e
    rcases hlo1 k hk with h1 | h1
    · exact (g1 k h1).1 rfl
    · omega
  have kw : Keep (p :: ((Value.slice AL vs.length cL).ownBlock.toList ++ (Value.slice AW vs.length cW).ownBlock.toList)) w (w5.setCell ⟨p, 1, none⟩ (.slice A5 (vs.length + 1) c5)) :=
    (((k2.mono (M' := p :: ((Value.slice AL vs.length cL).ownBlock.toList ++ (Value.slice AW vs.length cW).ownBlock.toList)) (fun x hx => by simp only [List.mem_cons, List.mem_append] at hx ⊢; exact hx.elim .inl (fun h1 => .inr (.inl h1)))).trans' k3 (by simp)).trans' k5 (fun x hx => by simp only [List.mem_cons, List.mem_append]; exact .inl (.inr (.inr hx)))).trans' kp (fun x hx => by simp at hx; simp [hx])
  have oW6 : (w5.setCell ⟨p, 1, none⟩ (.slice A5 (vs.length + 1) c5)).ownsRow W.heap.size 22 1 (.slice A5 (vs.length + 1) c5) (ws.length + 1) (ws ++ [.slice A3 l.length c3]) := by
    rw [hn1]
    refine kp.own o5 (fun b hb hx => ?_)
    simp at hx
    subst hx
    rcases hlo5 b hb with h1 | h1
    · exact (g2 b h1).1 rfl
    · omega
  refine ⟨.slice A3 l.length c3, _, h.put hT hb0 (heap_setCell_same w5 p 1 _ _ _ hb5) (kp.own (k5.own (k3.own oL2 (by simp)) (fun b hb hx => ?_)) (fun b hb hx => hA1p b hb (by simpa using hx))) oW6 (C := W2.heap.size) (fun b hb => ?_) (fun b hb => ?_) hsz kw (kp.own (k5.own (k3.own ol2 (by simp)) (fun b hb hx => ?_)) (fun b hb hx => ?_)) hv (kp.own (k5.own o3 (fun b hb hx => ?_)) (fun b hb hx => ?_)) hl, kw.mono (fun x hx => ?_), fun x hx => ?_, nonC_of kw (fun x hx => ?_)⟩
  · rw [tl] at hx
    rcases hlo1 b hb with h1 | h1
    · exact (g2 b hx).2.2 h1
    · have := hlw b hx; omega
  · rcases hlo1 b hb with h1 | h1
    · exact .inl h1
    · have := (oL2.lt b hb).2
      exact .inr (by omega)
  · rcases hlo5 b hb with h1 | h1
    · exact .inl h1
    · exact .inr (by omega)
  · rw [tl] at hx
    exact hv b hb (g2 b hx).2.1
  · simp at hx
    subst hx
    exact hv b hb h.mem
  · rw [tl] at hx
    have := hlw b hx
    have := (o3.lt b hb).1
    omega
  · simp at hx
    have := (o3.lt b hb).1
    omega
  · simp only [List.mem_cons, List.mem_append, tl] at hx
    rcases hx with h1 | h1 | h1
    · rw [h1]; exact h.mem
    · exact (g1 x h1).2
    · exact (g2 x h1).2.1
  · simp only [List.mem_append, tl] at hx
    rcases hx with h1 | h1 | h1 | h1 | h1
    · exact .inl h1
    · exact .inr (.inl h1)
    · exact .inr (.inr (o3.lt x h1).1)
    · rcases hlo1 x h1 with h2 | h2
      · exact .inl (g1 x h2).2
      · exact .inr (.inr (by omega))
    · rcases hlo5 x h1 with h2 | h2
      · exact .inl (g2 x h2).2.1
      · exact .inr (.inr (by omega))
  · simp only [List.mem_cons, List.mem_append, tl] at hx
    rcases hx with h1 | h1 | h1
    · rw [h1]; exact ⟨_, _, _, hb0⟩
    · exact own_cells oL0 h1
    · exact own_cells oW0 h1
set_option maxRecDepth 100000 in
set_option maxHeartbeats 3200000 in
theorem put13 {W : World} (w : World) {p : Nat} {G : List Nat} {vs ws : List Value} {ls : List (List UInt8)} {N : Nat} (h : Shf W w p G vs ws ls N) {A : Option Addr} {c : Nat} {l : List UInt8}
    (o : w.ownsRow W.heap.size 5 1 (.slice A l.length c) l.length (l.map by8)) (hv : ∀ b, (Value.slice A l.length c).ownBlock = some b → b ∉ G) (hl : l.length ≤ N) (hN : N ≤ 100000000) (hn : vs.length ≤ 1000000000) :
    Calls Try.prog 100 #[.pointer (some ⟨p, 0, none⟩), .slice A l.length c] w fun e w' => e = .returned (.tuple #[]) ∧ ∃ v2 G', Shf W w' p G' (vs ++ [.slice A l.length c]) (ws ++ [v2]) (ls ++ [l]) N ∧ Keep G w w' ∧ (∀ x ∈ G', x ∈ G ∨ (Value.slice A l.length c).ownBlock = some x ∨ w.heap.size ≤ x) ∧ NonC w w' := by
  obtain ⟨vL, vW, hb0, oL, oW, g1, g2, g3, g4⟩ := h.out
  have hwl := h.wl; have hvl := h.many.len
  have hpl := h.lts p h.mem
  have hWw := h.below.size
  have hGm := h.mem
  obtain ⟨n, hn0⟩ : ∃ n, n = vs.length := ⟨_, rfl⟩
  have hn1 : ws.length = n := by rw [hn0, hwl, hvl]
  rw [hn1] at oW
  rw [← hn0] at oL hn
  obtain ⟨AL, cL, rfl, sL, hAL⟩ := own_sl oL
  obtain ⟨AW, cW, rfl, sW, hAW⟩ := own_sl oW
  obtain ⟨nl, hnl⟩ : ∃ nl, nl = l.length := ⟨_, rfl⟩
  have d0 := box_cell hb0 0 (.slice AL n cL) rfl
  have d1 := box_cell hb0 1 (.slice AW n cW) rfl
  have f0 := box_free hb0 0
  have hba : Below w.heap.size w (w.alloc (.cells #[.slice A nl c] 22)) := (Below.refl _ _).alloc (Nat.le_refl _) _
  have hlw : w.ownsRow W.heap.size 5 1 (.slice A nl c) nl (l.map by8) := by rw [hnl]; exact o
  have H0 := Lib.hid (And.intro h (And.intro oL (And.intro oW (And.intro hb0 (And.intro hlw (And.intro hv hba))))))
  have HL := Lib.hid (And.intro hnl (And.intro hl (And.intro hn0 hn1)))
  have HG := Lib.hid (And.intro g1 g2)
  rw [← hnl] at ⊢
  have hnN : nl ≤ 100000000 := by omega
  clear h oL oW hb0 o hv hl sL sW hnl g1 g2 g3 g4 hba hwl hvl hn0 hn1 hlw
  go_enter Try.func100, Try.ntmps100
  go_wp2_with (first | (at_builtin; refine Stopped.out ?_) | (at_make; refine Stopped.out ?_))
  refine Stopped.mk (apk_own EShl rfl (.tmp 9) (.tmp 11) rfl rfl (own_below H0.out.2.1 H0.out.2.2.2.2.2.2) rfl (Sl.fresh w [.slice A nl c] 22 1 1 rfl (by decide)) (by simp [Value.oneCell']) (by simp only [maxLen]; omega) (by omega) (by simp; omega) ?_)
  intro v1 w1 o1 hg1 hloc1
  have hg1' : (w.alloc (.cells #[.slice A nl c] 22)).grownBy w1 (Value.slice AL n cL).ownBlock := hg1
  have k1 : Keep (Value.slice AL n cL).ownBlock.toList w w1 := (Keep.of_below H0.out.2.2.2.2.2.2 _).trans ((Keep.refl _ _).grown hg1' (fun b e => .inl (by simp [e])))
  have hpn : p ∉ (Value.slice AL n cL).ownBlock.toList := fun hx => (HG.out.1 p (by simpa using hx)).1 rfl
  have hb1 := k1.heap H0.out.2.2.2.1 hpn
  have hpl1 : p < w1.heap.size := Nat.lt_of_lt_of_le hpl k1.size
  have e0 := box_cell hb1 0 (.slice AL n cL) rfl
  have e0f := box_free hb1 0
  obtain ⟨A1, c1, rfl, sl1, _⟩ := own_sl o1
  have H1 := Lib.hid (And.intro o1 (And.intro k1 (And.intro hb1 (And.intro hloc1 hg1'))))
  have hb2 := heap_setCell_same w1 p 0 _ _ (.slice A1 (n + 1) c1) hb1
  clear o1 hg1 hg1' hloc1 k1 hb1 sl1 d0 d1 f0
  go_wp2_with fail
  obtain ⟨W2, hW2⟩ : ∃ W2, W2 = w1.setCell ⟨p, 0, none⟩ (.slice A1 (n + 1) c1) := ⟨_, rfl⟩
  have ks : Keep [p] w1 W2 := by rw [hW2]; exact (Keep.refl [p] w1).setCell (.inl (by simp)) _
  rw [← hW2] at hb2 ⊢
  replace hb2 : W2.heap[p]? = some (.cells #[.slice A1 (n + 1) c1, .slice AW n cW] 90) := hb2
  have hAWn : ∀ b, (Value.slice AW n cW).ownBlock = some b → b ≠ p ∧ b ∉ (Value.slice AL n cL).ownBlock.toList := fun b hb => ⟨(HG.out.2 b (by cases AW <;> exact hb)).1, fun hx => (HG.out.2 b (by cases AW <;> exact hb)).2.2 (by cases AL <;> simpa using hx)⟩
  have hLn : ∀ b, (Value.slice A nl c).ownBlock = some b → b ∉ G := fun b hb => H0.out.2.2.2.2.2.1 b (by cases A <;> exact hb)
  have oW2 : W2.ownsRow W.heap.size 22 1 (.slice AW n cW) n ws := ks.own (H1.out.2.1.own H0.out.2.2.1 (fun b hb => (hAWn b hb).2)) (fun b hb hx => (hAWn b hb).1 (by simpa using hx))
  have ol2 : W2.ownsRow W.heap.size 5 1 (.slice A nl c) nl (l.map by8) := ks.own (H1.out.2.1.own H0.out.2.2.2.2.1 (fun b hb hx => hLn b hb (HG.out.1 b (by cases AL <;> simpa using hx)).2)) (fun b hb hx => hLn b hb (by simp at hx; rw [hx]; exact hGm))
  have hlo1 : ∀ k, (Value.slice A1 (n + 1) c1).ownBlock = some k → (Value.slice AL n cL).ownBlock = some k ∨ k = w.heap.size + 1 := fun k hk => by
    rcases H1.out.2.2.2.1 k hk with h1 | h1
    · exact .inl h1
    · exact .inr (by simpa using h1)
  have oL2 : W2.ownsRow W.heap.size 22 1 (.slice A1 (n + 1) c1) (n + 1) (vs ++ [.slice A nl c]) := ks.own H1.out.1 (fun b hb hx => by
    simp at hx
    subst hx
    rcases hlo1 b hb with h1 | h1
    · exact hpn (by simpa using h1)
    · omega)
  have k2 : Keep (p :: (Value.slice AL n cL).ownBlock.toList) w W2 := by
    rw [hW2]
    exact (H1.out.2.1.mono (fun x hx => by simp at hx ⊢; exact .inr hx)).setCell (.inl (by simp)) _
  have H2 := Lib.hid (And.intro oL2 (And.intro hlo1 (And.intro k2 (And.intro hb2 (And.intro oW2 ol2)))))
  have g1 := box_cell hb2 1 (.slice AW n cW) rfl
  have g1f := box_free hb2 1
  have hsz : w.heap.size ≤ W2.heap.size := k2.size
  clear oL2 hlo1 k2 hb2 hpl1 e0 e0f ks hW2
  go_region_law (first
    | (refine apk_step EShl rfl (.tmp 19) (.tmp 23) rfl rfl (own_below oW3 hbb) rfl (Sl.fresh w3 [.slice A3 nl c3] 22 1 1 rfl (by decide)) (by simp [Value.oneCell']) (by simp only [maxLen]; omega) (by omega) (by simp; omega) ?_
       intro v5 w5 o5 hg5 hloc5
       have hg5' : (w3.alloc (.cells #[.slice A3 nl c3] 22)).grownBy w5 (Value.slice AW n cW).ownBlock := hg5
       have hloc5' : ∀ k, v5.ownBlock = some k → (Value.slice AW n cW).ownBlock = some k ∨ k = (w3.alloc (.cells #[.slice A3 nl c3] 22)).heap.size := hloc5
       have k5 : Keep (Value.slice AW n cW).ownBlock.toList w3 w5 := (Keep.of_below hbb _).trans ((Keep.refl _ _).grown hg5' (fun b e => .inl (by simp [e])))
       have hb5 := k5.heap H3.out.2.2.1 (fun hx => (hAWn p (by simpa using hx)).1 rfl)
       have i1 := box_cell hb5 1 (.slice AW n cW) rfl
       have i1f := box_free hb5 1
       obtain ⟨A5, c5, rfl, _, _⟩ := own_sl o5
       have H5 := Lib.hid (And.intro o5 (And.intro k5 (And.intro hb5 hloc5')))
       clear o5 hg5 hg5' hloc5 hloc5' k5 hb5)
    | (refine apk_step EBsh rfl (.tmp 20) (.tmp 21) rfl (base := w.heap.size) (v := .slice none 0 0) rfl (World.ownsRow_nil _ _ _ _) rfl (own_sl' ol2.drew).2.1 (by simp [by8, Value.oneCell']) (by simp only [maxLen]; omega) (by omega) (by simp; omega) ?_
       intro v3 w3 o3 hg3 hloc3
       have k3 : Keep [] W2 w3 := (Keep.refl _ W2).drew.grown hg3 (fun b e => by cases e)
       have hb3 := k3.heap H2.out.2.2.2.1 (by simp)
       have hs3 : W2.heap.size ≤ w3.heap.size := k3.size
       have h1 := box_cell hb3 1 (.slice AW n cW) rfl
       have h1f := box_free hb3 1
       obtain ⟨A3, c3, rfl, _, _⟩ := own_sl o3
       have oW3 := k3.own oW2 (by simp)
       have H3 := Lib.hid (And.intro o3 (And.intro k3 (And.intro hb3 hloc3)))
       have hbb : Below w3.heap.size w3 (w3.alloc (.cells #[.slice A3 nl c3] 22)) := (Below.refl _ _).alloc (Nat.le_refl _) _
       have h2 := box_cell ((Keep.of_below hbb []).heap hb3 (by simp)) 1 (.slice AW n cW) rfl
       clear o3 hg3 hloc3 k3 hb3))
  all_goals go_wp2_with fail
  all_goals go_end0
  all_goals exact ⟨rfl, put_end (by decide) H0.out.1 HL.out.1 HL.out.2.1 HL.out.2.2.1 HL.out.2.2.2 H0.out.2.2.2.1 H0.out.2.1 H0.out.2.2.1 HG.out.1 HG.out.2 H0.out.2.2.2.2.2.1 H2.out.1 H2.out.2.1 H2.out.2.2.1 ol2 H3.out.1 H3.out.2.1 H5.out.1 H5.out.2.1 H5.out.2.2.1 H5.out.2.2.2 (by simp)⟩
end Go.Proofs.Ytpjmbhhfpoamnaa
