import Derived.Test.YtdooabbeolfgfaaWCut
import Derived.Deep.RegionHeld3
set_option linter.unusedVariables false
set_option linter.unusedSimpArgs false
namespace Go.Proofs.Ytdooabbeolfgfaa
open Go.RowKit
/-! ### one form -/
theorem own_neT {W : World} {B B' T T' s s' n n' k : Nat} {v v' : Value} {xs xs' : List Value} (o : W.ownsRow B T s v n xs) (o' : W.ownsRow B' T' s' v' n' xs') (h : T ≠ T') (hk : v.ownBlock = some k) : v'.ownBlock ≠ some k := fun hk' => by
  rcases o.2 with ⟨rfl, _⟩ | ⟨g, c, cu, rfl, _, hg, _⟩
  · cases hk
  · rcases o'.2 with ⟨rfl, _⟩ | ⟨g', c', cu', rfl, _, hg', _⟩
    · cases hk'
    · injection hk with hk; injection hk' with hk'
      have hk2 : g = k := hk
      have hk3 : g' = k := hk'
      subst hk2; subst hk3
      rw [hg] at hg'
      injection hg' with hg'; injection hg' with _ hg' _
      exact h hg'
/-- the steps that were read, in memory of their own -/
structure OneSt (w6 wr : World) (v : Value) (ls : List St9) : Prop where
  out : ∃ vs, wr.ownsRow w6.heap.size 70 6 v ls.length vs ∧ ∀ (i : Nat) s, ls[i]? = some s → ∃ vb vl, wr.ownsRow w6.heap.size 5 1 vb s.b.length (s.b.map by8) ∧ wr.ownsRow w6.heap.size 23 1 vl s.ns.length (s.ns.map by64) ∧
    ∀ j u, ([Value.int .i64 s.kd, .int .u64 (s.x : Int), vb, vl, .int .i64 s.n, .int .i64 s.most] : List Value)[j]? = some u → vs[i * 6 + j]? = some u
theorem OneSt.nil (w6 wr : World) : OneSt w6 wr (.slice none 0 0) [] := ⟨[], World.ownsRow_nil .., fun i s h => by simp at h⟩
theorem OneSt.keep {w6 wr w' : World} {v : Value} {ls : List St9} {M : List Nat} (h : OneSt w6 wr v ls) (k : Keep M wr w') (hM : ∀ x ∈ M, x < w6.heap.size) : OneSt w6 w' v ls := by
  obtain ⟨vs, o, hr⟩ := h.out
  have low : ∀ {T sz n : Nat} {u : Value} {xs : List Value}, wr.ownsRow w6.heap.size T sz u n xs → w'.ownsRow w6.heap.size T sz u n xs := fun o => k.own o (fun b hb hx => by have := (o.lt b hb).1; have := hM b hx; omega)
  exact ⟨vs, low o, fun i s hs => by
    obtain ⟨vb, vl, o1, o2, hc⟩ := hr i s hs
    exact ⟨vb, vl, low o1, low o2, hc⟩⟩
theorem OneSt.below {w6 wr w' : World} {v : Value} {ls : List St9} (h : OneSt w6 wr v ls) (k : Below wr.heap.size wr w') : OneSt w6 w' v ls := h.keep (Keep.of_below k []) (by simp)
theorem OneSt.sts {w6 wr : World} {v : Value} {ls : List St9} (h : OneSt w6 wr v ls) (hb : ∀ s ∈ ls, s.b.length ≤ 100000 ∧ s.ns.length ≤ 100000 ∧ s.x < 18446744073709551616) (hk : ∀ s ∈ ls, (-9223372036854775808 ≤ s.kd ∧ s.kd ≤ 9223372036854775807) ∧ (-9223372036854775808 ≤ s.n ∧ s.n ≤ 9223372036854775807) ∧ (-9223372036854775808 ≤ s.most ∧ s.most ≤ 9223372036854775807)) :
    ∃ A c vs, v = .slice A ls.length c ∧ Sts wr A ls.length c vs ls := by
  obtain ⟨vs, o, hr⟩ := h.out
  obtain ⟨A, c, rfl, s, _⟩ := own_sl o
  refine ⟨A, c, vs, rfl, s, rfl, fun i x hx => ?_⟩
  obtain ⟨vb, vl, o1, o2, hc⟩ := hr i x hx
  have hm := List.mem_of_getElem? hx
  have h1 := hb x hm
  have h2 := hk x hm
  obtain ⟨A1, c1, rfl, s1, _⟩ := own_sl o1
  obtain ⟨A2, c2, rfl, s2, _⟩ := own_sl o2
  exact ⟨_, ⟨⟨A1, _, c1, A2, _, c2, rfl, s1, s2, by omega, by omega⟩, h1.2.2, h2.1, h2.2.1, h2.2.2⟩, hc⟩
/-- what the steps say of the bytes -/
structure OneP (b : List UInt8) (ls : List St9) (a : Nat) : Prop where
  cat : catB ls = b.take a
  wf : ∀ s ∈ ls, s.x < 18446744073709551616 ∧ (s.kd = 7 → (s.b.length : Int) ≤ s.most) ∧ (s.kd = 8 → (s.ns.length : Int) ≤ s.most) ∧ s.b.length ≤ s.bytes.length ∧ s.ns.length ≤ s.bytes.length
theorem bytes_mem {ls : List St9} {s : St9} (h : s ∈ ls) : s.bytes.length ≤ (catB ls).length := by
  unfold catB
  induction ls with
  | nil => simp at h
  | cons t ls ih =>
    simp only [List.map_cons, List.flatten_cons, List.length_append]
    rcases List.mem_cons.1 h with h1 | h1
    · subst h1; omega
    · have := ih h1; omega
theorem OneP.size {b : List UInt8} {ls : List St9} {a : Nat} (h : OneP b ls a) : size9 ls ≤ 11 * (catB ls).length := by
  have : ∀ ms : List St9, (∀ s ∈ ms, s.b.length ≤ s.bytes.length ∧ s.ns.length ≤ s.bytes.length) → size9 ms ≤ 11 * (catB ms).length := by
    intro ms
    induction ms with
    | nil => intro _; simp [size9]
    | cons t ms ih =>
      intro hm
      have h1 := hm t (by simp)
      have h2 := ih (fun s hs => hm s (by simp [hs]))
      unfold size9 catB at h2 ⊢
      simp only [List.map_cons, List.flatten_cons, List.length_append, List.sum_cons]
      omega
  exact this ls (fun s hs => (h.wf s hs).2.2.2)
theorem OneP.small {b : List UInt8} {ls : List St9} {a : Nat} (h : OneP b ls a) (hb : b.length ≤ 100000) (hn : ls.length ≤ 300) : Smalls ls := by
  have hc : (catB ls).length ≤ 100000 := by rw [h.cat]; simp; omega
  have hz := h.size
  exact ⟨fun s hs => by have := bytes_mem hs; have := h.wf s hs; exact ⟨by omega, by omega, this.1⟩, by omega, by omega⟩
theorem OneP.run {b : List UInt8} {ls : List St9} {a : Nat} (h : OneP b ls a) : runW ls = (b.take a, 0) := by
  have : ∀ k, k ≤ ls.length → runW (ls.take k) = (catB (ls.take k), 0) := by
    intro k
    induction k with
    | zero => intro _; rfl
    | succ k ih =>
      intro hk
      have hkl : k < ls.length := by omega
      have hw := h.wf _ (List.getElem_mem hkl)
      rw [runW_take ls k hkl, ih (by omega), catB_take ls k hkl]
      unfold wstep
      simp only
      have hf : stepF ls[k].kd ls[k].b ls[k].ns ls[k].most 0 = 0 := by
        unfold stepF cutF
        split
        · rename_i h7; rw [if_pos (hw.2.1 h7)]
        · split
          · rename_i h8; rw [if_pos (hw.2.2.1 h8)]
          · rfl
      rw [hf]
      rfl
  have h2 := this ls.length (Nat.le_refl _)
  rw [List.take_length, h.cat] at h2
  exact h2
theorem stepB_bs {l : List UInt8} {a f a' : Nat} {kd n most : Int} {g : Gt} (hk : 1 ≤ kd ∧ kd ≤ 8) (h : stepR l a f kd n most = (g, a', 0)) : g.b.length ≤ (stepB kd g.x g.b g.ns).length ∧ g.ns.length ≤ (stepB kd g.x g.b g.ns).length := by
  have hX : ∀ {r : Except Nat Nat} {v : Nat}, rdV r (Gt.ofX v) Gt.no a f = (g, a', 0) → g.b = [] ∧ g.ns = [] := fun h => by
    rw [rdV_ofX] at h
    injection h with h1 _
    rw [← h1]; exact ⟨rfl, rfl⟩
  have hB : ∀ {r : Except Nat Nat} {v : List UInt8}, rdV r (Gt.ofB v) Gt.no a f = (g, a', 0) → g.ns = [] := fun h => by
    rw [rdV_ofB] at h
    injection h with h1 _
    rw [← h1]; rfl
  have hc : kd = 1 ∨ kd = 2 ∨ kd = 3 ∨ kd = 4 ∨ kd = 5 ∨ kd = 6 ∨ kd = 7 ∨ kd = 8 := by omega
  rcases hc with rfl | rfl | rfl | rfl | rfl | rfl | rfl | rfl
  · obtain ⟨e1, e2⟩ := hX (by simpa [stepR] using h); rw [e1, e2]; simp
  · obtain ⟨e1, e2⟩ := hX (by simpa [stepR] using h); rw [e1, e2]; simp
  · obtain ⟨e1, e2⟩ := hX (by simpa [stepR] using h); rw [e1, e2]; simp
  · obtain ⟨e1, e2⟩ := hX (by simpa [stepR] using h); rw [e1, e2]; simp
  · obtain ⟨e1, e2⟩ := hX (by simpa [stepR] using h); rw [e1, e2]; simp
  · have e2 := hB (by simpa [stepR] using h); rw [e2]; simp [stepB]
  · have e2 := hB (by simpa [stepR] using h); rw [e2]; simp [stepB]
  · have e1 : g.b = [] := by
      have := congrArg (fun q : Gt × Nat × Nat => q.1.b) h
      simpa [stepR] using this.symm
    have := numsL_ge g.ns
    rw [e1]
    simp [stepB]
    omega
theorem OneP.step {b : List UInt8} {ls : List St9} {a a' : Nat} {s : St9} {g : Gt} (h : OneP b ls a) (ha : a ≤ b.length) (hk : 1 ≤ s.kd ∧ s.kd ≤ 8) (hr : stepR b a 0 s.kd s.n s.most = (g, a', 0)) : OneP b (ls ++ [{ s with x := g.x, b := g.b, ns := g.ns }]) a' := by
  have ho := stepR_one ha hk hr
  have hb := stepB_bs hk hr
  refine ⟨?_, fun t ht => ?_⟩
  · have e : catB (ls ++ [{ s with x := g.x, b := g.b, ns := g.ns }]) = catB ls ++ stepB s.kd g.x g.b g.ns := by
      unfold catB
      rw [List.map_append, List.flatten_append]
      simp [St9.bytes]
    rw [e, h.cat, ho.bytes, atR]
    have e2 : a' = a + (a' - a) := by have := ho.le; omega
    conv => rhs; rw [e2, List.take_add]
  · rcases List.mem_append.1 ht with h1 | h1
    · exact h.wf t h1
    · simp at h1
      subst h1
      exact ⟨ho.x, ho.b, ho.l, hb.1, hb.2⟩
theorem OneSt.snoc {w6 w7 wr w' : World} {v v' : Value} {ls : List St9} {s : St9} {vb vl : Value} {vs : List Value} (hb : Below w7.heap.size w7 wr) (o : w7.ownsRow w6.heap.size 70 6 v ls.length vs)
    (hr : ∀ (i : Nat) s, ls[i]? = some s → ∃ vb vl, w7.ownsRow w6.heap.size 5 1 vb s.b.length (s.b.map by8) ∧ w7.ownsRow w6.heap.size 23 1 vl s.ns.length (s.ns.map by64) ∧
      ∀ j u, ([Value.int .i64 s.kd, .int .u64 (s.x : Int), vb, vl, .int .i64 s.n, .int .i64 s.most] : List Value)[j]? = some u → vs[i * 6 + j]? = some u) (hg : wr.grownBy w' v.ownBlock)
    (o1 : w7.ownsRow w6.heap.size 5 1 vb s.b.length (s.b.map by8)) (o2 : w7.ownsRow w6.heap.size 23 1 vl s.ns.length (s.ns.map by64))
    (o' : w'.ownsRow w6.heap.size 70 6 v' (ls.length + 1) (vs ++ [.int .i64 s.kd, .int .u64 (s.x : Int), vb, vl, .int .i64 s.n, .int .i64 s.most])) (hT : (70 : Nat) ≠ 5 ∧ (70 : Nat) ≠ 23) : OneSt w6 w' v' (ls ++ [s]) := by
  have hl := own_len o
  have k : Keep v.ownBlock.toList w7 w' := (Keep.of_below hb _).trans ((Keep.refl _ _).grown hg (fun b e => .inl (by simp [e])))
  have low1 : ∀ {n : Nat} {u : Value} {xs : List Value}, w7.ownsRow w6.heap.size 5 1 u n xs → w'.ownsRow w6.heap.size 5 1 u n xs := fun o' => k.own o' (fun b hb hx => own_neT o o' hT.1 (by simpa using hx) hb)
  have low2 : ∀ {n : Nat} {u : Value} {xs : List Value}, w7.ownsRow w6.heap.size 23 1 u n xs → w'.ownsRow w6.heap.size 23 1 u n xs := fun o' => k.own o' (fun b hb hx => own_neT o o' hT.2 (by simpa using hx) hb)
  refine ⟨_, by rw [List.length_append]; exact o', fun i x hx => ?_⟩
  rw [List.getElem?_append] at hx
  split at hx
  · obtain ⟨ub, ul, p1, p2, hc⟩ := hr i x hx
    refine ⟨ub, ul, low1 p1, low2 p2, fun j u hj => ?_⟩
    have := hc j u hj
    rw [List.getElem?_append_left (List.getElem?_eq_some_iff.1 this).1]
    exact this
  · have hq : i - ls.length = 0 := by
      cases hq : i - ls.length with
      | zero => rfl
      | succ q => rw [hq] at hx; simp at hx
    rw [hq] at hx
    obtain rfl := Option.some.inj hx
    obtain rfl : i = ls.length := by omega
    refine ⟨vb, vl, low1 o1, low2 o2, fun j u hj => ?_⟩
    rw [List.getElem?_append_right (by omega), hl, Nat.add_sub_cancel_left]
    exact hj
theorem probe_short : shR [172, 2] 0 = .ok 2 ∧ shV [172, 2] 0 = 300 := by
  have h := shR_app [] [] (x := 300) (by decide)
  have e : shortL 300 = [172, 2] := by rw [shortL_more (by decide), shortL_one (by decide)]; rfl
  rw [e] at h
  exact h
set_option maxRecDepth 100000 in
set_option maxHeartbeats 3200000 in
theorem WireOneForm_walk (W : World) {A B : Option Addr} {n c nb cb : Nat} {vs : List Value} {ss : List St9} {l : List UInt8} (hb : Sl W 1 B nb cb (l.map by8)) (hnb : nb ≤ 140737488351232) (h : Sts W A n c vs ss) :
    Calls Try.prog 12 #[.slice B nb cb, .slice A n c] W fun e w' => e = .returned (.bool true) ∧ Below W.heap.size W w' := by
  have hsl := h.sl.le; have hsm := h.sl.max; have hbl := hb.le; have hbm := hb.max
  have HL := Lib.hid (And.intro h.len (And.intro h.xlt hb))
  have hll : l.length = nb := by simpa using hb.len
  clear hb
  by_cases hn : 300 < n
  · have i3 : (300 : Int) < n := by omega
    go_enter Try.func12, Try.ntmps12
    go_wp2
    go_ret
    exact ⟨rfl, Below.refl _ _⟩
  have hn2 : n ≤ 300 := by omega
  have i3 : decide ((300 : Int) < n) = false := decide_eq_false (by omega)
  by_cases hnl : 100000 < nb
  · have i6 : (100000 : Int) < (nb : Int) := by omega
    go_enter Try.func12, Try.ntmps12
    go_wp2
    go_ret
    exact ⟨rfl, Below.refl _ _⟩
  have i6 : decide ((100000 : Int) < (nb : Int)) = false := decide_eq_false (by omega)
  have HLL := Lib.hid hll
  clear hn hll
  go_enter Try.func12, Try.ntmps12
  go_wp2_with (first | (at_builtin; refine Stopped.out ?_) | (at_make; refine Stopped.out ?_))
  refine Stopped.mk (ap_own EBr rfl (.tmp 21) (.tmp 22) rfl rfl (World.ownsRow_nil W W.heap.size _ _) rfl HL.out.2.2 (u8_one _) (by simp only [maxLen]; omega) (by omega) (Nat.le_refl _) ?_)
  intro v1 w1 o1 hg1 _
  rw [List.nil_append, Nat.zero_add] at o1
  have hb1 := below_grown hg1
  obtain ⟨A1, c1, rfl, s1, _⟩ := own_sl o1
  have HNR := Lib.hid (NewReader_any w1 s1 (by omega))
  have H1 := Lib.hid hb1
  clear o1 hg1 hb1 s1
  go_wp2_with (first | (at_builtin; refine Stopped.out ?_) | (at_make; refine Stopped.out ?_))
  refine HNR.out.mono ?_
  rintro e w2 ⟨p, G, rfl, hr2, hb2, hG2⟩
  have hbb : Below w2.heap.size w2 (w2.alloc (.cells #[.int .u8 172, .int .u8 2] 5)) := (Below.refl _ _).alloc (Nat.le_refl _) _
  have hs2 := Sl.fresh w2 [.int .u8 172, .int .u8 2] 5 2 1 rfl (by decide)
  have HNR2 := Lib.hid (NewReader_any _ (l := [172, 2]) hs2 (by decide))
  have H2 := Lib.hid (And.intro hr2 (And.intro (bthen H1.out hb2) (And.intro hG2 hbb)))
  have hp2 := hr2.lts p hr2.mem
  have hpW : W.heap.size ≤ p := by have := hG2 p hr2.mem; have := H1.out.size; omega
  clear hr2 hb2 hG2 hbb hs2 HNR
  go_wp2_with (first | (at_builtin; refine Stopped.out ?_) | (at_make; refine Stopped.out ?_))
  refine HNR2.out.mono ?_
  rintro e w3 ⟨p2, G2, rfl, hr3, hb3, hG3⟩
  have hb23 := bthen H2.out.2.2.2 hb3
  have hp3 := hG3 p2 hr3.mem
  rw [World.size_alloc] at hp3
  have hu := (Rd_Uint w3 hr3).mono (fun e w' hq => CaughtQ.num (K := fun x => .int .u64 (x : Int)) hq)
  rw [rdV_ok probe_short.1, probe_short.2] at hu
  simp only [Nat.zero_add] at hu
  have H3 := Lib.hid (And.intro hu hb23)
  clear hr3 hb3 hG3 hb23 hu HNR2
  go_wp2_with (first | (at_builtin; refine Stopped.out ?_) | (at_make; refine Stopped.out ?_))
  refine H3.out.1.mono ?_
  rintro e w4 ⟨rfl, hr4, hk4⟩
  have hd4 := Rd_Done w4 hr4
  rw [show doneR [172, 2] 2 0 = 0 by simp [doneR]] at hd4
  have H4 := Lib.hid (And.intro hd4 hk4)
  clear hr4 hk4 hd4
  go_wp2_with (first | (at_builtin; refine Stopped.out ?_) | (at_make; refine Stopped.out ?_))
  refine H4.out.1.mono ?_
  rintro e w5 ⟨rfl, hd5⟩
  have hk5 : Keep [p2] w2 w5 := ((Keep.of_below H3.out.2 [p2]).trans H4.out.2).trans (hd5.keep [p2])
  have hr5 := H2.out.1.keep hk5 (fun x hx hx2 => by simp at hx2; have := H2.out.1.lts x hx; omega)
  have hbW5 : Below W.heap.size W w5 := hk5.below H2.out.2.1 H2.out.2.1.size (fun x hx => by simp at hx; omega)
  have H5 := Lib.hid (And.intro hr5 hbW5)
  have hp5 := hr5.lts p hr5.mem
  clear hd5 hk5 hr5 hbW5 H4 H3
  go_wp2
  go_loopw [8, 9] (fun vo ii wr => ∃ (k : Nat) (ls : List St9) (a f : Nat), k ≤ n ∧ ii = .int .i64 k ∧ OneSt w5 wr vo ls ∧ Rd wr p G l a f ∧ Keep [p] w5 wr ∧ ls.length ≤ k ∧ Hid ((f = 0 → OneP l ls a) ∧ ∀ s ∈ ls, (-9223372036854775808 ≤ s.kd ∧ s.kd ≤ 9223372036854775807) ∧ (-9223372036854775808 ≤ s.n ∧ s.n ≤ 9223372036854775807) ∧ (-9223372036854775808 ≤ s.most ∧ s.most ≤ 9223372036854775807))) (fun _ ii _ => n - (intOf ii).toNat)
  case atStart => exact ⟨0, [], 0, 0, Nat.zero_le _, rfl, OneSt.nil _ _, H5.out.1, Keep.refl _ _, Nat.le_refl _, Lib.hid ⟨fun _ => ⟨by simp [catB], by simp⟩, by simp⟩⟩
  case round =>
    obtain ⟨k, ls, a, f, hk, rfl, hos, hr, hkw, hln, hq⟩ := hrel
    by_cases hlt : k < n
    · have hkl : k < ss.length := by rw [HL.out.1]; exact hlt
      obtain ⟨b9, o9, rfl⟩ := h.sl.form (by omega)
      obtain ⟨ba, bn, bc, la, ln, lc, g0, g1, g2, g3, g4, g5, s1, s2, hnn, hmm⟩ := h.cells k hkl
      obtain ⟨cs, hsr, -⟩ := h.at_ k ss[k] (List.getElem?_eq_getElem hkl)
      have hb9 := cell_lt g0
      simp only at hb9
      have lift : ∀ {j : Nat} {v : Value}, W.cell? ⟨b9, j, none⟩ = some v → wr.cell? ⟨b9, j, none⟩ = some v := fun hc => hkw.cell (cell_below hc H5.out.2) (by simp; omega)
      replace g0 := lift g0; replace g1 := lift g1; replace g2 := lift g2; replace g3 := lift g3; replace g4 := lift g4; replace g5 := lift g5
      have HR := Lib.hid (read9 wr hr ss[k].kd ss[k].x (ba := ba) (la := la) (n0 := bn) (bc := bc) (ln := ln) (lc := lc) ss[k].n ss[k].most hnn hmm (by have := HLL.out; omega))
      have HS := Lib.hid (And.intro hsr.kd (And.intro hsr.n hsr.most))
      have hle := hr.le
      obtain ⟨s, hs⟩ : ∃ s, s = ss[k] := ⟨_, rfl⟩
      rw [← hs] at g0 g1 g4 g5 HR HS
      have k0 : (0 : Int) ≤ (k : Int) := Int.natCast_nonneg _
      have k1 : (k : Int) < (n : Int) := by omega
      obtain ⟨kd, x, bb, ns, nn, mo⟩ := s
      simp only at g0 g1 g4 g5 HR HS
      have HI := Lib.hid (And.intro hos (And.intro hkw (And.intro hq.out.1 (And.intro hq.out.2 hr))))
      obtain ⟨R, hR⟩ : ∃ R, R = stepR l a f kd nn mo := ⟨_, rfl⟩
      rw [← hR] at HR
      have HRE := Lib.hid hR
      obtain ⟨⟨gx, gb, gns, gn⟩, a', f'⟩ := R
      clear hs hsr cs s1 s2 hnn hmm lift hos hr hkw hq hR
      by_cases q1 : kd < 1
      · have j1 : decide ((1 : Int) ≤ kd) = false := decide_eq_false (by omega)
        go_wp2
        first | go_roundw | refine ⟨?rel, ?measure⟩
        case rel => exact ⟨k + 1, ls, a, f, by omega, by go_num, HI.out.1, HI.out.2.2.2.2, HI.out.2.1, by omega, Lib.hid ⟨HI.out.2.2.1, HI.out.2.2.2.1⟩⟩
        case measure => simp [intOf]; omega
      by_cases q2 : 8 < kd
      · have j1 : (1 : Int) ≤ kd := by omega
        have j2 : decide (kd ≤ 8) = false := decide_eq_false (by omega)
        go_wp2
        first | go_roundw | refine ⟨?rel, ?measure⟩
        case rel => exact ⟨k + 1, ls, a, f, by omega, by go_num, HI.out.1, HI.out.2.2.2.2, HI.out.2.1, by omega, Lib.hid ⟨HI.out.2.2.1, HI.out.2.2.2.1⟩⟩
        case measure => simp [intOf]; omega
      have j1 : (1 : Int) ≤ kd := by omega
      have j2 : kd ≤ 8 := by omega
      have HG := Lib.hid (And.intro g0 (And.intro g1 (And.intro g2 (And.intro g3 (And.intro g4 g5)))))
      go_wp2_with (first | (at_builtin; refine Stopped.out ?_) | (at_make; refine Stopped.out ?_))
      refine HR.out.mono ?_
      rintro e w6 ⟨vb, vl, rfl, o1, o2, hr6, hk6⟩
      simp only at o1 o2 hr6
      have hb0 : w5.heap.size ≤ wr.heap.size := HI.out.2.1.size
      have lw : ∀ {j : Nat} {v : Value}, wr.cell? ⟨b9, j, none⟩ = some v → w6.cell? ⟨b9, j, none⟩ = some v := fun hc => hk6.cell hc (by simp; omega)
      have g0 := lw HG.out.1; have g1 := lw HG.out.2.1; have g2 := lw HG.out.2.2.1; have g3 := lw HG.out.2.2.2.1; have g4 := lw HG.out.2.2.2.2.1; have g5 := lw HG.out.2.2.2.2.2
      have hos6 := HI.out.1.keep hk6 (fun x hx => by simp at hx; omega)
      have ob6 := own_mono o1 hb0
      have ol6 := own_mono o2 hb0
      obtain ⟨Ab, cb', rfl, sb6, _⟩ := own_sl ob6
      obtain ⟨Al, cl', rfl, sl6, _⟩ := own_sl ol6
      go_wp2_with fail
      obtain ⟨W7, hW7⟩ : ∃ W7, W7 = w6.alloc (.cells #[.int .u64 (gx : Int), .slice Ab gb.length cb', .slice Al gns.length cl', .int .i64 (gn : Int)] 85) := ⟨_, rfl⟩
      have hB7 : Below w6.heap.size w6 W7 := by rw [hW7]; exact (Below.refl _ _).alloc (Nat.le_refl _) _
      have hx0 := heap_alloc_new w6 (.cells #[.int .u64 (gx : Int), .slice Ab gb.length cb', .slice Al gns.length cl', .int .i64 (gn : Int)] 85)
      obtain ⟨z, hz⟩ : ∃ z, z = w6.heap.size := ⟨_, rfl⟩
      rw [← hW7, ← hz] at hx0
      rw [← hW7, ← hz]
      have HX0 := Lib.hid hx0
      have e0 := cell_below g0 hB7; have e1 := cell_below g1 hB7; have e2 := cell_below g2 hB7; have e3 := cell_below g3 hB7; have e4 := cell_below g4 hB7; have e5 := cell_below g5 hB7
      have e6 := box_cell hx0 0 _ rfl; have e7 := box_cell hx0 1 _ rfl; have e8 := box_cell hx0 2 _ rfl; have e9 := box_cell hx0 3 _ rfl
      have HFC : Hid (∀ w' : World, Below W7.heap.size W7 w' → _) := Lib.hid (fun w' k => And.intro (cell_below e0 k) (And.intro (cell_below e1 k) (And.intro (cell_below e2 k) (And.intro (cell_below e3 k) (And.intro (cell_below e4 k) (And.intro (cell_below e5 k) (And.intro (cell_below e6 k) (And.intro (cell_below e7 k) (And.intro (cell_below e8 k) (cell_below e9 k))))))))))
      have F0 := HFC.out W7.drew ((Below.refl _ W7).drew)
      have H7 := Lib.hid (And.intro (hos6.below hB7) (And.intro (own_below ob6 hB7) (And.intro (own_below ol6 hB7) (And.intro (hr6.below hB7) (((HI.out.2.1.trans hk6).trans (Keep.of_below hB7 [p])))))))
      clear g0 g1 g2 g3 g4 g5 e0 e1 e2 e3 e4 e5 e6 e7 e8 e9 hx0 hW7 hz hB7 hos6 ob6 ol6 sb6 sl6 o1 o2 hr6 hk6 lw HR
      obtain ⟨xs, oxs, hxs⟩ := H7.out.1.out
      have hzb : ∀ b, u8.ownBlock = some b → b ≠ z ∧ b ≠ b9 := fun b hb => ⟨fun e => by
        rcases oxs.2 with ⟨e1, _⟩ | ⟨g, cp, cu, e1, _, hg, _⟩
        · rw [e1] at hb; cases hb
        · rw [e1] at hb
          injection hb with hb
          have hb2 : g = b := hb
          rw [hb2, e, HX0.out] at hg
          injection hg with hg; injection hg with _ hg _
          exact absurd hg (by decide), fun e => by have := (oxs.lt b hb).1; have := H5.out.2.size; omega⟩
      have HFK : Hid (∀ w' w'' : World, Below W7.heap.size W7 w' → w'.grownBy w'' u8.ownBlock → _) := Lib.hid (fun w' w'' k hg =>
        have kk : Keep u8.ownBlock.toList w' w'' := (Keep.refl _ _).grown hg (fun b e => .inl (by simp [e]))
        have hh := HFC.out w' k
        have nz : z ∉ u8.ownBlock.toList := fun hx => (hzb z (by simpa using hx)).1 rfl
        have nb : b9 ∉ u8.ownBlock.toList := fun hx => (hzb b9 (by simpa using hx)).2 rfl
        And.intro (kk.cell hh.1 nb) (And.intro (kk.cell hh.2.1 nb) (And.intro (kk.cell hh.2.2.1 nb) (And.intro (kk.cell hh.2.2.2.1 nb) (And.intro (kk.cell hh.2.2.2.2.1 nb) (And.intro (kk.cell hh.2.2.2.2.2.1 nb) (And.intro (kk.cell hh.2.2.2.2.2.2.1 nz) (And.intro (kk.cell hh.2.2.2.2.2.2.2.1 nz) (And.intro (kk.cell hh.2.2.2.2.2.2.2.2.1 nz) (kk.cell hh.2.2.2.2.2.2.2.2.2 nz))))))))))
      have HOW : Hid (∀ w', Below W7.heap.size W7 w' → w'.ownsRow w5.heap.size 70 6 u8 ls.length xs) := Lib.hid (fun w' k => own_below oxs k)
      have hmx : ls.length + 1 ≤ maxLen := by simp only [maxLen]; omega
      have hby : (ls.length + 1) * 80 ≤ 140737488355328 := by omega
      have hone : ∀ u ∈ ([.int .i64 kd, .int .u64 (gx : Int), .slice Ab gb.length cb', .slice Al gns.length cl', .int .i64 nn, .int .i64 mo] : List Value), u.oneCell' = true := by simp [Value.oneCell']
      have h57 : w5.heap.size ≤ W7.heap.size := H7.out.2.2.2.2.size
      have HXS := Lib.hid (And.intro oxs hxs)
      clear oxs hxs
      go_region_held3 (fun w' => w'.cell? ⟨b9, o9 + k * 6, none⟩ = some (.int .i64 kd) ∧ w'.cell? ⟨b9, o9 + k * 6 + 1, none⟩ = some (.int .u64 x) ∧ w'.cell? ⟨b9, o9 + k * 6 + 2, none⟩ = some (.slice ba bn bc) ∧ w'.cell? ⟨b9, o9 + k * 6 + 3, none⟩ = some (.slice la ln lc) ∧ w'.cell? ⟨b9, o9 + k * 6 + 4, none⟩ = some (.int .i64 nn) ∧ w'.cell? ⟨b9, o9 + k * 6 + 5, none⟩ = some (.int .i64 mo) ∧
        w'.cell? ⟨z, 0, none⟩ = some (.int .u64 gx) ∧ w'.cell? ⟨z, 1, none⟩ = some (.slice Ab gb.length cb') ∧ w'.cell? ⟨z, 2, none⟩ = some (.slice Al gns.length cl') ∧ w'.cell? ⟨z, 3, none⟩ = some (.int .i64 gn))
        (first | exact F2 | exact (HFC.out _ (bthen hb78 ((Below.refl _ w8).alloc (Nat.le_refl _) _))) | exact F1 | exact F0 | go_keep)
        (first
          | (refine ap_step EStep (by rfl) _ _ (by rfl) (by rfl) (HOW.out (w8.alloc (.cells #[.int .i64 kd, .int .u64 (gx : Int), .slice Ab gb.length cb', .slice Al gns.length cl', .int .i64 nn, .int .i64 mo] 70)) (bthen hb78 ((Below.refl _ w8).alloc (Nat.le_refl _) _))) (by rfl) (Sl.fresh w8 [.int .i64 kd, .int .u64 (gx : Int), .slice Ab gb.length cb', .slice Al gns.length cl', .int .i64 nn, .int .i64 mo] 70 1 6 rfl (by decide)) hone hmx hby (Nat.le_trans h57 (bthen hb78 ((Below.refl _ w8).alloc (Nat.le_refl _) _)).size) ?_; intro v9 w9 oo9 hg9 hnil9; have F2 := HFK.out (w8.alloc (.cells #[.int .i64 kd, .int .u64 (gx : Int), .slice Ab gb.length cb', .slice Al gns.length cl', .int .i64 nn, .int .i64 mo] 70)) w9 (bthen hb78 ((Below.refl _ w8).alloc (Nat.le_refl _) _)) hg9)
          | (go_at_call 61; refine (again_any _ kd nn mo x gx gn ba la bn bc ln lc Ab Al gb.length cb' gns.length cl').mono ?_; rintro e w8 ⟨rfl, hb8⟩; have hb78 := bthen ((Below.refl _ W7).drew) hb8; have F1 := HFC.out _ hb78))
      have hb79 : Below W7.heap.size W7 (w8.alloc (.cells #[.int .i64 kd, .int .u64 (gx : Int), .slice Ab gb.length cb', .slice Al gns.length cl', .int .i64 nn, .int .i64 mo] 70)) := bthen hb78 ((Below.refl _ w8).alloc (Nat.le_refl _) _)
      have hos9 : OneSt w5 w9 v9 (ls ++ [⟨kd, gx, gb, gns, nn, mo⟩]) := OneSt.snoc (s := ⟨kd, gx, gb, gns, nn, mo⟩) hb79 HXS.out.1 HXS.out.2 hg9 H7.out.2.1 H7.out.2.2.1 oo9 ⟨by decide, by decide⟩
      have k79 : Keep u8.ownBlock.toList W7 w9 := (Keep.of_below hb79 _).trans ((Keep.refl _ _).grown hg9 (fun b e => .inl (by simp [e])))
      have hrow : ∀ b, u8.ownBlock = some b → w5.heap.size ≤ b := fun b hb => (HXS.out.1.lt b hb).1
      have hr9 : Rd w9 p G l a' f' := H7.out.2.2.2.1.keep k79 (fun y hy hx => by have h1 := H5.out.1.lts y hy; have h2 := hrow y (by simpa using hx); omega)
      have hk9 : Keep [p] w5 w9 := H7.out.2.2.2.2.trans' k79 (fun y hy => .inr (hrow y (by simpa using hy)))
      have hp9 : f' = 0 → OneP l (ls ++ [⟨kd, gx, gb, gns, nn, mo⟩]) a' := fun hf' => by
        subst hf'
        have hre := HRE.out
        by_cases hf : f = 0
        · subst hf
          exact OneP.step (s := ⟨kd, x, bb, ns, nn, mo⟩) (HI.out.2.2.1 rfl) hle ⟨j1, j2⟩ hre.symm
        · have h3 : stepR l a f kd nn mo = (.no, a, f) := St9.stuck ⟨kd, x, bb, ns, nn, mo⟩ l a hf (by show kd ≠ 9; omega)
          rw [h3] at hre
          injection hre with _ hre; injection hre with _ hre
          exact absurd hre.symm hf
      have hm9 : ∀ t ∈ ls ++ [(⟨kd, gx, gb, gns, nn, mo⟩ : St9)], (-9223372036854775808 ≤ t.kd ∧ t.kd ≤ 9223372036854775807) ∧ (-9223372036854775808 ≤ t.n ∧ t.n ≤ 9223372036854775807) ∧ (-9223372036854775808 ≤ t.most ∧ t.most ≤ 9223372036854775807) := fun t ht => by
        rcases List.mem_append.1 ht with h1 | h1
        · exact HI.out.2.2.2.1 t h1
        · simp at h1
          subst h1
          exact HS.out
      have HN := Lib.hid (And.intro hos9 (And.intro hr9 (And.intro hk9 (And.intro hp9 hm9))))
      have HNL : Hid ((ls ++ [(⟨kd, gx, gb, gns, nn, mo⟩ : St9)]).length ≤ k + 1) := Lib.hid (by simp; omega)
      clear hos9 k79 hrow hr9 hk9 hp9 hm9 hb79 F0 F1 F2 hg9 oo9 hnil9 hb8 hb78 HFC HFK HOW
      go_wp2
      first | go_roundw | refine ⟨?rel, ?measure⟩
      case rel => exact ⟨k + 1, _, a', f', by omega, by go_num, HN.out.1, HN.out.2.1, HN.out.2.2.1, HNL.out, Lib.hid ⟨HN.out.2.2.2.1, HN.out.2.2.2.2⟩⟩
      case measure => simp [intOf]; omega
    · have hd := Rd_Done wr hr
      have hbW : Below W.heap.size W wr := hkw.below H5.out.2 H5.out.2.size (fun x hx => by simp at hx; omega)
      have hle := hr.le
      obtain ⟨D, hD⟩ : ∃ D, D = doneR l a f := ⟨_, rfl⟩
      rw [← hD] at hd
      have HD := Lib.hid (And.intro hd (And.intro hos (And.intro hbW (And.intro hq.out.1 (And.intro hq.out.2 hD)))))
      have k1 : decide ((k : Int) < (n : Int)) = false := decide_eq_false (by omega)
      clear hd hbW hos hkw hr hq hD
      go_wp2_with (first | (at_builtin; refine Stopped.out ?_) | (at_make; refine Stopped.out ?_))
      refine HD.out.1.mono ?_
      rintro e w6 ⟨rfl, hd6⟩
      by_cases hd0 : D = 0
      · have i7 : ((D : Int) != 0) = false := by simp; omega
        have hff : f = 0 ∧ a = l.length := by
          have h1 := HD.out.2.2.2.2.2
          rw [hd0] at h1
          unfold doneR at h1
          split at h1
          · cases h1
          · rename_i h2
            subst h1
            exact ⟨rfl, by omega⟩
        obtain ⟨rfl, rfl⟩ := hff
        have hP := HD.out.2.2.2.1 rfl
        have hsmall := hP.small (by have := HLL.out; omega) (by omega)
        have hrun := hP.run
        rw [List.take_length] at hrun
        obtain ⟨A9, c9, vs9, rfl, st9⟩ := (HD.out.2.1.below hd6.below).sts hsmall.b HD.out.2.2.2.2.1
        have hwr := written_any w6 st9 hsmall
        rw [hrun] at hwr
        rw [show doneL (l, 0).1 (l, 0).2 = l from rfl] at hwr
        have HB := Lib.hid (And.intro hwr (bthen HD.out.2.2.1 hd6.below))
        clear hP hsmall hrun st9 hwr hd0 hd6
        go_wp2_with (first | (at_builtin; refine Stopped.out ?_) | (at_make; refine Stopped.out ?_))
        refine HB.out.1.mono ?_
        rintro e w7 ⟨v7, rfl, o7, hb7⟩
        obtain ⟨A7, c7, rfl, s7, _⟩ := own_sl o7
        have hB7 := bthen HB.out.2 hb7
        have hsm := same09 w7 s7 (HL.out.2.2.below hB7)
        rw [decide_eq_true rfl] at hsm
        have HSm := Lib.hid (And.intro hsm hB7)
        clear o7 hb7 s7 hB7 hsm
        go_wp2_with (first | (at_builtin; refine Stopped.out ?_) | (at_make; refine Stopped.out ?_))
        refine HSm.out.1.mono ?_
        rintro e w8 ⟨rfl, hd8⟩
        have HN := Lib.hid (bthen HSm.out.2 hd8.below)
        clear hd8
        go_wp2
        go_ret
        exact ⟨rfl, HN.out⟩
      · have i7 : ((D : Int) != 0) = true := by simp; omega
        have HN := Lib.hid (bthen HD.out.2.2.1 hd6.below)
        clear hd6 hd0
        go_wp2
        go_ret
        exact ⟨rfl, HN.out⟩
end Go.Proofs.Ytdooabbeolfgfaa
