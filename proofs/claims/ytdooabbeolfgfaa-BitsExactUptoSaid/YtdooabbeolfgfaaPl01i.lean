import Derived.Test.YtdooabbeolfgfaaPl01h
set_option linter.unusedVariables false
set_option linter.unusedSimpArgs false
namespace Go.Proofs.Ytdooabbeolfgfaa
open Go.RowKit
theorem sls_one {w : World} {A : Option Addr} {n c : Nat} {vs : List Value} {ll : List (List UInt8)} (h : Sls w A n c vs ll) : ∀ u ∈ vs, u.oneCell' = true := fun u hu => by
  obtain ⟨i, hi, rfl⟩ := List.getElem_of_mem hu
  have hl := h.sl.len
  obtain ⟨a, m, d, h1, _⟩ := h.at_ i _ (List.getElem?_eq_getElem (show i < ll.length by rw [h.len]; omega))
  rw [List.getElem?_eq_getElem hi] at h1
  rw [Option.some.inj h1]
  rfl
theorem put01m {W : World} (w : World) {p : Nat} {G : List Nat} {vs ws : List Value} {ls : List (List UInt8)} {N : Nat} (h : Shf W w p G vs ws ls N) {A A2 : Option Addr} {c c2 m : Nat} {l : List UInt8} (hm : l.length = m)
    (o : w.ownsRow W.heap.size 5 1 (.slice A m c) m (l.map by8)) (hv : ∀ b, (Value.slice A m c).ownBlock = some b → b ∉ G) (s2 : Sl w 1 A2 m c2 (l.map by8)) (hA2 : ∀ ad, A2 = some ad → 0 < m → ad.block < W.heap.size) (hl : m ≤ N) (hN : N ≤ 100000000) (hn : vs.length ≤ 1000000000) :
    Calls Try.prog 132 #[.pointer (some ⟨p, 0, none⟩), .slice A m c, .slice A2 m c2] w fun e w' => e = .returned (.bool true) ∧ ∃ G' vs' ws' ls', Shf W w' p G' vs' ws' ls' N ∧ vs'.length = vs.length + 1 ∧ Keep G w w' ∧ ∀ x ∈ G', x ∈ G ∨ (Value.slice A m c).ownBlock = some x ∨ (0 < m ∧ A2.map Addr.block = some x) ∨ w.heap.size ≤ x := by
  subst hm
  refine (put01 w h o hv s2 (fun ad e h0 => .inl (hA2 ad e h0)) hl hN hn).mono ?_
  rintro e w' ⟨he, G', hS, hK, hG'⟩
  exact ⟨he, G', _, _, _, hS, by simp, hK, hG'⟩
theorem sl_in {W : World} {A : Option Addr} {n c : Nat} {l : List UInt8} (h : Sl W 1 A n c (l.map by8)) : ∀ ad, A = some ad → 0 < n → ad.block < W.heap.size := fun ad e h0 => by
  have hl : l.length = n := by simpa using h.len
  obtain ⟨_, hc⟩ := h.at_ ad e (by simp; omega)
  have h1 := cell_lt (hc 0 (by simp; omega))
  exact h1
theorem own_one {w : World} {b e sz n : Nat} {v : Value} {xs : List Value} (o : w.ownsRow b e sz v n xs) : v.oneCell' = true := by
  obtain ⟨A, c, rfl, _⟩ := own_sl o
  rfl
theorem set_same {α : Type} {l : List α} {i : Nat} {x : α} (h : l[i]? = some x) : l.set i x = l := by
  obtain ⟨h1, h2⟩ := List.getElem?_eq_some_iff.1 h
  rw [← h2, List.set_getElem_self]
theorem take_set {α : Type} {l : List α} {i : Nat} {x : α} (h : i < l.length) : (l.set i x).take (i + 1) = l.take i ++ [x] := by
  rw [List.take_succ_eq_append_getElem (by simpa using h), List.getElem_set_self, List.take_set_of_le (Nat.le_refl _)]
set_option maxRecDepth 100000 in
set_option maxHeartbeats 6400000 in
theorem joins01 {W : World} (w : World) {p : Nat} {G : List Nat} {vs ws : List Value} {ls : List (List UInt8)} {N : Nat} (h : Shf W w p G vs ws ls N) (hN8 : 10000 ≤ N) (hN : N ≤ 100000000) (hn : vs.length ≤ 900000000) (kd : Int) (a l : Nat) (n : Int) (X Y P : Option Addr) (xn xc yn yc pn pc : Nat) (s : ByteArray) {x y : List UInt8} {vp : List Value} {ll : List (List UInt8)} (hXW : Sl W 1 X xn xc (x.map by8)) (hYW : Sl W 1 Y yn yc (y.map by8)) (hPW : Sls W P pn pc vp ll) (hsm : xn + yn + pn + ll.flatten.length ≤ 4096) :
    Calls Try.prog 74 #[.pointer (some ⟨p, 0, none⟩), .agg (opC kd a l n X Y P xn xc yn yc pn pc s)] w fun e w' => e = .returned (.bool true) ∧ ∃ G' vs' ws' ls', Shf W w' p G' vs' ws' ls' N ∧ vs'.length ≤ vs.length + 4 := by
  unfold opC
  have hT : (24 : Nat) ≠ 5 := by decide
  have HW := Lib.hid (And.intro hXW (And.intro hYW hPW))
  have hxl : x.length = xn := by simpa using hXW.len
  have hyl : y.length = yn := by simpa using hYW.len
  have hpl := hPW.len
  have hpc := hPW.sl.le; have hpm := hPW.sl.max
  obtain ⟨R, hR⟩ : ∃ R, R = x :: y :: ll := ⟨_, rfl⟩
  have hRf : R.flatten.length ≤ 4096 := by rw [hR, List.flatten_cons, List.flatten_cons, List.length_append, List.length_append]; omega
  have hRm : ∀ t ∈ R, t.length ≤ 4096 := fun t ht => by have := le_flat ht; omega
  obtain ⟨W1, hW1⟩ : ∃ W1, W1 = w.alloc (.cells #[.int .i64 kd, .int .u32 a, .int .u64 l, .int .i64 n, .slice X xn xc, .slice Y yn yc, .slice P pn pc, .string s] 27) := ⟨_, rfl⟩
  have hb := heap_alloc_new w (.cells #[.int .i64 kd, .int .u32 a, .int .u64 l, .int .i64 n, .slice X xn xc, .slice Y yn yc, .slice P pn pc, .string s] 27)
  rw [← hW1] at hb
  have hB : Below w.heap.size w W1 := by rw [hW1]; exact (Below.refl _ _).alloc (Nat.le_refl _) _
  have hz : w.heap.size ∉ G := fun hx => Nat.lt_irrefl _ (h.lts _ hx)
  have d4 := box_cell hb 4 _ rfl
  have d5 := box_cell hb 5 _ rfl
  have d6 := box_cell hb 6 _ rfl
  have hzl : w.heap.size < W1.heap.size := lt_of_block hb
  have HSZ : Hid (W1.heap.size = w.heap.size + 1) := Lib.hid (by rw [hW1]; simp)
  have H1 := Lib.hid (And.intro hb (And.intro (h.then_ hB) (And.intro hz (And.intro hzl (And.intro h.lts h.below.size)))))
  have HR := Lib.hid (And.intro hR (And.intro hRf (And.intro hRm (And.intro hxl (And.intro hyl hpl)))))
  have hpn : pn ≤ 4096 := by omega
  have hxs : xn ≤ 4096 := by omega
  have hys : yn ≤ 4096 := by omega
  clear hXW hYW hPW hb hB hz h hR hRf hRm hzl hxl hyl hpl hsm
  go_enter Try.func74, Try.ntmps74
  go_wp2_with (first | (rw [← hW1]) | (at_builtin; refine Stopped.out ?_))
  clear hW1
  have o1 := World.ownsRow_lit (base := W1.heap.size) (e := 24) (size := 1) W1 #[.slice X xn xc, .slice Y yn yc] 2 (Nat.le_refl _) (by decide) rfl
  rw [HSZ.out] at o1
  refine Stopped.mk (apk_own EShl rfl (.tmp 18) (.tmp 20) rfl rfl o1 rfl (HW.out.2.2.sl.below (bthen H1.out.2.1.below ((Below.refl _ _).alloc (Nat.le_refl _) _))) (sls_one HW.out.2.2) (by simp only [maxLen]; omega) (by omega) (by have := HSZ.out; simp; omega) ?_)
  intro v2 w2 o2 hg2 _
  clear o1
  obtain ⟨r, cr, rfl, hr1, hr2, hr3⟩ := own_form o2 (by omega)
  obtain ⟨m, hm⟩ : ∃ m, m = 2 + pn := ⟨_, rfl⟩
  have s2 := (own_sl' o2).2.1
  rw [← hm] at s2 hr3 ⊢
  have hcr := s2.max
  obtain ⟨vr, hvr⟩ : ∃ vr, vr = [Value.slice X xn xc, .slice Y yn yc] ++ vp := ⟨_, rfl⟩
  have hb2 : Below W1.heap.size W1 w2 := ((Below.refl _ _).alloc (Nat.le_refl _) _).grown hg2 (by simp) (fun k hk => by injection hk with hk; have e := HSZ.out; have e2 : w.heap.size + 1 = k := hk; omega)
  have hRw : Raws W w2 r m cr vr R := ⟨by rw [hvr]; exact s2, by rw [HR.out.1, hm]; simp [HR.out.2.2.2.2.2]; omega, fun i t hi => by
    rw [HR.out.1] at hi
    rw [hvr]
    match i, hi with
    | 0, hi => obtain rfl := Option.some.inj hi; exact ⟨_, _, _, rfl, HW.out.1, by omega⟩
    | 1, hi => obtain rfl := Option.some.inj hi; exact ⟨_, _, _, rfl, HW.out.2.1, by omega⟩
    | i + 2, hi => exact HW.out.2.2.at_ i t hi⟩
  have hm2 : 2 ≤ m := by omega
  have hm3 : m ≤ 4098 := by omega
  obtain ⟨B, hBe⟩ : ∃ B, B = w2.heap.size := ⟨_, rfl⟩
  have H2 := Lib.hid (And.intro hRw (And.intro (H1.out.2.1.then_ hb2) (And.intro (heap_below H1.out.1 hb2) (And.intro hb2 (And.intro hBe (And.intro hr2 (show w.heap.size < r by omega)))))))
  clear hRw hb2 hg2 o2 s2 hvr hm hr1 hr2 d4 d5 d6 hBe
  go_wp2_with fail
  go_loopw [6, 7, 8] (fun oF oG i wr => ∃ (j : Nat) (fs gs : List Value) (C : Nat) (vF vG : Value), j ≤ m ∧ i = .int .i64 j ∧ vF = oF ∧ vG = oG ∧ Hid (fs.length = j) ∧ Giv wr B C vF vG fs gs ((R.take j).map room01) (R.take j) ∧ C ≤ wr.heap.size ∧ Below w2.heap.size w2 wr) (fun _ _ i _ => m - (intOf i).toNat)
  case atStart => exact ⟨0, [], [], B, _, _, by omega, rfl, rfl, rfl, Lib.hid rfl, by simpa using Giv.start _ _ _, by rw [H2.out.2.2.2.2.1]; exact Nat.le_refl _, Below.refl _ _⟩
  case round =>
    obtain ⟨j, fs, gs, C, vF, vG, hj, rfl, rfl, rfl, hfl, hG, hC, hbl⟩ := hrel
    by_cases hlt : j < m
    · obtain ⟨a0, m0, c0, t, ht, hc, hst, htm⟩ := H2.out.1.get j hlt
      have hct := hst.le; have hctm := hst.max
      have hj0 : (0 : Int) ≤ (j : Int) := Int.natCast_nonneg _
      have hj1 : (j : Int) < (m : Int) := by omega
      have hj2 : (j : Int) < (cr : Int) := by omega
      have g := cell_below hc hbl
      have hS := H2.out.2.1.then_ hbl
      have hm0 : m0 ≤ 4096 := by rw [← htm]; exact HR.out.2.2.1 t (List.mem_of_getElem? ht)
      have HJ := Lib.hid (And.intro hG (And.intro hC (And.intro hbl (And.intro ht (And.intro htm (hst.below hS.below))))))
      clear hG hC hbl ht htm hst hc hS
      go_wp2_with fail
      refine (roomy01 wr HJ.out.2.2.2.2.2 (by omega)).mono ?_
      rintro e w4 ⟨v4, rfl, o4, hb4⟩
      obtain ⟨g4, c4, rfl, hg1, hg2, hc4⟩ := own_form o4 (by omega)
      have g' := cell_below g hb4
      clear g
      have e3 := Lib.hid HJ.out.2.2.2.2.1
      have hq : fs.length ≤ 4098 := by rw [hfl.out]; omega
      have hBw : B ≤ wr.heap.size := by rw [H2.out.2.2.2.2.1]; exact HJ.out.2.2.1.size
      have oF := own_below HJ.out.1.ownF hb4
      have H4 := Lib.hid (And.intro o4 (And.intro hb4 hBw))
      have hBw4 : B ≤ w4.heap.size := Nat.le_trans hBw hb4.size
      clear o4 hb4 hg1 hg2 hBw
      go_wp2_with (first | (at_builtin; refine Stopped.out ?_) | (at_make; refine Stopped.out ?_))
      refine Stopped.mk (apk_own EShl rfl (.tmp 33) (.tmp 35) rfl rfl (oF.alloc _) rfl (Sl.fresh w4 [_] 24 1 1 rfl (by decide)) (by simp [Value.oneCell']) (by simp only [maxLen]; omega) (by omega) (by simp; omega) ?_)
      intro vF' w5 oF5 gF lF
      have hrB : r < B := by rw [H2.out.2.2.2.2.1]; exact H2.out.2.2.2.2.2.1
      have k5 : Keep vF.ownBlock.toList (w4.alloc (.cells #[.slice (some ⟨g4, 0, none⟩) (m0 + 70) c4] 24)) w5 := (Keep.refl _ _).grown gF (fun k hk => .inl ((tl _ _).2 hk))
      have k45 : Keep vF.ownBlock.toList w4 w5 := (Keep.of_below ((Below.refl _ _).alloc (Nat.le_refl _) _) _).trans k5
      have g5 := k45.cell g' (fun hx => by rw [tl] at hx; have := (oF.lt _ hx).1; simp at this; omega)
      have oG := k45.own (own_below HJ.out.1.ownG H4.out.2.1) (fun b hb hx => by rw [tl] at hx; exact HJ.out.1.apart b hx hb)
      have hBw5 : B ≤ w5.heap.size := Nat.le_trans hBw4 k45.size
      have H5 := Lib.hid (And.intro oF5 (And.intro gF (And.intro lF k45)))
      clear oF5 gF lF k5 k45 g' oF
      go_wp2_with (first | (at_builtin; refine Stopped.out ?_) | (at_make; refine Stopped.out ?_))
      refine Stopped.mk (apk_own EShl rfl (.tmp 37) (.tmp 45) rfl rfl (oG.alloc _) rfl (Sl.fresh w5 [_] 24 1 1 rfl (by decide)) (by simp [Value.oneCell']) (by simp only [maxLen]; omega) (by omega) (by simp; omega) ?_)
      intro vG' w6 oG6 gG lG
      have hsn := HJ.out.1.snoc H4.out.2.2 HJ.out.2.1 (bthen H4.out.2.1 ((Below.refl _ _).alloc (Nat.le_refl _) _)) (own_below H4.out.1 ((Below.refl _ _).alloc (Nat.le_refl _) _)) e3.out (f := room01 t) (by simp [room01]) (by rw [room_pre t t.length rfl]) H5.out.1 H5.out.2.1 H5.out.2.2.1 ((Below.refl _ _).alloc (Nat.le_refl _) _) oG6 gG lG hT
      have HN := Lib.hid hsn
      clear hsn oG6 gG lG oG g5
      go_wp2
      first | go_roundw | refine ⟨?rel, ?measure⟩
      case rel => exact ⟨j + 1, fs ++ [.slice (some ⟨g4, 0, none⟩) (m0 + 70) c4], _, _, _, _, by omega, by go_num, rfl, rfl, Lib.hid (by simp [hfl.out]), by
        have e := List.take_succ_eq_append_getElem (l := R) (i := j) (List.getElem?_eq_some_iff.1 HJ.out.2.2.2.1).1
        rw [(List.getElem?_eq_some_iff.1 HJ.out.2.2.2.1).2] at e
        rw [e, List.map_append]
        exact HN.out.1, Nat.le_refl _, HN.out.2.below HJ.out.2.2.1 HJ.out.2.2.1.size (fun x hx => by
          rw [List.mem_append, tl, tl] at hx
          have hb := H2.out.2.2.2.2.1
          rcases hx with h1 | h1
          · have := (HJ.out.1.ownF.lt _ h1).1; omega
          · have := (HJ.out.1.ownG.lt _ h1).1; omega)⟩
      case measure => simp [intOf]; omega
    · have hjm : j = m := by omega
      have hfm : fs.length = m := by rw [hfl.out]; exact hjm
      have hRl : R.take j = R := List.take_of_length_le (by rw [H2.out.1.len]; omega)
      rw [hRl] at hG
      obtain ⟨bF, cF, rfl, hF1, hF2, -, -, -⟩ := hG.formF hfm (by omega)
      obtain ⟨bG, cG, rfl, hls, hG1, hG2, -, -⟩ := hG.sls hfm (by omega) HR.out.2.2.1
      have i1 : (m : Int) ≤ (j : Int) := by omega
      obtain ⟨D, hD⟩ : ∃ D, D = R.flatten := ⟨_, rfl⟩
      have hDl : D.length ≤ 4096 := by rw [hD]; exact HR.out.2.1
      obtain ⟨q, hq⟩ : ∃ q, q = D.length := ⟨_, rfl⟩
      have hJ1 := Join_any wr hls (by have := HR.out.2.1; omega)
      have hJ2 := fun (w' : World) (hB : Below W.heap.size W w') (hRw : Raws W w' r m cr vr R) => refJoin w' (hRw.sls hB) (by have := HR.out.2.1; omega)
      rw [← hD, ← hq] at hJ1
      simp only [← hD, ← hq] at hJ2
      have HJ1 := Lib.hid (And.intro hJ1 hJ2)
      have HD := Lib.hid (And.intro hD (And.intro hq hDl))
      have HJ := Lib.hid (And.intro hG (And.intro hC (And.intro hbl hfm)))
      have hS := H2.out.2.1.then_ hbl
      have hGw := H1.out.2.2.2.2.1
      have HS := Lib.hid (And.intro hS hGw)
      clear hG hC hbl hJ1 hJ2 hls hD hq hDl hfm hRl hS hGw hjm
      go_wp2_with fail
      refine HJ1.out.1.mono ?_
      rintro e w4 ⟨rfl, o4, hb4⟩
      have hRw4 := H2.out.1.below (bthen HJ.out.2.2.1 hb4)
      have hS4 := HS.out.1.then_ hb4
      have H4 := Lib.hid (And.intro o4 (And.intro hb4 (And.intro hRw4 hS4)))
      clear o4 hb4 hRw4 hS4
      go_wp2_with fail
      refine (HJ1.out.2 w4 H4.out.2.2.2.below H4.out.2.2.1).mono ?_
      rintro e w5 ⟨v5, rfl, o5, hb5⟩
      have hP := putNew HS.out.1 H4.out.2.1 hb5 HD.out.2.1.symm H4.out.1 o5 (by have := HD.out.2.2; omega) hN (by omega)
      have HP := Lib.hid hP
      clear hP o5 hb5
      go_wp2_with fail
      refine HP.out.mono ?_
      rintro e w6 ⟨rfl, G1, vs1, ws1, ls1, hS6, hv6, hK6, hG6⟩
      have hgb : ∀ x ∈ G, x < B := fun x hx => by have h1 := HS.out.2 x hx; have h2 := H2.out.2.2.2.2.1; have h3 := H1.out.2.2.2.1; have h4 := H2.out.2.2.2.1.size; omega
      have hBw : B ≤ wr.heap.size := by rw [H2.out.2.2.2.2.1]; exact HJ.out.2.2.1.size
      have hGv6 := HJ.out.1.keep hK6 (fun x hx => .inl (hgb x hx))
      have hrG : r ∉ G := fun hx => by have h1 := HS.out.2 r hx; have h2 := H2.out.2.2.2.2.2.2; omega
      have hR6 := (H2.out.1.below HJ.out.2.2.1).keep hK6 hrG
      have b6 := hK6.heap (heap_below H2.out.2.2.1 HJ.out.2.2.1) H1.out.2.2.1
      have hg6 : ∀ x ∈ G1, x < w.heap.size ∨ wr.heap.size ≤ x := fun x hx => (hG6 x hx).imp (fun h => HS.out.2 x h) id
      have H6 := Lib.hid (And.intro hGv6 (And.intro hR6 (And.intro b6 (And.intro hS6 (And.intro hv6 (And.intro hg6 (And.intro hBw hK6.size)))))))
      clear hS6 hv6 hK6 hG6 hgb hBw hGv6 hrG hR6 b6 hg6 HP HJ1 H4
      have hJ0 := Join_any w6 (A := none) (n := 0) (c := 0) (vs := []) (ll := []) ⟨Sl.nilS _ _, rfl, fun i l h => by simp at h⟩ (by simp)
      rw [show ([] : List (List UInt8)).flatten.length = 0 from rfl] at hJ0
      have HJ0 := Lib.hid hJ0
      clear hJ0
      go_wp2_with fail
      refine HJ0.out.mono ?_
      rintro e w7 ⟨rfl, -, hb7⟩
      have H7 := Lib.hid (And.intro (H6.out.1.below hb7) (And.intro (H6.out.2.1.below hb7) (And.intro (heap_below H6.out.2.2.1 hb7) (And.intro (H6.out.2.2.2.1.then_ hb7) hb7))))
      clear hb7 HJ0
      go_wp2_with fail
      go_loopw [10] (fun i w8 => ∃ k : Nat, k ≤ m ∧ i = .int .i64 k ∧ Below w7.heap.size w7 w8) (fun i _ => m - (intOf i).toNat)
      case atStart => exact ⟨0, by omega, rfl, Below.refl _ _⟩
      case round =>
        obtain ⟨k, hk, rfl, hb8⟩ := hrel
        by_cases hlt : k < m
        · obtain ⟨f, t, g, c, e1, e2, -, -, e5, e6, o, st, -, -⟩ := H7.out.1.row k (by rw [HJ.out.2.2.2]; exact hlt)
          obtain ⟨a0, m0, d0, t', e7, e8, e9, e10⟩ := H7.out.2.1.get k hlt
          rw [e2] at e7
          obtain rfl := Option.some.inj e7
          rw [List.getElem?_map, e2] at e1
          obtain rfl := Option.some.inj e1
          rw [e10] at e5 e6 o st
          have cF1 := cell_below (cell_at (own_sl' H7.out.1.ownF).2.1 e5) hb8
          have cG1 := cell_below (cell_at (own_sl' H7.out.1.ownG).2.1 e6) hb8
          have cR1 := cell_below e8 hb8
          have hst := fun (w' : World) (h : Below wr.heap.size wr w') => And.intro (still01 w' (((own_sl' o).2.1.below hb8).below h) ((e9.below (H7.out.2.2.2.1.then_ hb8).below).below h) (by have := HR.out.2.2.1 _ (List.mem_of_getElem? e2); omega)) (same01 w' ((st.below hb8).below h) ((e9.below (H7.out.2.2.2.1.then_ hb8).below).below h))
          simp only [decide_eq_true] at hst
          have HST := Lib.hid hst
          have HB8 := Lib.hid hb8
          have hk0 : (0 : Int) ≤ (k : Int) := Int.natCast_nonneg _
          have hk1 : (k : Int) < (m : Int) := by omega
          have hk2 : (k : Int) < (cF : Int) := by omega
          have hk3 : (k : Int) < (cG : Int) := by omega
          have hk4 : (k : Int) < (cr : Int) := by omega
          clear e2 e5 e6 e8 e9 e10 o st hst hb8
          go_wp2_with fail
          go_region_held3 (fun w' => w'.cell? ⟨bF, k, none⟩ = some (.slice (some ⟨g, 0, none⟩) (m0 + 70) c) ∧ w'.cell? ⟨r, k, none⟩ = some (.slice a0 m0 d0) ∧ w'.cell? ⟨bG, k, none⟩ = some (.slice (some ⟨g, 0, none⟩) m0 c))
            (first | exact F2 | exact F1 | exact ⟨cF1, cR1, cG1⟩ | go_keep)
            (first
              | (go_at_call 28; refine ((HST.out _ n1).2).mono ?_; rintro e x2 ⟨rfl, hd2⟩; have F2 := And.intro (cell_below F1.1 hd2.below) (And.intro (cell_below F1.2.1 hd2.below) (cell_below F1.2.2 hd2.below)); have n2 := bthen n1 hd2.below)
              | (go_at_call 129; refine ((HST.out wr.drew ((Below.refl _ wr).drew)).1).mono ?_; rintro e x1 ⟨rfl, hd1⟩; have F1 := And.intro (cell_below (w := wr.drew) cF1 hd1) (And.intro (cell_below (w := wr.drew) cR1 hd1) (cell_below (w := wr.drew) cG1 hd1)); have n1 : Below wr.heap.size wr x1 := bthen ((Below.refl _ wr).drew) hd1))
          have HN := Lib.hid (bthen HB8.out n2)
          clear n1 n2 hd1 hd2 F1 F2 cF1 cG1 cR1 HB8 HST
          go_wp2
          first | go_roundw | refine ⟨?rel, ?measure⟩
          case rel => exact ⟨k + 1, by omega, by go_num, HN.out⟩
          case measure => simp [intOf]; omega
        · have i2 : (m : Int) ≤ (k : Int) := by omega
          have H8 := Lib.hid (And.intro (H7.out.1.below hb8) (And.intro (H7.out.2.1.below hb8) (And.intro (heap_below H7.out.2.2.1 hb8) (And.intro (H7.out.2.2.2.1.then_ hb8) hb8))))
          clear hb8
          obtain ⟨f0, t0, g0, c0, -, e2, -, -, -, e6, -, s0, -, -⟩ := H8.out.1.row 0 (by rw [HJ.out.2.2.2]; omega)
          have ex : t0 = x := by rw [HR.out.1] at e2; exact (Option.some.inj e2).symm
          subst ex
          rw [HR.out.2.2.2.1] at e6 s0
          have cG0 := cell_at (own_sl' H8.out.1.ownG).2.1 e6
          have c40 := box_cell H8.out.2.2.1 4 (.slice X xn xc) rfl
          have i3 : (0 : Int) < (m : Int) := by omega
          have i5 : 0 < m := by omega
          have i6 : ¬ m = 0 := by omega
          have i4 : (0 : Int) < (cG : Int) := by omega
          have HGw : Hid (w.heap.size ∉ G1) := Lib.hid (fun hx => by rcases H6.out.2.2.2.2.2.1 _ hx with h1 | h1 <;> have h2 := H6.out.2.2.2.2.2.2.1 <;> have h3 := H2.out.2.2.2.2.1 <;> have h4 := H2.out.2.2.2.1.size <;> have h5 := H1.out.2.2.2.1 <;> omega)
          have hbG := H8.out.1.ownG.lt bG rfl
          have hbGC := H8.out.1.hiG bG rfl
          have HGb : Hid (bG ∉ G1) := Lib.hid (fun hx => by rcases H6.out.2.2.2.2.2.1 _ hx with h1 | h1 <;> have h2 := HJ.out.2.1 <;> have h3 := H2.out.2.2.2.2.1 <;> have h4 := H2.out.2.2.2.1.size <;> have h5 := H1.out.2.2.2.1 <;> omega)
          have hj0 := Join_any (wr.alloc (.cells #[.slice (some ⟨g0, 0, none⟩) xn c0] 24)).drew ((Sls.fresh wr [.slice (some ⟨g0, 0, none⟩) xn c0] [t0] 24 1 rfl rfl (by decide) (fun i l hl => by
            match i, hl with
            | 0, hl => obtain rfl := Option.some.inj hl; exact ⟨_, _, _, rfl, s0, by omega⟩)).below ((Below.refl _ _).drew)) (by have := HR.out.2.2.2.1; simp; omega)
          rw [show [t0].flatten = t0 by simp, HR.out.2.2.2.1, show (wr.alloc (.cells #[.slice (some ⟨g0, 0, none⟩) xn c0] 24)).drew.heap.size = wr.heap.size + 1 from World.size_alloc _ _] at hj0
          have hba : Below wr.heap.size wr (wr.alloc (.cells #[.slice (some ⟨g0, 0, none⟩) xn c0] 24)).drew := ((Below.refl _ wr).alloc (Nat.le_refl _) _).drew
          have HJ0 := Lib.hid (And.intro hj0 hba)
          clear hj0 hba s0 e6 hbG hbGC e2
          go_wp2_with fail
          go_region_held3 (fun w' => w'.cell? ⟨bG, 0, none⟩ = some (.slice (some ⟨g0, 0, none⟩) xn c0) ∧ w'.cell? ⟨w.heap.size, 4, none⟩ = some (.slice X xn xc))
            (first | exact F2 | exact F1 | exact ⟨cG0, c40⟩ | exact ⟨cell_ald cG0 _, cell_ald c40 _⟩ | go_keep)
            (first
              | (go_at_call 132; refine (put01m _ S5 HR.out.2.2.2.1 o5' hv5 x5s (sl_in HW.out.1) (by omega) hN (by have := H6.out.2.2.2.2.1; omega)).mono ?_; rintro e x6 ⟨rfl, G2, vs2, ws2, ls2, hS2, hv2, hK2, hG2⟩; have F2 := And.intro (hK2.cell F1.1 HGb.out) (hK2.cell F1.2 HGw.out))
              | (go_at_call 23; refine HJ0.out.1.mono ?_; rintro e x5 ⟨rfl, o5, hb5⟩
                 have n5 : Below wr.heap.size wr x5 := HJ0.out.2.trans (hb5.mono (by omega))
                 have S5 := H8.out.2.2.2.1.then_ n5
                 have F1 := And.intro (cell_below cG0 n5) (cell_below c40 n5)
                 have x5s := HW.out.1.below S5.below
                 have o5' := own_mono o5 (Nat.le_trans H8.out.2.2.2.1.below.size (Nat.le_succ _))
                 have hv5 : ∀ b, (Value.slice (some ⟨wr.heap.size + 1, 0, none⟩) xn xn).ownBlock = some b → b ∉ G1 := fun b hb hx => by have e : wr.heap.size + 1 = b := Option.some.inj hb; have := H8.out.2.2.2.1.lts b hx; omega))
          have hCm : ∀ x ∈ G1, x < B ∨ C ≤ x := fun x hx => by
            have h2 := HJ.out.2.1; have h3 := H2.out.2.2.2.2.1; have h4 := H2.out.2.2.2.1.size; have h5 := H1.out.2.2.2.1
            rcases H6.out.2.2.2.2.2.1 x hx with h1 | h1 <;> omega
          have hGv9 := ((H8.out.1.below n5).keep hK2 hCm)
          have hg9 : ∀ x ∈ G2, x < B ∨ C ≤ x := fun x hx => by
            have h2 := HJ.out.2.1
            have h3 := H7.out.2.2.2.2.size
            have h4 := H8.out.2.2.2.2.size
            have h8 := H6.out.2.2.2.2.2.2.2
            rcases hG2 x hx with h1 | h1 | h1 | h1
            · exact hCm x h1
            · have e : wr.heap.size + 1 = x := Option.some.inj h1
              exact .inr (by omega)
            · obtain ⟨h0, h1⟩ := h1
              cases hX : X with
              | none => rw [hX] at h1; cases h1
              | some ad =>
                rw [hX] at h1
                have e : ad.block = x := Option.some.inj h1
                have h10 := sl_in HW.out.1 ad hX h0
                have h11 := H1.out.2.2.2.2.2
                have h12 := H2.out.2.2.2.2.1; have h13 := H2.out.2.2.2.1.size; have h14 := H1.out.2.2.2.1
                exact .inl (by omega)
            · have := n5.size; exact .inr (by omega)
          have hD9 : C ≤ x6.heap.size := by
            have h2 := HJ.out.2.1
            have h3 := H7.out.2.2.2.2.size
            have h4 := H8.out.2.2.2.2.size
            have h8 := H6.out.2.2.2.2.2.2.2
            have := n5.size; have := hK2.size
            omega
          have H9 := Lib.hid (And.intro hGv9 (And.intro hS2 (And.intro hg9 (And.intro hD9 (show vs2.length ≤ vs.length + 2 by have := H6.out.2.2.2.2.1; omega)))))
          clear hCm hGv9 hS2 hg9 hD9 hK2 hv2 hG2 F1 F2 n5 S5 x5s o5 o5' hv5 hb5 cG0 c40 HJ0
          go_wp2_with fail
          go_loopw [11, 12] (fun oO i wr => ∃ (t : Nat) (Fl' R' : List (List UInt8)) (os : List Value) (vO : Value), t ≤ m ∧ i = .int .i64 t ∧ vO = oO ∧ Hid (os.length = t) ∧ Giv wr B C (.slice (some ⟨bF, 0, none⟩) m cF) (.slice (some ⟨bG, 0, none⟩) m cG) fs gs Fl' R' ∧ Hid (R'.map List.length = R.map List.length) ∧ Oth wr x6.heap.size vO os (R'.take t) ∧ Shf W wr p G2 vs2 ws2 ls2 N ∧ x6.heap.size ≤ wr.heap.size) (fun _ i _ => m - (intOf i).toNat)
          case atStart => exact ⟨0, _, _, [], _, by omega, rfl, rfl, Lib.hid rfl, H9.out.1, Lib.hid rfl, by simpa using Oth.start _ _, H9.out.2.1, Nat.le_refl _⟩
          case round =>
            obtain ⟨t, Fl', R', os, vO, ht, rfl, rfl, hos, hGv, hRl, hO, hS, hle⟩ := hrel
            by_cases hlt : t < m
            · obtain ⟨f, t1, g, c, e1, e2, e3, e4, e5, e6, o, st, hg1, hg2⟩ := hGv.row t (by rw [HJ.out.2.2.2]; exact hlt)
              have cG1 := cell_at (own_sl' hGv.ownG).2.1 e6
              have hmt : t1.length ≤ 4096 := by
                have hf := flat_same R R' hRl.out
                have := le_flat (List.mem_of_getElem? e2)
                have := HR.out.2.1
                omega
              obtain ⟨mt, hmt2⟩ : ∃ mt, mt = t1.length := ⟨_, rfl⟩
              rw [← hmt2] at cG1 o hmt
              have ht0 : (0 : Int) ≤ (t : Int) := Int.natCast_nonneg _
              have ht1 : (t : Int) < (m : Int) := by omega
              have ht2 : (t : Int) < (cG : Int) := by omega
              have hcm := st.max
              have hcl := st.le
              rw [← hmt2] at hcl
              have HT := Lib.hid (And.intro o (And.intro hGv (And.intro hS (And.intro hO (And.intro hle (And.intro e1 (And.intro e2 (And.intro e5 (And.intro e6 (And.intro hg1 (And.intro hg2 hmt2)))))))))))
              clear o hGv hS hO hle e1 e2 e3 e4 e5 e6 hg1 hg2 hmt2 st
              go_wp2_with fail
              refine (turn01 wr HT.out.1 0 mt c (by omega) (by omega) hcm).mono ?_
              rintro e wt ⟨rfl, L', hL', ot, kt⟩
              have hGv2 := HT.out.2.1.turned HT.out.2.2.2.2.2.1 HT.out.2.2.2.2.2.2.1 HT.out.2.2.2.2.2.2.2.1 (by rw [hL', HT.out.2.2.2.2.2.2.2.2.2.2.2]) (by rw [← HT.out.2.2.2.2.2.2.2.2.2.2.2]; exact ot) kt hT
              rw [← HT.out.2.2.2.2.2.2.2.2.2.2.2] at hGv2
              obtain ⟨z, hz⟩ : ∃ z, z = L'.take mt := ⟨_, rfl⟩
              have hzl : z.length = mt := by rw [hz, List.length_take]; omega
              rw [← hz] at hGv2
              have hS2 := HT.out.2.2.1.keep kt (fun y hy hx => by
                simp at hx; subst hx
                have h5 := HT.out.2.2.2.2.2.2.2.2.2.1; have h6 := HT.out.2.2.2.2.2.2.2.2.2.2.1
                have := H9.out.2.2.1 _ hy; omega) (fun y hy => by
                simp at hy; subst hy
                have h5 := HT.out.2.2.2.2.2.2.2.2.2.1
                have h11 := H1.out.2.2.2.2.2
                have h12 := H2.out.2.2.2.2.1; have h13 := H2.out.2.2.2.1.size; have h14 := H1.out.2.2.2.1
                omega)
              have hO2 := HT.out.2.2.2.1.keep kt (fun y hy => by
                simp at hy; subst hy
                have h6 := HT.out.2.2.2.2.2.2.2.2.2.2.1
                have := H9.out.2.2.2.1; omega)
              have sz := ((own_sl' ot).2.1).preL (m := mt) (by omega)
              rw [← hz] at sz
              have cG2 := cell_at (own_sl' hGv2.ownG).2.1 (by have := HT.out.2.2.2.2.2.2.2.2.1; rw [← HT.out.2.2.2.2.2.2.2.2.2.2.2] at this; exact this)
              have hsz := kt.size
              have H10 := Lib.hid (And.intro hGv2 (And.intro hS2 (And.intro hO2 (And.intro sz (And.intro hzl hsz)))))
              clear hGv2 hS2 hO2 sz hzl hsz hz ot kt cG1
              go_wp2_with fail
              refine (copied01 wt H10.out.2.2.2.1 (by omega)).mono ?_
              rintro e wc ⟨vc, rfl, oc, hbc⟩
              obtain ⟨Ac, cc, rfl, -, -⟩ := own_sl oc
              have oO := own_below H10.out.2.2.1.own hbc
              have hq : os.length ≤ 4098 := by rw [hos.out]; omega
              have hDw : x6.heap.size ≤ wc.heap.size := Nat.le_trans HT.out.2.2.2.2.1 (Nat.le_trans H10.out.2.2.2.2.2 hbc.size)
              have H11 := Lib.hid (And.intro oc hbc)
              clear oc hbc cG2
              go_wp2_with (first | (at_builtin; refine Stopped.out ?_) | (at_make; refine Stopped.out ?_))
              refine Stopped.mk (apk_own EShl rfl (.tmp 108) (.tmp 114) rfl rfl (oO.alloc _) rfl (Sl.fresh wc [_] 24 1 1 rfl (by decide)) (by simp [Value.oneCell']) (by simp only [maxLen]; omega) (by omega) (by simp; omega) ?_)
              intro vO' w12 oO12 gO lO
              have hba : Below wt.heap.size wt (wc.alloc (.cells #[.slice Ac mt cc] 24)) := bthen H11.out.2 ((Below.refl _ _).alloc (Nat.le_refl _) _)
              have hO3 := H10.out.2.2.1.snoc (Nat.le_trans HT.out.2.2.2.2.1 H10.out.2.2.2.2.2) hba (own_below H11.out.1 ((Below.refl _ _).alloc (Nat.le_refl _) _)) H10.out.2.2.2.2.1 oO12 gO hT
              have kO : Keep vO.ownBlock.toList wt w12 := (Keep.of_below hba _).trans ((Keep.refl _ _).grown gO (fun k hk => .inl ((tl _ _).2 hk)))
              have hOD : ∀ y ∈ vO.ownBlock.toList, x6.heap.size ≤ y := fun y hy => by rw [tl] at hy; exact (H10.out.2.2.1.own.lt y hy).1
              have hGv3 := H10.out.1.keep kO (fun y hy => by have h1 := hOD y hy; have h2 := H9.out.2.2.2.1; exact .inr (by omega))
              have hS3 := H10.out.2.1.keep kO (fun y hy hx => by have h1 := hOD y hx; have h2 := H9.out.2.1.lts y hy; omega) (fun y hy => by have h1 := hOD y hy; have h2 := H9.out.2.1.below.size; omega)
              have HN := Lib.hid (And.intro hO3 (And.intro hGv3 (And.intro hS3 (show x6.heap.size ≤ w12.heap.size from Nat.le_trans (Nat.le_trans HT.out.2.2.2.2.1 H10.out.2.2.2.2.2) kO.size))))
              clear hO3 kO hOD hGv3 hS3 oO12 gO lO oO hba
              go_wp2
              first | go_roundw | refine ⟨?rel, ?measure⟩
              case rel => exact ⟨t + 1, Fl'.set t L', R'.set t z, os ++ [.slice Ac mt cc], _, by omega, by go_num, rfl, Lib.hid (by simp [hos.out]), HN.out.2.1, Lib.hid (by
                rw [List.map_set, hRl.out]
                refine set_same ?_
                rw [← hRl.out, List.getElem?_map, HT.out.2.2.2.2.2.2.1, H10.out.2.2.2.2.1, HT.out.2.2.2.2.2.2.2.2.2.2.2]
                rfl), by rw [take_set (List.getElem?_eq_some_iff.1 HT.out.2.2.2.2.2.2.1).1]; exact HN.out.1, HN.out.2.2.1, HN.out.2.2.2⟩
              case measure => simp [intOf]; omega
            · have htm : t = m := by omega
              have i7 : (m : Int) ≤ (t : Int) := by omega
              have hRm : R'.length = m := by
                have := congrArg List.length hRl.out
                simp only [List.length_map] at this
                rw [this, H2.out.1.len]
              have hfl2 := flat_same R R' hRl.out
              have hf0 := HR.out.2.1
              have hle2 : ∀ l ∈ R', l.length ≤ 4096 := fun l hl => by have := le_flat hl; omega
              rw [List.take_of_length_le (by omega)] at hO
              obtain ⟨bG2, cG2, eG, hls, -, -, -, -⟩ := hGv.sls HJ.out.2.2.2 (by omega) hle2
              obtain ⟨AO, cO, rfl, hlsO, -, -⟩ := hO.sls (n := m) (by rw [hos.out]; exact htm) hle2
              injection eG with eG1 _ eG2
              injection eG1 with eG1
              injection eG1 with eG1 _ _
              subst eG1; subst eG2
              obtain ⟨D2, hD2⟩ : ∃ D, D = R'.flatten := ⟨_, rfl⟩
              have hDl2 : D2.length ≤ 4096 := by rw [hD2]; omega
              obtain ⟨q2, hq2⟩ : ∃ q, q = D2.length := ⟨_, rfl⟩
              have hJ1 := Join_any wr hls (by omega)
              have hJ2 := fun (w' : World) (h : Below wr.heap.size wr w') => refJoin w' (hlsO.below h) (by omega)
              rw [← hD2, ← hq2] at hJ1
              simp only [← hD2, ← hq2] at hJ2
              have HJ1 := Lib.hid (And.intro hJ1 hJ2)
              have HD2 := Lib.hid (And.intro hq2.symm (And.intro hDl2 hS))
              clear hls hlsO hD2 hq2 hJ1 hJ2 hDl2 hS hO hGv hfl2 hf0 hRm hle2 htm
              go_wp2_with fail
              refine HJ1.out.1.mono ?_
              rintro e wd ⟨rfl, od, hbd⟩
              go_wp2_with fail
              refine (HJ1.out.2 wd hbd).mono ?_
              rintro e we ⟨ve, rfl, oe, hbe⟩
              have hP := putNew HD2.out.2.2 hbd hbe HD2.out.1 od oe (by have := HD2.out.2.1; omega) hN (by have := H9.out.2.2.2.2; omega)
              have HP := Lib.hid hP
              clear hP od oe hbd hbe HJ1
              go_wp2_with fail
              refine HP.out.mono ?_
              rintro e wf ⟨rfl, G3, vs3, ws3, ls3, hS3, hv3, _, _⟩
              have HF := Lib.hid (And.intro hS3 (show vs3.length ≤ vs.length + 4 by have := H9.out.2.2.2.2; omega))
              clear hS3 hv3 HP
              go_wp2
              go_ret
              exact ⟨rfl, _, _, _, _, HF.out.1, HF.out.2⟩
end Go.Proofs.Ytdooabbeolfgfaa
