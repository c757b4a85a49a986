import Derived.Test.YtpjmbhhfpoamnaaScans13
set_option linter.unusedVariables false
set_option linter.unusedSimpArgs false
namespace Go.Proofs.Ytpjmbhhfpoamnaa
open Go.RowKit Go.Shelf
theorem Sl.pre13 {w : World} {A : Option Addr} {n c m : Nat} {l : List UInt8} (h : Sl w 1 A n c (l.map by8)) (hm : m ≤ n) : Sl w 1 A m c ((l.take m).map by8) := by
  have hl : l.length = n := by simpa using h.len
  refine ⟨by simp; omega, Nat.le_trans hm h.le, h.max, h.nil, fun ad e hp => ?_⟩
  obtain ⟨h1, h2⟩ := h.at_ ad e (by simp at hp ⊢; omega)
  refine ⟨h1, fun i hi => ?_⟩
  have hi2 : i < m := by simp at hi; omega
  rw [h2 i (by simp; omega)]
  simp
theorem room13_pre (l : List UInt8) (m : Nat) (h : l.length = m) : (room13 l).take m = l := by
  unfold room13
  rw [← h, List.take_left]
/-- the operation's box, the bytes and the payload in memory of their own -/
structure Fx (b0 C gf go cf co n m : Nat) (oc : Array Value) (F Ov : List UInt8) (V : World) : Prop where
  box : V.heap[b0]? = some (.cells oc 92 (0, 0))
  full : V.ownsRow (b0 + 1) 5 1 (.slice (some ⟨gf, 0, none⟩) (n + 70) cf) (n + 70) (F.map by8)
  over : V.ownsRow (b0 + 1) 5 1 (.slice (some ⟨go, 0, none⟩) (m + 70) co) (m + 70) (Ov.map by8)
  ord : b0 < gf ∧ gf < go ∧ go < C
variable {b0 C gf go cf co n m : Nat} {oc : Array Value} {F Ov : List UInt8} {V V' : World} {M : List Nat}
theorem Fx.keep (h : Fx b0 C gf go cf co n m oc F Ov V) (k : Keep M V V') (hM : ∀ y ∈ M, y < b0 ∨ C ≤ y) : Fx b0 C gf go cf co n m oc F Ov V' := by
  obtain ⟨h1, h2, h3⟩ := h.ord
  exact ⟨k.heap h.box (fun hx => by have := hM _ hx; omega), k.own h.full (fun b hb hx => by have e : gf = b := Option.some.inj hb; have := hM _ hx; omega), k.own h.over (fun b hb hx => by have e : go = b := Option.some.inj hb; have := hM _ hx; omega), h.ord⟩
theorem Fx.below (h : Fx b0 C gf go cf co n m oc F Ov V) (k : Below V.heap.size V V') : Fx b0 C gf go cf co n m oc F Ov V' := h.keep (Keep.of_below k []) (by simp)
theorem Fx.mine (h : Fx b0 C gf go cf co n m oc F Ov V) : Sl V 1 (some ⟨gf, 0, none⟩) n cf ((F.take n).map by8) := (own_sl' h.full).2.1.pre13 (by omega)
theorem Fx.pay (h : Fx b0 C gf go cf co n m oc F Ov V) : Sl V 1 (some ⟨go, 0, none⟩) m co ((Ov.take m).map by8) := (own_sl' h.over).2.1.pre13 (by omega)
theorem Fx.turnF (h : Fx b0 C gf go cf co n m oc F Ov V) (k : Keep [gf] V V') {F' : List UInt8} (o : V'.ownsRow (b0 + 1) 5 1 (.slice (some ⟨gf, 0, none⟩) (n + 70) cf) (n + 70) (F'.map by8)) : Fx b0 C gf go cf co n m oc F' Ov V' := by
  obtain ⟨h1, h2, h3⟩ := h.ord
  exact ⟨k.heap h.box (by simp; omega), o, k.own h.over (fun b hb hx => by have e : go = b := Option.some.inj hb; simp at hx; omega), h.ord⟩
theorem Fx.turnO (h : Fx b0 C gf go cf co n m oc F Ov V) (k : Keep [go] V V') {O' : List UInt8} (o : V'.ownsRow (b0 + 1) 5 1 (.slice (some ⟨go, 0, none⟩) (m + 70) co) (m + 70) (O'.map by8)) : Fx b0 C gf go cf co n m oc F O' V' := by
  obtain ⟨h1, h2, h3⟩ := h.ord
  exact ⟨k.heap h.box (by simp; omega), k.own h.full (fun b hb hx => by have e : gf = b := Option.some.inj hb; simp at hx; omega), o, h.ord⟩
theorem put13m {W : World} (w : World) {p : Nat} {G : List Nat} {vs ws : List Value} {ls : List (List UInt8)} {N : Nat} (h : Shf W w p G vs ws ls N) {g c m : Nat} {l : List UInt8} (hm : l.length = m)
    (o : w.ownsRow W.heap.size 5 1 (.slice (some ⟨g, 0, none⟩) m c) m (l.map by8)) (hv : g ∉ G) (hl : m ≤ N) (hN : N ≤ 100000000) (hn : vs.length ≤ 1000000000) :
    Calls Try.prog 100 #[.pointer (some ⟨p, 0, none⟩), .slice (some ⟨g, 0, none⟩) m c] w fun e w' => e = .returned (.tuple #[]) ∧ ∃ G' vs' ws' ls', Shf W w' p G' vs' ws' ls' N ∧ vs'.length = vs.length + 1 ∧ Keep G w w' ∧ ∀ x ∈ G', x ∈ G ∨ x = g ∨ w.heap.size ≤ x := by
  subst hm
  refine (put13 w h o (fun b hb hx => by have e : g = b := Option.some.inj hb; subst e; exact hv hx) hl hN hn).mono ?_
  rintro e w' ⟨he, v2, G', hS, hK, hG', _⟩
  exact ⟨he, G', _, _, _, hS, by simp, hK, fun x hx => (hG' x hx).imp id (fun h => h.imp (fun h => (Option.some.inj h).symm) id)⟩
theorem two_set {w : World} {b : Nat} {u v u' v' : Value} {t : Nat} (h : w.heap[b]? = some (.cells #[u, v] t (0, 0))) : ((w.setCell ⟨b, 0, none⟩ u').setCell ⟨b, 1, none⟩ v').heap[b]? = some (.cells #[u', v'] t (0, 0)) := by
  have h1 := heap_setCell_same w b 0 _ _ u' h
  have h2 := heap_setCell_same _ b 1 _ _ v' h1
  exact h2
theorem two_keep (w : World) (b : Nat) (u' v' : Value) : Keep [b] w ((w.setCell ⟨b, 0, none⟩ u').setCell ⟨b, 1, none⟩ v') := ((Keep.refl [b] w).setCell (p := ⟨b, 0, none⟩) (.inl (by simp)) _).setCell (p := ⟨b, 1, none⟩) (.inl (by simp)) _
theorem wholeF_short (l : List UInt8) (at_ : Int) : (wholeF l at_).2.1.length ≤ l.length := by
  unfold wholeF
  split
  · simp
  · unfold wholeD
    repeat' split
    all_goals first | (simp; done) | (simp; omega)
set_option maxRecDepth 100000 in
set_option maxHeartbeats 6400000 in
theorem plays13 {W : World} (w : World) {p : Nat} {G : List Nat} {vs ws : List Value} {ls : List (List UInt8)} {N : Nat} (h : Shf W w p G vs ws ls N) (hN8 : 300000 ≤ N) (hN : N ≤ 100000000) (hn : vs.length ≤ 800000000)
    {A1 A2 : Option Addr} {n m c1 c2 : Nat} {l q : List UInt8} (hs1 : Sl W 1 A1 n c1 (l.map by8)) (hs2 : Sl W 1 A2 m c2 (q.map by8)) (hn2 : n ≤ 65536) (hm2 : m ≤ 65536) (at_ : Int) (kk : UInt8) (lv : Int) :
    Calls Try.prog 54 #[.pointer (some ⟨p, 0, none⟩), .agg (opF A1 n c1 at_ kk.toNat A2 m c2 lv)] w fun e w' => e = .returned (.bool true) ∧ ∃ G' vs' ws' ls', Shf W w' p G' vs' ws' ls' N ∧ vs'.length ≤ vs.length + 2 * n + 4 := by
  unfold opF
  obtain ⟨W1, hW1⟩ : ∃ W1, W1 = w.alloc (.cells #[.slice A1 n c1, .int .i64 at_, .int .u8 (kk.toNat : Int), .slice A2 m c2, .int .i64 lv] 92) := ⟨_, rfl⟩
  have hb := heap_alloc_new w (.cells #[.slice A1 n c1, .int .i64 at_, .int .u8 (kk.toNat : Int), .slice A2 m c2, .int .i64 lv] 92)
  rw [← hW1] at hb
  have hB : Below w.heap.size w W1 := by rw [hW1]; exact (Below.refl _ _).alloc (Nat.le_refl _) _
  have HSZ : Hid (W1.heap.size = w.heap.size + 1) := Lib.hid (by rw [hW1]; simp)
  have hll := hs1.blen
  have hql := hs2.blen
  have d0 := box_cell hb 0 _ rfl
  have d3 := box_cell hb 3 _ rfl
  have hx1 := hs1.le; have hx2 := hs2.le
  have H1 := Lib.hid (And.intro hb (And.intro (h.then_ hB) (And.intro h.lts (And.intro hs1 (And.intro hs2 (And.intro hll (And.intro hql h.below.size)))))))
  clear hb hB h hs1 hs2 hll hql
  go_enter Try.func54, Try.ntmps54
  go_wp2_with (rw [← hW1])
  clear hW1
  refine (roomy13 W1 (H1.out.2.2.2.1.below H1.out.2.1.below) (by omega)).mono ?_
  rintro e w2 ⟨v, rfl, o2, hb2⟩
  obtain ⟨gf, cf, rfl, hgf1, hgf2, hcf⟩ := own_form o2 (by omega)
  have b2 := heap_below H1.out.1 hb2
  have d0' := box_cell b2 0 _ rfl
  have d3' := box_cell b2 3 _ rfl
  have H2 := Lib.hid (And.intro b2 (And.intro o2 (And.intro (H1.out.2.1.then_ hb2) (And.intro hgf1 hgf2))))
  clear d0 d3 b2 o2 hb2 hgf1 hgf2
  go_wp2_with fail
  refine (roomy13 w2 (H1.out.2.2.2.2.1.below H2.out.2.2.1.below) (by omega)).mono ?_
  rintro e w3 ⟨v, rfl, o3, hb3⟩
  obtain ⟨go, co, rfl, hgo1, hgo2, hco⟩ := own_form o3 (by omega)
  have hFx : Fx w.heap.size w3.heap.size gf go cf co n m #[.slice A1 n c1, .int .i64 at_, .int .u8 (kk.toNat : Int), .slice A2 m c2, .int .i64 lv] (room13 l) (room13 q) w3 := by
    have h1 := HSZ.out
    have h2 := H2.out.2.2.2.1; have h3 := H2.out.2.2.2.2
    exact ⟨heap_below H2.out.1 hb3, own_mono (own_below H2.out.2.1 hb3) (by omega), own_mono o3 (by omega), ⟨by omega, by omega, hgo2⟩⟩
  have hS3 := H2.out.2.2.1.then_ hb3
  have H3 := Lib.hid (And.intro hFx (And.intro hS3 (And.intro HSZ.out H1.out.2.2.1)))
  clear d0' d3' o3 hb3 hgo1 hgo2 hFx hS3
  have e0 := box_cell H3.out.1.box 0 _ rfl
  have e1 := box_cell H3.out.1.box 1 _ rfl
  have e2 := box_cell H3.out.1.box 2 _ rfl
  have e3 := box_cell H3.out.1.box 3 _ rfl
  have e4 := box_cell H3.out.1.box 4 _ rfl
  have hmine := H3.out.1.mine
  rw [room13_pre l n H1.out.2.2.2.2.2.1] at hmine
  have hov := H3.out.1.pay
  rw [room13_pre q m H1.out.2.2.2.2.2.2.1] at hov
  have hgG : ∀ y ∈ G, y < w.heap.size := H3.out.2.2.2
  have hmA : ∀ ad, (some (⟨gf, 0, none⟩ : Addr)) = some ad → 0 < n → ad.block ∉ G := fun ad e _ hx => by obtain rfl := Option.some.inj e; have h1 := hgG _ hx; have h2 := H3.out.1.ord; simp at h1; omega
  have HM := Lib.hid (And.intro hmine (And.intro hov (And.intro hgG hmA)))
  clear hmine hov hgG hmA
  go_wp2_with fail
  go_region_held3 (fun w' => w'.cell? ⟨w.heap.size, 0, none⟩ = some (.slice A1 n c1) ∧ w'.cell? ⟨w.heap.size, 1, none⟩ = some (.int .i64 at_) ∧ w'.cell? ⟨w.heap.size, 2, none⟩ = some (.int .u8 (kk.toNat : Int)) ∧ w'.cell? ⟨w.heap.size, 3, none⟩ = some (.slice A2 m c2) ∧ w'.cell? ⟨w.heap.size, 4, none⟩ = some (.int .i64 lv))
    (first | exact F3 | exact ⟨e0, e1, e2, e3, e4⟩ | go_keep)
    (first
      | (go_at_call 97; refine (scans13 w3.drew (H3.out.2.1.then_ ((Below.refl _ w3).drew)) hN8 hN (by omega) HM.out.1.drew HM.out.2.2.2 hn2 (H1.out.2.2.2.1.below (H3.out.2.1.then_ ((Below.refl _ w3).drew)).below) at_ kk.toNat A2 m c2 lv).mono ?_; rintro e w4 ⟨rfl, G1, vs1, ws1, ls1, hS4, hv4, hK4, hG4⟩; have hzG : w.heap.size ∉ G := fun hx => Nat.lt_irrefl _ (HM.out.2.2.1 _ hx); have F3 := And.intro (hK4.cell (w := w3.drew) e0 hzG) (And.intro (hK4.cell (w := w3.drew) e1 hzG) (And.intro (hK4.cell (w := w3.drew) e2 hzG) (And.intro (hK4.cell (w := w3.drew) e3 hzG) (hK4.cell (w := w3.drew) e4 hzG)))))
      | (go_at_call 96; refine (RefSum _ ((H1.out.2.2.2.1.below H3.out.2.1.below).drew)).mono ?_; rintro e x2 ⟨rfl, rfl⟩)
      | (go_at_call 44; refine (Sum_any _ HM.out.1.drew).mono ?_; rintro e x1 ⟨rfl, rfl⟩))
  have hzS : w3.drew.heap.size = w3.heap.size := rfl
  have hGi1 : ∀ y ∈ G1, y < w.heap.size ∨ w3.heap.size ≤ y := fun y hy => (hG4 y hy).imp (HM.out.2.2.1 y) id
  have hFx4 := (H3.out.1.below ((Below.refl _ w3).drew)).keep hK4 (fun y hy => .inl (HM.out.2.2.1 y hy))
  have hmine4 := hFx4.mine
  rw [room13_pre l n H1.out.2.2.2.2.2.1] at hmine4
  have hw34 : w3.heap.size ≤ w4.heap.size := hK4.size
  have H4 := Lib.hid (And.intro hFx4 (And.intro hS4 (And.intro hv4 (And.intro hGi1 (And.intro hmine4 hw34)))))
  obtain ⟨e0, e1, e2, e3, e4⟩ := F3
  clear hFx4 hS4 hv4 hG4 hGi1 hmine4 hw34 hK4 hzG hzS
  obtain ⟨⟨k1, p1, nx, t1⟩, hR⟩ : ∃ R, R = wholeF l at_ := ⟨_, rfl⟩
  have hp1 : p1.length ≤ n := by
    have := wholeF_short l at_
    rw [← hR, H1.out.2.2.2.2.2.1] at this
    exact this
  obtain ⟨lp, hlp⟩ : ∃ lp, lp = p1.length := ⟨_, rfl⟩
  have hd : ∀ (w' : World) (A : Option Addr) (c : Nat), Sl w' 1 A n c (l.map by8) → (Calls Try.prog 46 #[.slice A n c, .int .i64 at_] w' fun e w'' => ∃ g, e = .returned (.tuple #[.agg #[.int .u8 (k1.toNat : Int), .slice (some ⟨g, 0, none⟩) lp lp], .int .i64 nx, .int .i64 (t1 : Nat)]) ∧ w''.ownsRow w'.heap.size 5 1 (.slice (some ⟨g, 0, none⟩) lp lp) lp (p1.map by8) ∧ Below w'.heap.size w' w'') ∧
      (Calls Try.prog 98 #[.slice A n c, .int .i64 at_] w' fun e w'' => ∃ P pc, e = .returned (.tuple #[.agg #[.int .u8 (k1.toNat : Int), .slice P lp pc], .int .i64 nx, .int .i64 (t1 : Nat)]) ∧ w''.ownsRow w'.heap.size 5 1 (.slice P lp pc) lp (p1.map by8) ∧ Below w'.heap.size w' w'') := fun w' A c h => by
    have h1 := Decode_any w' h at_ (by omega)
    have h2 := RefDecode w' h at_ (by omega)
    rw [← hR] at h1 h2
    rw [hlp]
    exact ⟨h1, h2⟩
  have HD := Lib.hid hd
  have HLP := Lib.hid (And.intro hlp hp1)
  clear hd hR hp1 hlp
  go_wp2_with fail
  refine (HD.out w4 _ _ H4.out.2.2.2.2.1).1.mono ?_
  rintro e w5 ⟨gd, rfl, od, hbd⟩
  have hba : Below w5.heap.size w5 (w5.alloc (.cells #[.int .u8 (k1.toNat : Int), .slice (some ⟨gd, 0, none⟩) lp lp] 70)) := (Below.refl _ _).alloc (Nat.le_refl _) _
  have hbW := bthen hbd hba
  have f0 := cell_below e0 hbW
  have f1 := cell_below e1 hbW
  obtain ⟨W5, hW5⟩ : ∃ W5, W5 = w5.alloc (.cells #[.int .u8 (k1.toNat : Int), .slice (some ⟨gd, 0, none⟩) lp lp] 70) := ⟨_, rfl⟩
  have hbx : W5.heap[w5.heap.size]? = some (.cells #[.int .u8 (k1.toNat : Int), .slice (some ⟨gd, 0, none⟩) lp lp] 70 (0, 0)) := by rw [hW5]; exact heap_alloc_new w5 _
  have hsz5 : W5.heap.size = w5.heap.size + 1 := by rw [hW5]; simp
  rw [← hW5] at hbW hba
  have hgd := od.lt gd rfl
  have H5 := Lib.hid (And.intro (own_below od hba) (And.intro hbW (And.intro hbx (And.intro hsz5 (And.intro hgd (hbd.size))))))
  clear e0 e1 e2 e3 e4 od hbd hba hbW hbx hsz5 hgd
  go_wp2_with (rw [← hW5])
  clear hW5
  refine (HD.out W5 _ _ (H1.out.2.2.2.1.below (H4.out.2.1.then_ H5.out.2.1).below)).2.mono ?_
  rintro e w6 ⟨Pg, pc, rfl, og, hbg⟩
  have hba : Below w6.heap.size w6 (w6.alloc (.cells #[.int .u8 (k1.toNat : Int), .slice Pg lp pc] 70)) := (Below.refl _ _).alloc (Nat.le_refl _) _
  have hbW := bthen hbg hba
  obtain ⟨W6, hW6⟩ : ∃ W6, W6 = w6.alloc (.cells #[.int .u8 (k1.toNat : Int), .slice Pg lp pc] 70) := ⟨_, rfl⟩
  have hbx : W6.heap[w6.heap.size]? = some (.cells #[.int .u8 (k1.toNat : Int), .slice Pg lp pc] 70 (0, 0)) := by rw [hW6]; exact heap_alloc_new w6 _
  have hsz6 : W6.heap.size = w6.heap.size + 1 := by rw [hW6]; simp
  have j0 := box_cell (heap_below H5.out.2.2.1 hbW) 0 _ rfl
  have j1 := box_cell (heap_below H5.out.2.2.1 hbW) 1 _ rfl
  have j2 := box_cell (heap_alloc_new w6 (.cells #[.int .u8 (k1.toNat : Int), .slice Pg lp pc] 70)) 0 _ rfl
  have j3 := box_cell (heap_alloc_new w6 (.cells #[.int .u8 (k1.toNat : Int), .slice Pg lp pc] 70)) 1 _ rfl
  rw [← hW6] at hbW hba
  have H6 := Lib.hid (And.intro (own_below og hba) (And.intro hbW (And.intro hbx (And.intro hsz6 hbg.size))))
  clear f0 f1 og hbg hba hbW hbx hsz6
  have hak := alike13 W6 k1.toNat k1.toNat (own_sl' (own_below H5.out.1 H6.out.2.1)).2.1 (own_sl' H6.out.1).2.1
  rw [decide_eq_true ⟨rfl, rfl⟩] at hak
  have HAK := Lib.hid hak
  clear hak
  go_wp2_with (rw [← hW6])
  clear hW6
  refine HAK.out.mono ?_
  rintro e w7 ⟨rfl, hb7⟩
  have b47 := bthen (bthen H5.out.2.1 H6.out.2.1) hb7
  have hFx7 := H4.out.1.below b47
  have hov7 := hFx7.pay
  rw [room13_pre q m H1.out.2.2.2.2.2.2.1] at hov7
  have k2 := box_cell hFx7.box 2 _ rfl
  have k3 := box_cell hFx7.box 3 _ rfl
  have hS7 := H4.out.2.1.then_ b47
  have H7 := Lib.hid (And.intro hFx7 (And.intro hov7 (And.intro hS7 (And.intro b47 hb7))))
  have hco2 : (m : Int) ≤ (co : Int) := by omega
  have hm0 : (0 : Int) ≤ (m : Int) := Int.natCast_nonneg _
  clear b47 hFx7 hov7 hS7 hb7 j0 j1 j2 j3 HAK
  go_wp2_with fail
  go_region_held3 (fun w' => w'.cell? ⟨w.heap.size, 2, none⟩ = some (.int .u8 (kk.toNat : Int)) ∧ w'.cell? ⟨w.heap.size, 3, none⟩ = some (.slice A2 m c2))
    (first | exact F1 | exact ⟨k2, k3⟩ | go_keep)
    (first
      | (go_at_call 45; refine (Encode_yes w7.drew kk H7.out.2.1.drew (by omega)).mono ?_; rintro e w8 ⟨gb, rfl, ob, hb8⟩; have F1 := And.intro (cell_below (w := w7.drew) k2 hb8) (cell_below (w := w7.drew) k3 hb8)))
  have hb78 : Below w7.heap.size w7 w8 := bthen ((Below.refl _ w7).drew) hb8
  obtain ⟨k2', k3'⟩ := F1
  have hgb := (ob.lt gb rfl).1
  have H8 := Lib.hid (And.intro ob (And.intro hb78 (show w7.heap.size ≤ gb from hgb)))
  clear ob hb8 hb78 hgb k2 k3
  go_wp2_with fail
  refine (RefEncode w8 kk (H1.out.2.2.2.2.1.below (H7.out.2.2.1.then_ H8.out.2.1).below) (by omega)).mono ?_
  rintro e w9 ⟨Bc, cb, rfl, sc, hb9⟩
  have b79 := bthen H8.out.2.1 hb9
  have hFx9 := H7.out.1.below b79
  have k0 := box_cell hFx9.box 0 _ rfl
  have k3 := box_cell hFx9.box 3 _ rfl
  have hsm := same13 w9 (own_sl' (own_below H8.out.1 hb9)).2.1 (own_sl' sc).2.1
  rw [decide_eq_true rfl] at hsm
  have HSM := Lib.hid hsm
  have H9 := Lib.hid (And.intro hFx9 (And.intro b79 hb9))
  clear k2' k3' sc hb9 b79 hFx9 hsm
  go_wp2_with fail
  refine HSM.out.mono ?_
  rintro e w10 ⟨rfl, hd10⟩
  have b910 := hd10.below
  have k0' := cell_below k0 b910
  have k3' := cell_below k3 b910
  have HB10 := Lib.hid b910
  clear k0 k3 hd10 HSM
  go_wp2_with fail
  refine (roomy13 w10 (H1.out.2.2.2.1.below (H7.out.2.2.1.then_ (bthen H9.out.2.1 HB10.out)).below) (by omega)).mono ?_
  rintro e w11 ⟨v11, rfl, o11, hb11⟩
  obtain ⟨A11, c11, rfl, s11, -⟩ := own_sl o11
  have hsm := same13 w11 (own_sl' (H9.out.1.below (bthen HB10.out hb11)).full).2.1 s11
  rw [decide_eq_true rfl] at hsm
  have HSM := Lib.hid (And.intro hsm (bthen HB10.out hb11))
  have k3 := cell_below k3' hb11
  clear o11 hb11 s11 hsm k0' k3'
  go_wp2_with fail
  refine HSM.out.1.mono ?_
  rintro e w12 ⟨rfl, hd12⟩
  have k3' := cell_below k3 hd12.below
  have HB12 := Lib.hid (bthen HSM.out.2 hd12.below)
  clear k3 hd12 HSM
  go_wp2_with fail
  refine (roomy13 w12 (H1.out.2.2.2.2.1.below (H7.out.2.2.1.then_ (bthen H9.out.2.1 HB12.out)).below) (by omega)).mono ?_
  rintro e w13 ⟨v13, rfl, o13, hb13⟩
  obtain ⟨A13, c13, rfl, s13, -⟩ := own_sl o13
  have hsm := same13 w13 (own_sl' (H9.out.1.below (bthen HB12.out hb13)).over).2.1 s13
  rw [decide_eq_true rfl] at hsm
  have HSM := Lib.hid (And.intro hsm (bthen HB12.out hb13))
  clear o13 hb13 s13 hsm k3'
  go_wp2_with fail
  refine HSM.out.1.mono ?_
  rintro e w14 ⟨rfl, hd14⟩
  have b914 := bthen HSM.out.2 hd14.below
  have b714 := bthen H9.out.2.1 b914
  clear hd14 HSM
  have hFx14 := H7.out.1.below b714
  have hS14 := H7.out.2.2.1.then_ b714
  have hbf := heap_below (heap_below (heap_below H5.out.2.2.1 H6.out.2.1) H7.out.2.2.2.2) b714
  have hbg := heap_below (heap_below H6.out.2.2.1 H7.out.2.2.2.2) b714
  have hod := own_below (own_below (own_below H5.out.1 H6.out.2.1) H7.out.2.2.2.2) b714
  have hWw := H1.out.2.2.2.2.2.2.2
  have hlt1 := H4.out.2.1.lts
  have z1 := H4.out.2.1.below.size
  have z5 := H5.out.2.2.2.2.2
  have z5a := H5.out.2.2.2.1
  have z5b := H5.out.2.2.2.2.1
  have z6 := H6.out.2.2.2.2
  have z6a := H6.out.2.2.2.1
  have z7 := H7.out.2.2.2.2.size
  have z8 := H8.out.2.1.size
  have z9 := H9.out.2.2.size
  have z14 := b714.size
  have z4 := H4.out.2.2.2.2.2
  have zgb := H8.out.2.2
  have zgb2 := (H8.out.1.lt gb rfl).2
  have zo := H7.out.1.ord
  have hg1d : ∀ y ∈ G1, y < w4.heap.size := hlt1
  have hP := put13m w14 hS14 HLP.out.1.symm (own_mono hod z1) (fun hx => by have := hg1d _ hx; omega) (by have := HLP.out; omega) hN (by have := H4.out.2.2.1; omega)
  have j1 := box_cell hbf 1 _ rfl
  have hob := own_below (own_below H8.out.1 H9.out.2.2) b914
  have z15 := b914.size
  have HZ := Lib.hid (And.intro hFx14 (And.intro hbf (And.intro hbg (And.intro hg1d (And.intro hob hP)))))
  clear hFx14 hS14 hbf hbg hod hlt1 hg1d hob hP b714 b914
  go_wp2_with fail
  refine HZ.out.2.2.2.2.2.mono ?_
  rintro e v1 ⟨rfl, G2, vs2, ws2, ls2, hS2, hv2, hK2, hG2⟩
  have hgi2 : ∀ y ∈ G1, y < w.heap.size ∨ w3.heap.size ≤ y := H4.out.2.2.2.1
  have hFx15 := HZ.out.1.keep hK2 hgi2
  have hbf := hK2.heap HZ.out.2.1 (fun hx => by have := HZ.out.2.2.2.1 _ hx; omega)
  have hbg := hK2.heap HZ.out.2.2.1 (fun hx => by have := HZ.out.2.2.2.1 _ hx; omega)
  have hob := hK2.own HZ.out.2.2.2.2.1 (fun b hb hx => by have e : gb = b := Option.some.inj hb; subst e; have := HZ.out.2.2.2.1 _ hx; omega)
  have hgd := H5.out.2.2.2.2.1
  have hg2 : ∀ y ∈ G2, (y < w.heap.size ∨ w3.heap.size ≤ y) ∧ (y < w5.heap.size ∨ w14.heap.size ≤ y) := fun y hy => by
    rcases hG2 y hy with h | h | h
    · exact ⟨hgi2 y h, .inl (by have := HZ.out.2.2.2.1 _ h; omega)⟩
    · exact ⟨.inr (by omega), .inl (by omega)⟩
    · exact ⟨.inr (by omega), .inr h⟩
  have hP := put13m v1 hS2 (frB_len kk q) (own_mono (by rw [H1.out.2.2.2.2.2.2.1]; exact hob) (show W.heap.size ≤ w7.heap.size by omega)) (fun hx => by have := (hg2 _ hx).2; omega) (by have := H1.out.2.2.2.2.2.2.1; omega) hN (by have := H4.out.2.2.1; omega)
  rw [H1.out.2.2.2.2.2.2.1] at hP
  have HY := Lib.hid (And.intro hFx15 (And.intro hbf (And.intro hbg (And.intro hg2 (And.intro hv2 (And.intro hK2.size hP))))))
  clear hS2 hv2 hK2 hG2 hgi2 hFx15 hbf hbg hob hgd hg2 hP j1
  go_wp2_with fail
  refine HY.out.2.2.2.2.2.2.mono ?_
  rintro e v2 ⟨rfl, G3, vs3, ws3, ls3, hS3, hv3, hK3, hG3⟩
  have zv1 := HY.out.2.2.2.2.2.1
  have zv2 := hK3.size
  have hFx16 := HY.out.1.keep hK3 (fun y hy => (HY.out.2.2.2.1 y hy).1)
  have hbf := hK3.heap HY.out.2.1 (fun hx => by have := (HY.out.2.2.2.1 _ hx).2; omega)
  have hbg := hK3.heap HY.out.2.2.1 (fun hx => by have := (HY.out.2.2.2.1 _ hx).2; omega)
  have hg3 : ∀ y ∈ G3, (y < w.heap.size ∨ w3.heap.size ≤ y) ∧ y ≠ w5.heap.size ∧ y ≠ w6.heap.size := fun y hy => by
    rcases hG3 y hy with h | h | h
    · have := HY.out.2.2.2.1 y h
      exact ⟨this.1, by omega, by omega⟩
    · exact ⟨.inr (by omega), by omega, by omega⟩
    · exact ⟨.inr (by omega), by omega, by omega⟩
  have HX := Lib.hid (And.intro hFx16 (And.intro hbf (And.intro hbg (And.intro hg3 (And.intro hS3 (show vs3.length ≤ vs.length + n + 2 by have := HY.out.2.2.2.2.1; have := H4.out.2.2.1; omega))))))
  clear hFx16 hbf hbg hg3 hS3 hv3 hK3 hG3
  have hcfm := (own_sl' HX.out.1.full).2.1.max
  rcases Nat.lt_or_ge 6 n with h6 | h6
  focus
    have i1 : (6 : Int) < (n : Int) := by omega
    have i2 : (n : Int) ≤ (cf : Int) := by omega
    have i3 : (6 : Int) ≤ (n : Int) := by omega
    go_wp2_with fail
    refine (turn13 v2 HX.out.1.full 6 (n - 6) (cf - 6) (by omega) (by omega) (by omega)).mono ?_
    rintro e v3 ⟨rfl, F1, hF1, oF, kF⟩
    have HV3 : Hid (F1.length = n + 70 ∧ Fx w.heap.size w3.heap.size gf go cf co n m #[.slice A1 n c1, .int .i64 at_, .int .u8 (kk.toNat : Int), .slice A2 m c2, .int .i64 lv] F1 (room13 q) v3 ∧ Shf W v3 p G3 vs3 ws3 ls3 N ∧ v3.heap[w5.heap.size]? = some (.cells #[.int .u8 (k1.toNat : Int), .slice (some ⟨gd, 0, none⟩) lp lp] 70 (0, 0)) ∧ v3.heap[w6.heap.size]? = some (.cells #[.int .u8 (k1.toNat : Int), .slice Pg lp pc] 70 (0, 0)) ∧ v2.heap.size ≤ v3.heap.size) := Lib.hid ⟨hF1, HX.out.1.turnF kF oF, HX.out.2.2.2.2.1.keep kF (fun y hy hx => by simp at hx; have := (HX.out.2.2.2.1 y hy).1; omega) (fun y hy => by simp at hy; omega), kF.heap HX.out.2.1 (by simp; omega), kF.heap HX.out.2.2.1 (by simp; omega), kF.size⟩
    clear oF kF hF1 i1 i2 i3
    go_wp2_with fail
  rotate_left
  focus
    have i1 : (n : Int) ≤ 6 := by omega
    obtain ⟨v3, hv3⟩ : ∃ v3, v3 = v2 := ⟨_, rfl⟩
    obtain ⟨F1, hF1⟩ : ∃ F1, F1 = room13 l := ⟨_, rfl⟩
    have HV3 : Hid (F1.length = n + 70 ∧ Fx w.heap.size w3.heap.size gf go cf co n m #[.slice A1 n c1, .int .i64 at_, .int .u8 (kk.toNat : Int), .slice A2 m c2, .int .i64 lv] F1 (room13 q) v3 ∧ Shf W v3 p G3 vs3 ws3 ls3 N ∧ v3.heap[w5.heap.size]? = some (.cells #[.int .u8 (k1.toNat : Int), .slice (some ⟨gd, 0, none⟩) lp lp] 70 (0, 0)) ∧ v3.heap[w6.heap.size]? = some (.cells #[.int .u8 (k1.toNat : Int), .slice Pg lp pc] 70 (0, 0)) ∧ v2.heap.size ≤ v3.heap.size) := Lib.hid (by rw [hv3, hF1]; exact ⟨by simp [room13, H1.out.2.2.2.2.2.1], HX.out.1, HX.out.2.2.2.2.1, HX.out.2.1, HX.out.2.2.1, Nat.le_refl _⟩)
    rw [← hv3]
    clear hF1 hv3
    go_wp2_with fail
    clear i1
  all_goals
    clear h6
    obtain ⟨l1, hl1⟩ : ∃ l1, l1 = F1.take n := ⟨_, rfl⟩
    have hl1n : l1.length = n := by have := HV3.out.1; rw [hl1, List.length_take]; omega
    have hm1 := HV3.out.2.1.mine
    rw [← hl1] at hm1
    have q4 := box_cell HV3.out.2.1.box 4 _ rfl
    have hmA1 : ∀ (G' : List Nat), (∀ y ∈ G', y < w.heap.size ∨ w3.heap.size ≤ y) → ∀ ad, (some (⟨gf, 0, none⟩ : Addr)) = some ad → 0 < n → ad.block ∉ G' := fun G' hG ad e _ hx => by obtain rfl := Option.some.inj e; have h1 := hG _ hx; simp at h1; omega
    have HM1 := Lib.hid (And.intro hm1 (And.intro (hmA1 G3 (fun y hy => (HX.out.2.2.2.1 y hy).1)) (And.intro hl1 hl1n)))
    clear hm1 hmA1 hl1 hl1n
    go_wp2_with fail
    go_region_held3 (fun w' => w'.cell? ⟨w.heap.size, 4, none⟩ = some (.int .i64 lv))
      (first | exact F3 | exact F2 | exact q4 | go_keep)
      (first
        | (go_at_call 97; refine hscn.mono ?_; rintro e v5 ⟨rfl, G4, vs4, ws4, ls4, hS4, hv4, hK4, hG4⟩; have F3 := hK4.cell F2 hzG3)
        | (go_at_call 102; refine (copied13 v3.drew HM1.out.1.drew (by omega)).mono ?_; rintro e v4 ⟨vc, rfl, oc, hbc⟩
           obtain ⟨Ac, cc, rfl, sc, -⟩ := own_sl oc
           have hb34 : Below v3.heap.size v3 v4 := bthen ((Below.refl _ v3).drew) hbc
           have F2 := cell_below q4 hb34
           have hzG3 : w.heap.size ∉ G3 := fun hx => by have := (HX.out.2.2.2.1 _ hx).1; omega
           have hscn : Calls Try.prog 97 #[.pointer (some ⟨p, 0, none⟩), .slice (some ⟨gf, 0, none⟩) n cf, .agg #[.slice Ac n cc, .int .i64 0, .int .u8 0, .slice none 0 0, .int .i64 lv]] v4 fun e w' => e = .returned (.bool true) ∧ ∃ G' vs' ws' ls', Shf W w' p G' vs' ws' ls' N ∧ vs'.length ≤ vs3.length + n ∧ Keep G3 v4 w' ∧ ∀ x ∈ G', x ∈ G3 ∨ v4.heap.size ≤ x := scans13 v4 (HV3.out.2.2.1.then_ hb34) hN8 hN (by have := HX.out.2.2.2.2.2; omega) (HM1.out.1.below hb34) HM1.out.2.1 hn2 sc 0 0 none 0 0 lv))
    have hzv34 := hb34.size
    have hzv45 : v4.heap.size ≤ v5.heap.size := hK4.size
    have zv3 := HV3.out.2.2.2.2.2
    have hFx5 := (HV3.out.2.1.below hb34).keep hK4 (fun y hy => (HX.out.2.2.2.1 y hy).1)
    have hbf := hK4.heap (heap_below HV3.out.2.2.2.1 hb34) (fun hx => (HX.out.2.2.2.1 _ hx).2.1 rfl)
    have hbg := hK4.heap (heap_below HV3.out.2.2.2.2.1 hb34) (fun hx => (HX.out.2.2.2.1 _ hx).2.2 rfl)
    have hg4 : ∀ y ∈ G4, (y < w.heap.size ∨ w3.heap.size ≤ y) ∧ y ≠ w5.heap.size ∧ y ≠ w6.heap.size := fun y hy => by
      rcases hG4 y hy with h | h
      · exact HX.out.2.2.2.1 y h
      · exact ⟨.inr (by omega), by omega, by omega⟩
    have HU := Lib.hid (And.intro hFx5 (And.intro hbf (And.intro hbg (And.intro hg4 (And.intro hS4 (show vs4.length ≤ vs.length + 2 * n + 2 by have := HX.out.2.2.2.2.2; omega))))))
    clear hFx5 hbf hbg hg4 hS4 hv4 hK4 hG4 hzG3 hscn F2 F3 q4 hb34 sc oc hbc
    go_wp2_with fail
    refine (turn13 v5 HU.out.1.full 0 n cf (by omega) (by omega) hcfm).mono ?_
    rintro e v6 ⟨rfl, F2, hF2, oF2, kF2⟩
    have hFx6 := HU.out.1.turnF kF2 oF2
    have hS6 := HU.out.2.2.2.2.1.keep kF2 (fun y hy hx => by simp at hx; have := (HU.out.2.2.2.1 y hy).1; omega) (fun y hy => by simp at hy; omega)
    obtain ⟨l2, hl2⟩ : ∃ l2, l2 = F2.take n := ⟨_, rfl⟩
    have hl2n : l2.length = n := by rw [hl2, List.length_take]; omega
    have HL2 := Lib.hid hl2
    have hm2' := hFx6.mine
    rw [← hl2] at hm2'
    have hbf := kF2.heap HU.out.2.1 (by simp; omega)
    have hbg := kF2.heap HU.out.2.2.1 (by simp; omega)
    have zv6 := kF2.size
    have H6' := Lib.hid (And.intro hFx6 (And.intro hS6 (And.intro hm2' (And.intro hl2n (And.intro hbf hbg)))))
    clear hFx6 hS6 hm2' hbf hbg oF2 kF2 hF2 hl2n hl2
    go_wp2_with fail
    refine (copied13 v6 H6'.out.2.2.1 (by omega)).mono ?_
    rintro e v7 ⟨vo, rfl, oo, hbo⟩
    obtain ⟨Ao, co2, rfl, so, -⟩ := own_sl oo
    obtain ⟨⟨kq, pq, nq, tq⟩, hR2⟩ : ∃ R, R = wholeF l2 at_ := ⟨_, rfl⟩
    have hpq : pq.length ≤ n := by
      have := wholeF_short l2 at_
      rw [← hR2, H6'.out.2.2.2.1] at this
      exact this
    obtain ⟨lq, hlq⟩ : ∃ lq, lq = pq.length := ⟨_, rfl⟩
    have hd2 : ∀ (w' : World) (A : Option Addr) (c : Nat), Sl w' 1 A n c (l2.map by8) → (Calls Try.prog 46 #[.slice A n c, .int .i64 at_] w' fun e w'' => ∃ g, e = .returned (.tuple #[.agg #[.int .u8 (kq.toNat : Int), .slice (some ⟨g, 0, none⟩) lq lq], .int .i64 nq, .int .i64 (tq : Nat)]) ∧ w''.ownsRow w'.heap.size 5 1 (.slice (some ⟨g, 0, none⟩) lq lq) lq (pq.map by8) ∧ Below w'.heap.size w' w'') ∧
        (Calls Try.prog 98 #[.slice A n c, .int .i64 at_] w' fun e w'' => ∃ P pc, e = .returned (.tuple #[.agg #[.int .u8 (kq.toNat : Int), .slice P lq pc], .int .i64 nq, .int .i64 (tq : Nat)]) ∧ w''.ownsRow w'.heap.size 5 1 (.slice P lq pc) lq (pq.map by8) ∧ Below w'.heap.size w' w'') := fun w' A c h => by
      have h1 := Decode_any w' h at_ (by omega)
      have h2 := RefDecode w' h at_ (by omega)
      rw [← hR2] at h1 h2
      rw [hlq]
      exact ⟨h1, h2⟩
    have HD2 := Lib.hid (And.intro hd2 (And.intro hlq hpq))
    have hbf7 := heap_below H6'.out.2.2.2.2.1 hbo
    have hbg7 := heap_below H6'.out.2.2.2.2.2 hbo
    have hFx7' := H6'.out.1.below hbo
    have r1 := box_cell hFx7'.box 1 _ rfl
    have H7' := Lib.hid (And.intro oo (And.intro hbo (And.intro hbf7 (And.intro hbg7 hFx7'))))
    clear hd2 hR2 hpq hlq so oo hbo hbf7 hbg7 hFx7'
    go_wp2_with fail
    refine (HD2.out.1 v7 _ _ (H6'.out.2.2.1.below H7'.out.2.1)).1.mono ?_
    rintro e v8 ⟨gq, rfl, oq, hbq⟩
    have hbf8 := heap_below H7'.out.2.2.1 hbq
    have s0 := box_cell hbf8 0 _ rfl
    have s1 := box_cell hbf8 1 _ rfl
    have s2 := box_free hbf8 0
    have s3 := box_free hbf8 1
    have r1' := cell_below r1 hbq
    have r2 := cell_set (p := ⟨w5.heap.size, 1, none⟩) (u := .slice (some ⟨gq, 0, none⟩) lq lq) (cell_set (p := ⟨w5.heap.size, 0, none⟩) (u := .int .u8 (kq.toNat : Int)) r1' (by simp; omega)) (by simp; omega)
    have H8' := Lib.hid (And.intro oq (And.intro hbq hbf8))
    clear r1 oq hbq
    go_wp2_with fail
    obtain ⟨V8, hV8⟩ : ∃ V8, V8 = (v8.setCell ⟨w5.heap.size, 0, none⟩ (.int .u8 (kq.toNat : Int))).setCell ⟨w5.heap.size, 1, none⟩ (.slice (some ⟨gq, 0, none⟩) lq lq) := ⟨_, rfl⟩
    have hf8 := two_set (u' := .int .u8 (kq.toNat : Int)) (v' := .slice (some ⟨gq, 0, none⟩) lq lq) hbf8
    have kf8 := two_keep v8 w5.heap.size (.int .u8 (kq.toNat : Int)) (.slice (some ⟨gq, 0, none⟩) lq lq)
    rw [← hV8] at hf8 kf8 r2 ⊢
    have zv7 := H7'.out.2.1.size
    have zv8 := H8'.out.2.1.size
    have zV8 := kf8.size
    have hg8 := heap_below H7'.out.2.2.2.1 H8'.out.2.1
    have hg8' := kf8.heap hg8 (by simp; omega)
    have hgqlt := H8'.out.1.lt gq rfl
    have zb5 : w3.heap.size ≤ w5.heap.size := by omega
    have oq8 := kf8.own H8'.out.1 (fun b hb hx => by have e : gq = b := Option.some.inj hb; simp at hx; omega)
    have so8 := kf8.own (own_below H7'.out.1 H8'.out.2.1) (fun b hb hx => by have h1 := (H7'.out.1.lt b hb).1; simp at hx; omega)
    have hFx8 := (H7'.out.2.2.2.2.below H8'.out.2.1).keep kf8 (fun y hy => by simp at hy; omega)
    have hS8 := ((H6'.out.2.1.then_ H7'.out.2.1).then_ H8'.out.2.1).keep kf8 (fun y hy hx => by simp at hx; exact (HU.out.2.2.2.1 y hy).2.1 hx) (fun y hy => by simp at hy; omega)
    have H9' := Lib.hid (And.intro hf8 (And.intro hg8' (And.intro oq8 (And.intro so8 (And.intro hFx8 hS8)))))
    clear hV8 hf8 kf8 hg8 hg8' oq8 so8 hFx8 hS8 s0 s1 s2 s3 r1' hbf8
    refine (HD2.out.1 V8 _ _ (own_sl' H9'.out.2.2.2.1).2.1).2.mono ?_
    rintro e v9 ⟨Pq, pc2, rfl, oPq, hbP⟩
    have hbg9 := heap_below H9'.out.2.1 hbP
    have hbf9 := heap_below H9'.out.1 hbP
    have s0 := box_cell hbg9 0 _ rfl
    have s1 := box_cell hbg9 1 _ rfl
    have s2 := box_free hbg9 0
    have s3 := box_free hbg9 1
    have t0 := cell_set (p := ⟨w6.heap.size, 1, none⟩) (u := .slice Pq lq pc2) (cell_set (p := ⟨w6.heap.size, 0, none⟩) (u := .int .u8 (kq.toNat : Int)) (box_cell hbf9 0 _ rfl) (by simp; omega)) (by simp; omega)
    have t1' := cell_set (p := ⟨w6.heap.size, 1, none⟩) (u := .slice Pq lq pc2) (cell_set (p := ⟨w6.heap.size, 0, none⟩) (u := .int .u8 (kq.toNat : Int)) (box_cell hbf9 1 _ rfl) (by simp; omega)) (by simp; omega)
    have hg9 := two_set (u' := .int .u8 (kq.toNat : Int)) (v' := .slice Pq lq pc2) hbg9
    have t2 := box_cell hg9 0 _ rfl
    have t3 := box_cell hg9 1 _ rfl
    have kf9 := two_keep v9 w6.heap.size (.int .u8 (kq.toNat : Int)) (.slice Pq lq pc2)
    obtain ⟨V9, hV9⟩ : ∃ V9, V9 = (v9.setCell ⟨w6.heap.size, 0, none⟩ (.int .u8 (kq.toNat : Int))).setCell ⟨w6.heap.size, 1, none⟩ (.slice Pq lq pc2) := ⟨_, rfl⟩
    rw [← hV9] at hg9 kf9
    have zv9 := hbP.size
    have zV9 := kf9.size
    have hf9 := kf9.heap hbf9 (by simp; omega)
    have oq9 := kf9.own (own_below H9'.out.2.2.1 hbP) (fun b hb hx => by have e : gq = b := Option.some.inj hb; simp at hx; omega)
    have oP9 := kf9.own oPq (fun b hb hx => by have h1 := (oPq.lt b hb).1; simp at hx; omega)
    have hFx9 := (H9'.out.2.2.2.2.1.below hbP).keep kf9 (fun y hy => by simp at hy; omega)
    have hS9 := (H9'.out.2.2.2.2.2.then_ hbP).keep kf9 (fun y hy hx => by simp at hx; exact (HU.out.2.2.2.1 y hy).2.2 hx) (fun y hy => by simp at hy; omega)
    have so9 := kf9.own (own_below H9'.out.2.2.2.1 hbP) (fun b hb hx => by have h1 := (H9'.out.2.2.2.1.lt b hb).1; simp at hx; omega)
    have hak := alike13 V9 kq.toNat kq.toNat (own_sl' oq9).2.1 (own_sl' oP9).2.1
    rw [decide_eq_true ⟨rfl, rfl⟩] at hak
    have H10 := Lib.hid (And.intro hf9 (And.intro oq9 (And.intro hFx9 (And.intro hS9 (And.intro so9 hak)))))
    clear hg9 kf9 hf9 oq9 oP9 hFx9 hS9 so9 hak hbg9 hbf9 oPq hbP r2
    go_wp2_with (rw [← hV9])
    clear hV9
    refine H10.out.2.2.2.2.2.mono ?_
    rintro e x1 ⟨rfl, hbx1⟩
    have g4lt := HU.out.2.2.2.2.1.lts
    have hFxa := H10.out.2.2.1.below hbx1
    have hSa := H10.out.2.2.2.1.then_ hbx1
    have hoqa := own_below H10.out.2.1 hbx1
    have hsoa := own_below H10.out.2.2.2.2.1 hbx1
    have j1 := box_cell (heap_below H10.out.1 hbx1) 1 _ rfl
    have zx1 := hbx1.size
    have hP := put13m x1 hSa HD2.out.2.1.symm (own_mono hoqa (by omega)) (fun hx => by have := g4lt _ hx; omega) (by have := HD2.out.2; omega) hN (by have := HU.out.2.2.2.2.2; omega)
    have H11 := Lib.hid (And.intro hFxa (And.intro hsoa (And.intro g4lt hP)))
    clear g4lt hFxa hSa hoqa hsoa hP t0 t1' t2 t3 s0 s1 s2 s3 hbx1
    go_wp2_with fail
    refine H11.out.2.2.2.mono ?_
    rintro e x2 ⟨rfl, G5, vs5, ws5, ls5, hS5, hv5, hK5, hG5⟩
    have zx2 := hK5.size
    have hg5 : ∀ y ∈ G5, (y < w.heap.size ∨ w3.heap.size ≤ y) ∧ (y < v5.heap.size ∨ v7.heap.size ≤ y) := fun y hy => by
      rcases hG5 y hy with h | h | h
      · exact ⟨(HU.out.2.2.2.1 y h).1, .inl (H11.out.2.2.1 y h)⟩
      · exact ⟨.inr (by omega), .inr (by omega)⟩
      · exact ⟨.inr (by omega), .inr (by omega)⟩
    have hFxb := H11.out.1.keep hK5 (fun y hy => (HU.out.2.2.2.1 y hy).1)
    have hsob := hK5.own H11.out.2.1 (fun b hb hx => by have h1 := (H11.out.2.1.lt b hb).1; have := H11.out.2.2.1 _ hx; omega)
    have u3 := box_cell hFxb.box 3 _ rfl
    have hcom := (own_sl' hFxb.over).2.1.max
    have H12 := Lib.hid (And.intro hFxb (And.intro hsob (And.intro hg5 (And.intro hS5 (show vs5.length ≤ vs.length + 2 * n + 3 by have := HU.out.2.2.2.2.2; omega)))))
    clear hFxb hsob hg5 hS5 hv5 hK5 hG5 j1
    go_wp2_with fail
    refine (turn13 x2 H12.out.1.over 0 m co (by omega) (by omega) hcom).mono ?_
    rintro e x3 ⟨rfl, O2, hO2, oO2, kO2⟩
    have zx3 := kO2.size
    have hFxc := H12.out.1.turnO kO2 oO2
    have hSc := H12.out.2.2.2.1.keep kO2 (fun y hy hx => by simp at hx; have := H12.out.2.2.1 y hy; omega) (fun y hy => by simp at hy; omega)
    have hsoc := kO2.own H12.out.2.1 (fun b hb hx => by have h1 := (H12.out.2.1.lt b hb).1; simp at hx; omega)
    obtain ⟨q2, hq2⟩ : ∃ q2, q2 = O2.take m := ⟨_, rfl⟩
    have hq2n : q2.length = m := by rw [hq2, List.length_take]; omega
    have HQ2 := Lib.hid hq2
    have hpc := hFxc.pay
    rw [← hq2] at hpc
    have u3 := box_cell hFxc.box 3 _ rfl
    have H13 := Lib.hid (And.intro hFxc (And.intro hSc (And.intro hsoc (And.intro hpc hq2n))))
    clear hFxc hSc hsoc hpc hq2n hq2 oO2 kO2 hO2
    go_wp2_with fail
    refine (copied13 x3 H13.out.2.2.2.1 (by omega)).mono ?_
    rintro e x4 ⟨vt, rfl, ot, hbt⟩
    obtain ⟨At, ct, rfl, -, -⟩ := own_sl ot
    have hFxd := H13.out.1.below hbt
    have u2 := box_cell hFxd.box 2 _ rfl
    have u3' := cell_below u3 hbt
    have zx4 := hbt.size
    have hpd := H13.out.2.2.2.1.below hbt
    have H14 := Lib.hid (And.intro hFxd (And.intro hpd (And.intro ot hbt)))
    clear hFxd hpd ot hbt u3
    go_wp2_with fail
    go_region_held3 (fun w' => w'.cell? ⟨w.heap.size, 2, none⟩ = some (.int .u8 (kk.toNat : Int)) ∧ w'.cell? ⟨w.heap.size, 3, none⟩ = some (.slice A2 m c2))
      (first | exact F1 | exact ⟨u2, u3'⟩ | go_keep)
      (first
        | (go_at_call 45; refine (Encode_yes x4.drew kk H14.out.2.1.drew (by omega)).mono ?_; rintro e x5 ⟨gc, rfl, oc5, hb5⟩; have F1 := And.intro (cell_below (w := x4.drew) u2 hb5) (cell_below (w := x4.drew) u3' hb5)))
    have hb45 : Below x4.heap.size x4 x5 := bthen ((Below.refl _ x4).drew) hb5
    obtain ⟨u2', u3⟩ := F1
    have hgc : x4.heap.size ≤ gc ∧ gc < x5.heap.size := oc5.lt gc rfl
    have zx5 := hb45.size
    have hot5 := own_below H14.out.2.2.1 hb45
    have H15 := Lib.hid (And.intro oc5 (And.intro hb45 hot5))
    clear oc5 hb5 hb45 hot5 u2 u3'
    go_wp2_with fail
    refine (RefEncode x5 kk (own_sl' H15.out.2.2).2.1 (by omega)).mono ?_
    rintro e x6 ⟨Be, ce, rfl, oe, hb6⟩
    have zx6 := hb6.size
    have b36 := bthen (bthen H14.out.2.2.2 H15.out.2.1) hb6
    have hSf := H13.out.2.1.then_ b36
    have hFxf := H13.out.1.below b36
    have hsof := own_below H13.out.2.2.1 b36
    have hotf := own_below H15.out.2.2 hb6
    have hocf := own_below H15.out.1 hb6
    have g5lt := H12.out.2.2.2.1.lts
    have hP := put13m x6 hSf (frB_len kk q2) (own_mono (by rw [H13.out.2.2.2.2]; exact hocf) (show W.heap.size ≤ x4.heap.size by omega)) (fun hx => by have := g5lt _ hx; omega) (by have := H13.out.2.2.2.2; omega) hN (by have := H12.out.2.2.2.2; omega)
    rw [H13.out.2.2.2.2] at hP
    have H16 := Lib.hid (And.intro hFxf (And.intro hsof (And.intro hotf (And.intro hocf (And.intro oe (And.intro g5lt hP))))))
    clear hSf hFxf hsof hotf hocf g5lt hP oe hb6 b36 u2' u3
    go_wp2_with fail
    refine H16.out.2.2.2.2.2.2.mono ?_
    rintro e x7 ⟨rfl, G6, vs6, ws6, ls6, hS6, hv6, hK6, hG6⟩
    have g5lt := H16.out.2.2.2.2.2.1
    have hFxg := H16.out.1.keep hK6 (fun y hy => (H12.out.2.2.1 y hy).1)
    have hsog := hK6.own H16.out.2.1 (fun b hb hx => by
      have h1 := (H7'.out.1.lt b hb)
      have h2 := (H12.out.2.2.1 b hx).2
      omega)
    have hotg := hK6.own H16.out.2.2.1 (fun b hb hx => by
      have h1 := (H16.out.2.2.1.lt b hb).1
      have h2 := g5lt b hx
      omega)
    have hocg := hK6.own H16.out.2.2.2.1 (fun b hb hx => by
      have h1 : x4.heap.size ≤ b := (H16.out.2.2.2.1.lt b hb).1
      have h2 := g5lt b hx
      omega)
    have hoeg := hK6.own H16.out.2.2.2.2.1 (fun b hb hx => by
      have h1 := (H16.out.2.2.2.2.1.lt b hb).1
      have h2 := g5lt b hx
      omega)
    have hme := hFxg.mine
    rw [← HL2.out] at hme
    have hpe := hFxg.pay
    rw [← HQ2.out] at hpe
    have u0 := box_cell hFxg.box 3 _ rfl
    have HW2 := Lib.hid (And.intro hS6 (show vs6.length ≤ vs.length + 2 * n + 4 by have := H12.out.2.2.2.2; omega))
    have hsm1 := same13 x7 (own_sl' hocg).2.1 (own_sl' hoeg).2.1
    rw [decide_eq_true rfl] at hsm1
    have hcont := fun (w' : World) (k : Below x7.heap.size x7 w') => And.intro (Sum_any w' (hme.below k)) (And.intro (RefSum w' ((own_sl' hsog).2.1.below k)) (And.intro (same13 w' (hme.below k) ((own_sl' hsog).2.1.below k)) (same13 w' (hpe.below k) ((own_sl' hotg).2.1.below k))))
    simp only [decide_eq_true] at hcont
    have HC := Lib.hid (And.intro hsm1 hcont)
    clear hme hpe hsm1 hcont hFxg hsog hotg hocg hoeg hS6 hv6 hK6 hG6 g5lt
    go_wp2_with fail
    refine HC.out.1.mono ?_
    rintro e x8 ⟨rfl, hd8⟩
    have b8 := hd8.below
    have u1 := cell_below u0 b8
    clear u0 hd8
    go_wp2_with fail
    refine (HC.out.2 x8 b8).1.mono ?_
    rintro e x9 ⟨rfl, rfl⟩
    go_wp2_with fail
    refine (HC.out.2 x8 b8).2.1.mono ?_
    rintro e x10 ⟨rfl, rfl⟩
    go_wp2_with fail
    refine (HC.out.2 x8 b8).2.2.1.mono ?_
    rintro e x11 ⟨rfl, hd11⟩
    have b11 := bthen b8 hd11.below
    have u2 := cell_below u1 hd11.below
    clear u1 hd11
    go_wp2_with fail
    refine (HC.out.2 x11 b11).2.2.2.mono ?_
    rintro e x12 ⟨rfl, hd12⟩
    have HF := Lib.hid (HW2.out.1.then_ (bthen b11 hd12.below))
    clear hd12 b11 b8 u2
    go_wp2
    go_ret
    exact ⟨by first | rfl | simp, _, _, _, _, HF.out, HW2.out.2⟩
end Go.Proofs.Ytpjmbhhfpoamnaa
