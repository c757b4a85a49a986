import Derived.Test.YtdooabbeolfgfaaPl01f
set_option linter.unusedVariables false
set_option linter.unusedSimpArgs false
namespace Go.Proofs.Ytdooabbeolfgfaa
open Go.RowKit
set_option maxRecDepth 100000 in
set_option maxHeartbeats 3200000 in
theorem pairs01 {W : World} (w : World) {p : Nat} {G : List Nat} {vs ws : List Value} {ls : List (List UInt8)} {N : Nat} (h : Shf W w p G vs ws ls N) (hN8 : 10000 ≤ N) (hN : N ≤ 100000000) (hn : vs.length ≤ 900000000) (kd : Int) (a l : Nat) (n : Int) (X Y P : Option Addr) (xn xc yn yc pn pc : Nat) (s : ByteArray) {x y : List UInt8} (hXW : Sl W 1 X xn xc (x.map by8)) (hxn : xn ≤ 4096) (hYW : Sl W 1 Y yn yc (y.map by8)) (hyn : yn ≤ 4096) :
    Calls Try.prog 73 #[.pointer (some ⟨p, 0, none⟩), .agg (opC kd a l n X Y P xn xc yn yc pn pc s)] w fun e w' => e = .returned (.bool true) ∧ ∃ G' vs' ws' ls', Shf W w' p G' vs' ws' ls' N ∧ vs'.length ≤ vs.length + 4 := by
  unfold opC
  have hx := hXW.below h.below
  have hy := hYW.below h.below
  have HW := Lib.hid (And.intro hXW hYW)
  clear hXW hYW
  obtain ⟨W1, hW1⟩ : ∃ W1, W1 = w.alloc (.cells #[.int .i64 kd, .int .u32 a, .int .u64 l, .int .i64 n, .slice X xn xc, .slice Y yn yc, .slice P pn pc, .string s] 27) := ⟨_, rfl⟩
  have hb := heap_alloc_new w (.cells #[.int .i64 kd, .int .u32 a, .int .u64 l, .int .i64 n, .slice X xn xc, .slice Y yn yc, .slice P pn pc, .string s] 27)
  rw [← hW1] at hb
  have hB : Below w.heap.size w W1 := by rw [hW1]; exact (Below.refl _ _).alloc (Nat.le_refl _) _
  have hz : w.heap.size ∉ G := fun hx => Nat.lt_irrefl _ (h.lts _ hx)
  have hGl := h.lts
  have d4 := box_cell hb 4 _ rfl
  have hxl : x.length = xn := by simpa using hx.len
  have hyl : y.length = yn := by simpa using hy.len
  have hzl : w.heap.size < W1.heap.size := lt_of_block hb
  have hWw := h.below.size
  have H1 := Lib.hid (And.intro hb (And.intro (h.then_ hB) (And.intro (hx.below hB) (And.intro hxl (And.intro hz (And.intro hzl (And.intro hGl (And.intro hWw (And.intro (hy.below hB) hyl)))))))))
  clear hb hB hx hxl hz hzl h hGl hWw hy hyl
  go_enter Try.func73, Try.ntmps73
  go_wp2_with (rw [← hW1])
  clear hW1
  refine (roomy01 _ H1.out.2.2.1 (by omega)).mono ?_
  rintro e w2 ⟨v, rfl, o2, hb2⟩
  obtain ⟨g, c2, rfl, hg1, hg2, hc2⟩ := own_form o2 (by omega)
  have b2 := heap_below H1.out.1 hb2
  have e5 := box_cell b2 5 (.slice Y yn yc) rfl
  have H2 := Lib.hid (And.intro b2 (And.intro o2 hb2))
  clear d4 b2 o2 hb2
  go_wp2_with fail
  refine (roomy01 _ (H1.out.2.2.2.2.2.2.2.2.1.below H2.out.2.2) (by omega)).mono ?_
  rintro e w3 ⟨v, rfl, o3, hb3⟩
  obtain ⟨gy, c3, rfl, hy1, hy2, hc3⟩ := own_form o3 (by omega)
  have b3 := heap_below H2.out.1 hb3
  have f4 := box_cell b3 4 (.slice X xn xc) rfl
  have f5 := box_cell b3 5 (.slice Y yn yc) rfl
  have o2 := own_below H2.out.2.1 hb3
  have k3 := bthen H2.out.2.2 hb3
  have sx := (own_sl' o2).2.1
  have sy := (own_sl' o3).2.1
  have ax := sx.preL (m := xn) (by omega)
  rw [room_pre x xn H1.out.2.2.2.1] at ax
  have ay := sy.preL (m := yn) (by omega)
  rw [room_pre y yn H1.out.2.2.2.2.2.2.2.2.2] at ay
  have iX := H1.out.2.2.1.below k3
  have iY := H1.out.2.2.2.2.2.2.2.2.1.below k3
  obtain ⟨D, hD⟩ : ∃ D, D = xorD x y := ⟨_, rfl⟩
  have hDl : D.length ≤ N := by rw [hD]; have := xorD_len x y; have := H1.out.2.2.2.1; omega
  have hX1 := bXor w3 ax ay (by omega)
  have hX2 := fun (w' : World) (k : Below w3.heap.size w3 w') => rXor w' (iX.below k) (iY.below k) (by omega)
  rw [← hD] at hX1
  simp only [← hD] at hX2
  obtain ⟨m, hm⟩ : ∃ m, m = D.length := ⟨_, rfl⟩
  rw [← hm] at hX1
  simp only [← hm] at hX2
  obtain ⟨qq, hqq⟩ : ∃ qq, qq = decide (x = y) := ⟨_, rfl⟩
  obtain ⟨ok, hok⟩ : ∃ ok, ok = decide (xn = yn) := ⟨_, rfl⟩
  rw [← hok] at hX1
  simp only [← hok] at hX2
  have HX := Lib.hid (And.intro hX1 hX2)
  have hEq := fun (w' : World) (k : Below w3.heap.size w3 w') => And.intro (Equal_any w' (ax.below k) (ay.below k)) (And.intro (refEqual w' (iX.below k) (iY.below k)) (Equal_any w' (ax.below k) (ax.below k)))
  simp only [← hqq, decide_eq_true] at hEq
  have HE := Lib.hid hEq
  have H3 := Lib.hid (And.intro b3 (And.intro o2 (And.intro o3 (And.intro (H1.out.2.1.then_ k3) (And.intro k3 (And.intro (And.intro hm.symm hDl) (And.intro iX iY)))))))
  have xc1 : (xn : Int) ≤ (c2 : Int) := by omega
  have yc1 : (yn : Int) ≤ (c3 : Int) := by omega
  clear b3 o2 o3 hb3 k3 sx sy ax ay iX iY hX1 hX2 hEq hD hm hqq hok e5
  go_wp2_with fail
  refine HX.out.1.mono ?_
  rintro e w4 ⟨u, rfl, o4, hb4⟩
  have h4 := cell_below f4 hb4
  have h5 := cell_below f5 hb4
  go_wp2_with fail
  refine (HX.out.2 w4 hb4).mono ?_
  rintro e w5 ⟨u2, rfl, o5, hb5⟩
  have i4 := cell_below h4 hb5
  have i5 := cell_below h5 hb5
  have k5 := bthen hb4 hb5
  have H5 := Lib.hid (And.intro o4 (And.intro o5 (And.intro hb4 (And.intro hb5 k5))))
  clear f4 f5 h4 h5 o4 o5 hb4 hb5 HX
  go_wp2_with fail
  go_quiet ((first
    | (go_at_call 136; with_reducible exact quiet_dr (HE.out _ (below_drewN H5.out.2.2.2.2 _)).2.1)
    | (go_at_call 29; first | with_reducible exact quiet_dr (HE.out _ (below_drewN H5.out.2.2.2.2 _)).1 | with_reducible exact quiet_dr (HE.out _ (below_drewN H5.out.2.2.2.2 _)).2.2)))
  obtain ⟨w6, hw6⟩ : ∃ w6, w6 = w5.drewN nq := ⟨_, rfl⟩
  have hd6 : Below w5.heap.size w5 w6 := by rw [hw6]; exact below_drewN (Below.refl _ _) nq
  have hP := putNew H3.out.2.2.2.1 H5.out.2.2.1 (bthen H5.out.2.2.2.1 hd6) H3.out.2.2.2.2.2.1.1 H5.out.1 (own_below H5.out.2.1 hd6) H3.out.2.2.2.2.2.1.2 hN (by omega)
  have HP := Lib.hid hP
  clear hP i4 i5 hd6 k5
  go_wp2_with (rw [← hw6])
  clear hw6
  refine HP.out.mono ?_
  rintro e w8 ⟨rfl, G1, vs1, ws1, ls1, hS8, hv8, hK8, hG8⟩
  have hs13 := H3.out.2.2.2.2.1.size
  have hgl := H1.out.2.2.2.2.2.2.1
  have hzz := H1.out.2.2.2.2.2.1
  have hs12 := H2.out.2.2.size
  have hgx : g ∉ G := fun hx => by have := hgl _ hx; omega
  have hgy : gy ∉ G := fun hx => by have := hgl _ hx; omega
  have b8 := hK8.heap H3.out.1 H1.out.2.2.2.2.1
  have ox8 := hK8.own H3.out.2.1 (fun b hb hx => by have : g = b := Option.some.inj hb; subst this; exact hgx hx)
  have oy8 := hK8.own H3.out.2.2.1 (fun b hb hx => by have : gy = b := Option.some.inj hb; subst this; exact hgy hx)
  have f4 := box_cell b8 4 (.slice X xn xc) rfl
  have f5 := box_cell b8 5 (.slice Y yn yc) rfl
  have hst := still01 w8 (own_sl' ox8).2.1 (HW.out.1.below hS8.below) (by omega)
  have hgx1 : g ∉ G1 := fun hx => (hG8 _ hx).elim hgx (fun h5 => by omega)
  have hgy1 : gy ∉ G1 := fun hx => (hG8 _ hx).elim hgy (fun h5 => by omega)
  have hz1 : w.heap.size ∉ G1 := fun hx => (hG8 _ hx).elim H1.out.2.2.2.2.1 (fun h5 => by omega)
  have H8 := Lib.hid (And.intro b8 (And.intro ox8 (And.intro oy8 (And.intro hS8 (And.intro hv8 (And.intro hgx1 (And.intro hgy1 (And.intro hz1 hst))))))))
  have hgg : g ≠ gy := by omega
  have hWz : W.heap.size ≤ g := by have := H1.out.2.2.2.2.2.2.2.1; omega
  have hzg : w.heap.size ≠ g := by omega
  clear b8 ox8 oy8 hS8 hv8 hK8 hG8 hgx hgy hgl hst hgx1 hgy1 hz1
  go_wp2_with fail
  refine H8.out.2.2.2.2.2.2.2.2.mono ?_
  rintro e w9 ⟨rfl, hb9⟩
  have g5 := cell_below f5 hb9
  have hst := still01 w9 (own_sl' (own_below H8.out.2.2.1 hb9)).2.1 (HW.out.2.below (H8.out.2.2.2.1.then_ hb9).below) (by omega)
  have H9 := Lib.hid (And.intro hst hb9)
  clear hst hb9 f4 f5
  go_wp2_with fail
  refine H9.out.1.mono ?_
  rintro e wa ⟨rfl, hba⟩
  have k9 := bthen H9.out.2 hba
  have oxa := own_below H8.out.2.1 k9
  have HA := Lib.hid (And.intro oxa (And.intro (own_below H8.out.2.2.1 k9) (And.intro (H8.out.2.2.2.1.then_ k9) (heap_below H8.out.1 k9))))
  clear oxa k9 hba g5
  go_wp2_with fail
  refine (turn01 wa HA.out.1 0 xn c2 (by omega) (by omega) (own_sl' HA.out.1).2.1.max).mono ?_
  rintro e wb ⟨rfl, L', hL', ob, kb⟩
  have bb := kb.heap HA.out.2.2.2 (by simpa using hzg)
  have oyb := kb.own HA.out.2.1 (fun b hb hx => by have : gy = b := Option.some.inj hb; subst this; simp at hx; exact hgg hx.symm)
  have sSb := HA.out.2.2.1.keep kb (fun y hy hx => by simp at hx; subst hx; exact H8.out.2.2.2.2.2.1 hy) (fun y hy => by simp at hy; omega)
  have axb := ((own_sl' ob).2.1).preL (m := xn) (by omega)
  have HB := Lib.hid (And.intro axb (And.intro bb (And.intro oyb sSb)))
  clear ob kb bb oyb sSb axb
  go_wp2_with fail
  refine (copied01 wb HB.out.1 (by omega)).mono ?_
  rintro e wc ⟨vc, rfl, oc, hbc⟩
  obtain ⟨Ac, cc, rfl, sc, _⟩ := own_sl oc
  obtain ⟨z, hz⟩ : ∃ z, z = L'.take xn := ⟨_, rfl⟩
  have hzl : z.length = xn := by rw [hz, List.length_take]; omega
  have ac := HB.out.1.below hbc
  rw [← hz] at ac sc oc
  have byc := ((own_sl' (own_below HB.out.2.2.1 hbc)).2.1).preL (m := yn) (by omega)
  rw [room_pre y yn H1.out.2.2.2.2.2.2.2.2.2] at byc
  have hSc := HB.out.2.2.2.then_ hbc
  have f5 := box_cell (heap_below HB.out.2.1 hbc) 5 (.slice Y yn yc) rfl
  have HF5 := Lib.hid f5
  have iYc := HW.out.2.below hSc.below
  obtain ⟨D2, hD2⟩ : ∃ D, D = xorD z y := ⟨_, rfl⟩
  have hDl2 : D2.length ≤ N := by rw [hD2]; have := xorD_len z y; omega
  have hX1 := bXor wc ac byc (by omega)
  have hX2 := fun (w' : World) (k : Below wc.heap.size wc w') => rXor w' (sc.below k) (iYc.below k) (by omega)
  rw [← hD2] at hX1
  simp only [← hD2] at hX2
  obtain ⟨m2, hm2⟩ : ∃ m, m = D2.length := ⟨_, rfl⟩
  rw [← hm2] at hX1
  simp only [← hm2] at hX2
  obtain ⟨ok2, hok2⟩ : ∃ ok, ok = decide (xn = yn) := ⟨_, rfl⟩
  rw [← hok2] at hX1
  simp only [← hok2] at hX2
  have HX2 := Lib.hid (And.intro hX1 hX2)
  have hAc : ∀ ad, Ac = some ad → 0 < xn → ad.block ∉ G1 := fun ad e h0 hx => by
    have h6 := (oc.lt ad.block (by rw [e]; rfl)).1
    have h7 := HB.out.2.2.2.lts _ hx
    omega
  have HC := Lib.hid (And.intro ac (And.intro byc (And.intro sc (And.intro hSc (And.intro hAc (And.intro hm2.symm hDl2))))))
  clear ac byc sc oc hSc iYc hX1 hX2 hD2 hm2 hok2 hAc hz hbc
  go_wp2_with fail
  refine HX2.out.1.mono ?_
  rintro e wd ⟨u5, rfl, od, hbd⟩
  have g5 := cell_below f5 hbd
  go_wp2_with fail
  refine (HX2.out.2 wd hbd).mono ?_
  rintro e we ⟨u6, rfl, oe, hbe⟩
  have i5 := cell_below g5 hbe
  have hP2 := putNew HC.out.2.2.2.1 hbd (bthen hbe ((Below.refl _ we).drew)) HC.out.2.2.2.2.2.1 od (own_below oe ((Below.refl _ we).drew)) HC.out.2.2.2.2.2.2 hN (by have := H8.out.2.2.2.2.1; omega)
  have HP2 := Lib.hid (And.intro hP2 (bthen hbd hbe))
  clear f5 g5 od oe hbd hbe hP2 HX2
  obtain ⟨q2, hq2⟩ : ∃ q, q = decide (z = y) := ⟨_, rfl⟩
  have HQ := Lib.hid hq2
  clear hq2
  go_wp2_with fail
  go_region_held3 (fun w' => w'.cell? ⟨w.heap.size, 5, none⟩ = some (.slice Y yn yc))
    (first | exact E5 | exact E4 | exact E3 | exact E2 | exact E1 | go_keep)
    (first
      | (go_at_call 28; refine ((HE2.out _ n4).2.2.2).mono ?_; rintro e x5 ⟨rfl, hd5⟩; have E5 := cell_below E4 hd5.below; have n5 := bthen n4 hd5.below)
      | (go_at_call 28; refine ((HE2.out _ n3).2.2.1).mono ?_; rintro e x4 ⟨rfl, hd4⟩; have E4 := cell_below E3 hd4.below; have n4 := bthen n3 hd4.below)
      | (go_at_call 136; refine ((HE2.out _ n2).2.1).mono ?_; rintro e x3 ⟨rfl, hd3⟩; have E3 := cell_below E2 hd3.below; have n3 := bthen n2 hd3.below)
      | (go_at_call 29; refine ((HE2.out x1 (Below.refl _ _)).1).mono ?_; rintro e x2 ⟨rfl, hd2⟩; have E2 := cell_below E1 hd2.below; have n2 := hd2.below)
      | (go_at_call 132; refine HP2.out.1.mono ?_; rintro e x1 ⟨rfl, M1, vs3, ws3, ls3, kS, kv, kK, kG⟩
         have E1 : x1.cell? ⟨w.heap.size, 5, none⟩ = some (.slice Y yn yc) := kK.cell HF5.out H8.out.2.2.2.2.2.2.2.1
         have HE2 : Hid (∀ (w' : World), Below x1.heap.size x1 w' → (Calls Try.prog 29 #[.slice (some ⟨g, 0, none⟩) xn c2, .slice (some ⟨gy, 0, none⟩) yn c3] w' fun e w'' => e = .returned (.bool q2) ∧ Drawn w' w'') ∧ (Calls Try.prog 136 #[.slice Ac xn cc, .slice Y yn yc] w' fun e w'' => e = .returned (.bool q2) ∧ Drawn w' w'') ∧ (Calls Try.prog 28 #[.slice (some ⟨g, 0, none⟩) xn c2, .slice Ac xn cc] w' fun e w'' => e = .returned (.bool true) ∧ Drawn w' w'') ∧ (Calls Try.prog 28 #[.slice (some ⟨gy, 0, none⟩) yn c3, .slice Y yn yc] w' fun e w'' => e = .returned (.bool true) ∧ Drawn w' w'')) := Lib.hid (fun w' k => by
           have pa := (HC.out.1.keepP kK (fun ad e _ => by obtain rfl := Option.some.inj e; exact H8.out.2.2.2.2.2.1)).below k
           have pb := (HC.out.2.1.keepP kK (fun ad e _ => by obtain rfl := Option.some.inj e; exact H8.out.2.2.2.2.2.2.1)).below k
           have pc := (HC.out.2.2.1.keepP kK HC.out.2.2.2.2.1).below k
           have pY := (HW.out.2.below kS.below).below k
           have t1 := Equal_any w' pa pb
           have t2 := refEqual w' pc pY
           have t3 := same01 w' pa pc
           have t4 := same01 w' pb pY
           rw [← HQ.out] at t1 t2
           rw [decide_eq_true rfl] at t3 t4
           exact ⟨t1, t2, t3, t4⟩)))
  have HF := Lib.hid (And.intro (kS.then_ n5) (show vs3.length ≤ vs.length + 4 by have := H8.out.2.2.2.2.1; omega))
  clear E1 E2 E3 E4 E5 n2 n3 n4 n5 hd2 hd3 hd4 hd5 kS kv kK kG i5
  go_wp2
  go_ret
  exact ⟨by first | rfl | simp, _, _, _, _, HF.out.1, HF.out.2⟩
end Go.Proofs.Ytdooabbeolfgfaa
