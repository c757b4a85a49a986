import Derived.Test.YtpjmbhhfpoamnaaScanL
set_option linter.unusedVariables false
set_option linter.unusedSimpArgs false
namespace Go.Proofs.Ytpjmbhhfpoamnaa
open Go.RowKit Go.Shelf Go.Sort
attribute [local go_sem] Oper.semAt_some
def opF (A1 : Option Addr) (n1 c1 : Nat) (at_ : Int) (kd : Nat) (A2 : Option Addr) (n2 c2 : Nat) (lv : Int) : Array Value := #[.slice A1 n1 c1, .int .i64 at_, .int .u8 (kd : Int), .slice A2 n2 c2, .int .i64 lv]
set_option maxRecDepth 100000 in
set_option maxHeartbeats 6400000 in
theorem scans13 {W : World} (w : World) {p : Nat} {G : List Nat} {vs ws : List Value} {ls : List (List UInt8)} {N : Nat} (h : Shf W w p G vs ws ls N) (hN8 : 300000 ≤ N) (hN : N ≤ 100000000) (hn : vs.length ≤ 900000000)
    {A : Option Addr} {n c : Nat} {l : List UInt8} (hs : Sl w 1 A n c (l.map by8)) (hA : ∀ ad, A = some ad → 0 < n → ad.block ∉ G) (hn2 : n ≤ 65536)
    {A1 : Option Addr} {c1 : Nat} (hs1 : Sl w 1 A1 n c1 (l.map by8)) (at_ : Int) (kd : Nat) (A2 : Option Addr) (m2 d2 : Nat) (lv : Int) :
    Calls Try.prog 97 #[.pointer (some ⟨p, 0, none⟩), .slice A n c, .agg (opF A1 n c1 at_ kd A2 m2 d2 lv)] w fun e w' => e = .returned (.bool true) ∧ ∃ G' vs' ws' ls', Shf W w' p G' vs' ws' ls' N ∧ vs'.length ≤ vs.length + n ∧ Keep G w w' ∧ ∀ x ∈ G', x ∈ G ∨ w.heap.size ≤ x := by
  unfold opF
  refine (callsIn_wide (n := 3)).1 ?_
  refine callsIn_of_wp_marks Try.func97 rfl trivial ?_ rfl
  simp only [Try.ntmps97, List.size_toArray, List.length_cons, List.length_nil, Nat.reduceAdd, Nat.reduceSub, Array.replicate_succ, Array.replicate_zero, List.push_toArray, List.append_toArray, List.nil_append, List.cons_append]
  refine wpIn_wide.2 ?_
  have hw3 : Below w.heap.size w (((w.alloc (.cells #[.pointer (some ⟨p, 0, none⟩)] 88)).alloc (.cells #[.slice A1 n c1, .int .i64 at_, .int .u8 (kd : Int), .slice A2 m2 d2, .int .i64 lv] 92)).alloc (.cells #[.bool false] 4)) := (((Below.refl _ w).alloc (Nat.le_refl _) _).alloc (by simp) _).alloc (by simp; omega) _
  obtain ⟨W3, hW3⟩ : ∃ W3, W3 = (((w.alloc (.cells #[.pointer (some ⟨p, 0, none⟩)] 88)).alloc (.cells #[.slice A1 n c1, .int .i64 at_, .int .u8 (kd : Int), .slice A2 m2 d2, .int .i64 lv] 92)).alloc (.cells #[.bool false] 4)) := ⟨_, rfl⟩
  have hsz3 : W3.heap.size = w.heap.size + 3 := by rw [hW3]; simp
  have hx0 : W3.heap[w.heap.size]? = some (.cells #[.pointer (some ⟨p, 0, none⟩)] 88 (0, 0)) := by
    rw [hW3]; exact heap_below (heap_below (heap_alloc_new w _) ((Below.refl _ _).alloc (Nat.le_refl _) _)) ((Below.refl _ _).alloc (Nat.le_refl _) _)
  have hx1 : W3.heap[w.heap.size + 1]? = some (.cells #[.slice A1 n c1, .int .i64 at_, .int .u8 (kd : Int), .slice A2 m2 d2, .int .i64 lv] 92 (0, 0)) := by
    rw [hW3]
    have := heap_alloc_new (w.alloc (.cells #[.pointer (some ⟨p, 0, none⟩)] 88)) (.cells #[.slice A1 n c1, .int .i64 at_, .int .u8 (kd : Int), .slice A2 m2 d2, .int .i64 lv] 92)
    rw [show (w.alloc (.cells #[.pointer (some ⟨p, 0, none⟩)] 88)).heap.size = w.heap.size + 1 by simp] at this
    exact heap_below this ((Below.refl _ _).alloc (Nat.le_refl _) _)
  have hx2 : W3.heap[w.heap.size + 1 + 1]? = some (.cells #[.bool false] 4 (0, 0)) := by
    rw [hW3]
    have := heap_alloc_new ((w.alloc (.cells #[.pointer (some ⟨p, 0, none⟩)] 88)).alloc (.cells #[.slice A1 n c1, .int .i64 at_, .int .u8 (kd : Int), .slice A2 m2 d2, .int .i64 lv] 92)) (.cells #[.bool false] 4)
    rw [show ((w.alloc (.cells #[.pointer (some ⟨p, 0, none⟩)] 88)).alloc (.cells #[.slice A1 n c1, .int .i64 at_, .int .u8 (kd : Int), .slice A2 m2 d2, .int .i64 lv] 92)).heap.size = w.heap.size + 1 + 1 by simp] at this
    exact this
  rw [← hW3] at hw3
  have HB3 := Lib.hid (And.intro hx0 (And.intro hx1 (And.intro hx2 (And.intro hw3 (And.intro hsz3 (And.intro (hs.below hw3) (hs1.below hw3)))))))
  have H0 := Lib.hid (And.intro h (And.intro hA (And.intro hs h.lts)))
  clear hx0 hx1 hx2 hw3 hsz3 hs hs1 h hA
  go_wp2_with (rw [← hW3])
  clear hW3
  obtain ⟨en, hen⟩ : ∃ e, e = (scanF l).2.1 := ⟨_, rfl⟩
  obtain ⟨ta, hta⟩ : ∃ e, e = (scanF l).2.2 := ⟨_, rfl⟩
  have hsc := fun (w' : World) (h : Sl w' 1 A n c (l.map by8)) => Scan_any w' h (by omega)
  have hsr := fun (w' : World) (h : Sl w' 1 A1 n c1 (l.map by8)) => RefScan w' h (by omega)
  simp only [← hen, ← hta] at hsc hsr
  have HSC := Lib.hid (And.intro hsc (And.intro hsr (And.intro hen hta)))
  clear hsc hsr hen hta
  refine (HSC.out.1 W3 HB3.out.2.2.2.2.2.1).mono ?_
  rintro e w4 ⟨xs, v, rfl, hxs, hF, hb4⟩
  obtain ⟨nx, hnx⟩ : ∃ nx, nx = xs.length := ⟨_, rfl⟩
  obtain ⟨Al, cl, rfl, sl4, _⟩ := own_sl hF.own
  have cl1 := sl4.le; have cl2 := sl4.max
  rw [← hnx] at cl1 ⊢
  obtain ⟨W4, hW4⟩ : ∃ W4, W4 = w4.alloc (.cells #[.slice Al nx cl] 81) := ⟨_, rfl⟩
  have hb34 : Below W3.heap.size W3 W4 := by rw [hW4]; exact bthen hb4 ((Below.refl _ _).alloc (Nat.le_refl _) _)
  have hF4 : Frs W4 W3.heap.size (.slice Al xs.length cl) xs := by rw [hW4]; exact hF.below ((Below.refl _ _).alloc (Nat.le_refl _) _)
  have hx3 : W4.heap[w4.heap.size]? = some (.cells #[.slice Al nx cl] 81 (0, 0)) := by rw [hW4]; exact heap_alloc_new w4 _
  have hsz4 : W4.heap.size = w4.heap.size + 1 := by rw [hW4]; simp
  have d1 := box_cell (heap_below (heap_below HB3.out.2.1 hb4) ((Below.refl _ _).alloc (Nat.le_refl _) (.cells #[.slice Al nx cl] 81))) 0 _ rfl
  have hlw4 : W3.heap.size ≤ w4.heap.size := hb4.size
  have HFB := Lib.hid (And.intro (fun b hb => (hF.own.lt b hb).2) (fun x hx => ((hF.rows x hx).lt x.g rfl).2))
  rw [← hnx] at HFB
  have HF := Lib.hid (And.intro hxs (And.intro hF4 (And.intro hb34 (And.intro hx3 (And.intro hsz4 (And.intro hlw4 hnx))))))
  clear hxs hF hb4 sl4 hb34 hF4 hx3 hsz4 hlw4 hnx
  go_wp2_with (rw [← hW4])
  clear hW4
  refine (HSC.out.2.1 W4 (HB3.out.2.2.2.2.2.2.below HF.out.2.2.1)).mono ?_
  rintro e w5 ⟨v, ys, rfl, hR, hys, hb5⟩
  obtain ⟨Am, cm, rfl, sl5, _⟩ := own_sl hR.own
  have cm1 := sl5.le; have cm2 := sl5.max
  have hny : ys.length = nx := by
    have h1 := congrArg List.length hys
    have h2 := congrArg List.length HF.out.1
    simp only [List.length_map, placedF_len] at h1 h2
    rw [HF.out.2.2.2.2.2.2]
    omega
  rw [hny] at cm1 ⊢
  obtain ⟨W5, hW5⟩ : ∃ W5, W5 = w5.alloc (.cells #[.slice Am nx cm] 81) := ⟨_, rfl⟩
  have hb45 : Below W4.heap.size W4 W5 := by rw [hW5]; exact bthen hb5 ((Below.refl _ _).alloc (Nat.le_refl _) _)
  have hR5 : FrR W5 W4.heap.size (.slice Am ys.length cm) ys := by rw [hW5]; exact hR.below ((Below.refl _ _).alloc (Nat.le_refl _) _)
  have hx4 : W5.heap[w5.heap.size]? = some (.cells #[.slice Am nx cm] 81 (0, 0)) := by rw [hW5]; exact heap_alloc_new w5 _
  have hsz5 : W5.heap.size = w5.heap.size + 1 := by rw [hW5]; simp
  have d3 := box_cell (heap_below (heap_below HF.out.2.2.2.1 hb5) ((Below.refl _ _).alloc (Nat.le_refl _) (.cells #[.slice Am nx cm] 81))) 0 _ rfl
  have d4 := box_cell (heap_alloc_new w5 (.cells #[.slice Am nx cm] 81)) 0 _ rfl
  have hlw5 : W4.heap.size ≤ w5.heap.size := hb5.size
  have HR := Lib.hid (And.intro hys (And.intro hR5 (And.intro hb45 (And.intro hx4 (And.intro hsz5 (And.intro hlw5 hny))))))
  clear hys hR hb5 sl5 hb45 hR5 hx4 hsz5 hlw5 hny d1
  go_wp2_with (rw [← hW5])
  clear hW5
  have hsz56 : (W5.alloc (.cells #[.int .i64 0] 3)).heap.size = W5.heap.size + 1 := by simp
  refine (All_any _).mono ?_
  rintro e w6 ⟨rfl, rfl⟩
  go_wp2_with fail
  rw [show W5.heap.size + 1 + 1 = w5.heap.size + 1 + 1 + 1 by have := HR.out.2.2.2.2.1; omega]
  obtain ⟨U, hU⟩ : ∃ U, U = ((W5.alloc (.cells #[.int .i64 0] 3)).alloc (.cells #[.int .i64 0] 3)).alloc (.cells #[.slice A n c] 22) := ⟨_, rfl⟩
  have hszU : U.heap.size = w5.heap.size + 4 := by rw [hU]; simp; have := HR.out.2.2.2.2.1; omega
  have hbU : Below W5.heap.size W5 U := by rw [hU]; exact (((Below.refl _ W5).alloc (Nat.le_refl _) _).alloc (by simp) _).alloc (by simp; omega) _
  have e5 := HR.out.2.2.2.2.1
  have hu0 : U.heap[w5.heap.size + 1]? = some (.cells #[.int .i64 0] 3 (0, 0)) := by
    rw [hU]
    have := heap_alloc_new W5 (.cells #[.int .i64 0] 3)
    rw [e5] at this
    exact heap_below (heap_below this ((Below.refl _ _).alloc (Nat.le_refl _) _)) ((Below.refl _ _).alloc (Nat.le_refl _) _)
  have hu1 : U.heap[w5.heap.size + 1 + 1]? = some (.cells #[.int .i64 0] 3 (0, 0)) := by
    rw [hU]
    have := heap_alloc_new (W5.alloc (.cells #[.int .i64 0] 3)) (.cells #[.int .i64 0] 3)
    rw [show (W5.alloc (.cells #[.int .i64 0] 3)).heap.size = w5.heap.size + 1 + 1 by simp; omega] at this
    exact heap_below this ((Below.refl _ _).alloc (Nat.le_refl _) _)
  have hu2 : U.heap[w5.heap.size + 1 + 1 + 1]? = some (.cells #[.slice A n c] 22 (0, 0)) := by
    rw [hU]
    have := heap_alloc_new ((W5.alloc (.cells #[.int .i64 0] 3)).alloc (.cells #[.int .i64 0] 3)) (.cells #[.slice A n c] 22)
    rw [show ((W5.alloc (.cells #[.int .i64 0] 3)).alloc (.cells #[.int .i64 0] 3)).heap.size = w5.heap.size + 1 + 1 + 1 by simp; omega] at this
    exact this
  have hbw : Below w.heap.size w U := bthen (bthen (bthen HB3.out.2.2.2.1 HF.out.2.2.1) HR.out.2.2.1) hbU
  have hb3 : Below W3.heap.size W3 U := bthen (bthen HF.out.2.2.1 HR.out.2.2.1) hbU
  have hb4 : Below W4.heap.size W4 U := bthen HR.out.2.2.1 hbU
  have l1 := HB3.out.2.2.2.2.1
  have l2 := HF.out.2.2.2.2.1; have l3 := HF.out.2.2.2.2.2.1; have l4 := HR.out.2.2.2.2.2.1
  have hCM : CM w.heap.size (w5.heap.size + 1) p #[.slice A1 n c1, .int .i64 at_, .int .u8 (kd : Int), .slice A2 m2 d2, .int .i64 lv] w4.heap.size w5.heap.size (.slice Al nx cl) (.slice Am nx cm) ys U := by
    have hR5 := HR.out.2.1
    rw [HR.out.2.2.2.2.2.2] at hR5
    have hR6 := hR5.below hbU
    refine ⟨heap_below HB3.out.1 hb3, heap_below HB3.out.2.1 hb3, heap_below HB3.out.2.2.1 hb3, heap_below HF.out.2.2.2.1 hb4, heap_below HR.out.2.2.2.1 hbU, ⟨by omega, by omega, by omega⟩, ⟨own_mono hR6.own (by omega), fun y hy => own_mono (hR6.rows y hy) (by omega)⟩, fun b hb => ?_, fun y hy b hb => ?_⟩
    · have := (hR5.own.lt b hb).2; omega
    · have := ((hR5.rows y hy).lt b hb).2; omega
  have hFL : FL (w.heap.size + 3) w4.heap.size (.slice Al nx cl) xs U := by
    have hF4 := HF.out.2.1
    rw [← HF.out.2.2.2.2.2.2] at hF4
    have hF6 := hF4.below hb4
    exact ⟨⟨own_mono hF6.own (by omega), fun y hy => own_mono (hF6.rows y hy) (by omega), hF6.nodup⟩, HFB.out.1, HFB.out.2⟩
  have hSU := H0.out.1.then_ hbw
  have hWU := hSU.below.size
  have hGw : ∀ x ∈ G, x < w.heap.size := H0.out.2.2.2
  have hSI : SI W U p (w5.heap.size + 1) (w5.heap.size + 1 + 1) vs.length N G l [] U := ⟨Keep.refl _ _, hu0, hu1, ⟨G, vs, ws, ls, hSU, by simp, fun x hx => .inl hx⟩, ⟨_, rfl⟩⟩
  have HU := Lib.hid (And.intro hCM (And.intro hFL (And.intro hSI (And.intro hu2 (And.intro hszU (And.intro hbw (And.intro hWU (And.intro hGw (And.intro l1 (And.intro l2 (And.intro l3 l4)))))))))))
  rw [← hU]
  clear hU hszU hbU e5 hu0 hu1 hu2 hbw hb3 hb4 l1 l2 l3 l4 hCM hFL hSU hWU hGw hSI d3 d4 hsz56
  refine rangeB 3 (by decide) (gf := 126) (lb := #[.pointer (some ⟨w5.heap.size + 1 + 1 + 1, 0, none⟩)]) rfl (enters_of Try.func126 (by kernel_rfl) rfl)
    (encs := Yl.enc) (Kp := KpB U.heap.size (G ++ [w5.heap.size + 1, w5.heap.size + 1 + 1])) (G := Gd l) (S := fun xs => xs.map Yl.pj = placedF 0 (scanF l).1) (Sp := fun _ => True)
    ?seq (fun h k => h.trans k) (fun W l o o' h1 h2 h3 h4 => KpB.putObj W o' h1) (fun _ => rfl)
    (SI W U p (w5.heap.size + 1) (w5.heap.size + 1 + 1) vs.length N G l) (fun pre => (pre.length : Int) = lv) (fun s A B h k => h.nc k HU.out.2.2.2.2.2.2.1) HU.out.2.2.1
    (fun a pre x a' V => ∃ Bx, a' = { tmps := (((a.tmps.setIfInBounds 55 (.int .i64 x.at_)).setIfInBounds 56 (.agg #[.int .u8 (x.k.toNat : Int), .slice (some ⟨x.g, 0, none⟩) x.p.length x.p.length])).setIfInBounds 15 (.int .i64 x.at_)).setIfInBounds 16 (.pointer (some ⟨Bx, 0, none⟩)), defers := [] } ∧ AI W U p (w5.heap.size + 1) (w5.heap.size + 1 + 1) vs.length N G l pre x Bx V)
    (fun pre x a' A B ⟨Bx, h1, h2⟩ k => ⟨Bx, h1, h2.nc k HU.out.2.2.2.2.2.2.1⟩) ?assign ?body ?go
  case seq =>
    intro L J Jx Wd hW hJ hY h0
    have hszU := HU.out.2.2.2.2.1
    have hsU := H0.out.2.2.1.below HU.out.2.2.2.2.2.1
    have hwU := HU.out.2.2.2.2.2.1.size
    refine All1_in (3 - 1) (by decide) L (w5.heap.size + 1 + 1 + 1) U.heap.size (G ++ [w5.heap.size + 1, w5.heap.size + 1 + 1]) ⟨by omega, fun hx => ?_⟩ (fun ad e h1 => ?_) (by omega) J Jx hJ hY Wd hW.size (hsU.below hW) (heap_below HU.out.2.2.2.1 hW) h0
    · have h2 := HU.out.2.2.2.2.2.2.2.1
      have h3 := HU.out.2.2.2.2.2.2.2.2
      rw [List.mem_append] at hx
      rcases hx with hx | hx
      · have := h2 _ hx; omega
      · simp at hx; omega
    · have hl : l.length = n := by simpa using H0.out.2.2.1.len
      have hlt := cell_lt (((H0.out.2.2.1.at_ ad e (by simp; omega)).2) 0 (by simp; omega))
      have h3 := HU.out.2.2.2.2.2.2.2.2
      refine ⟨by simp at hlt; omega, fun hx => ?_⟩
      simp at hx hlt
      rcases hx with hx | hx | hx
      · exact H0.out.2.1 ad e h1 hx
      · omega
      · omega
  case assign =>
    intro L pre x W0 V K hI hb hg hK
    have hA := hI.box hb hg
    have hb3 : Below V.heap.size V (V.alloc (.cells #[.int .u8 (x.k.toNat : Int), .slice (some ⟨x.g, 0, none⟩) x.p.length x.p.length] 70)) := (Below.refl _ V).alloc (Nat.le_refl _) _
    have HK := Lib.hid (And.intro hK (And.intro hA hb3))
    clear hI hb hg hK hA hb3
    dsimp only [Yl.enc]
    gi_wp2
    exact HK.out.1 _ _ ((KeepsOthers.alloc _ _).from _) (KpB.of_below HK.out.2.2) ⟨_, rfl, HK.out.2.1⟩
  case body =>
    rintro L pre x a' V ⟨Bx, rfl, hA⟩
    obtain ⟨rest, hof⟩ := hA.of
    obtain ⟨hpl, hat⟩ := at_placed hof
    have hnx : (scanF l).1.length = nx := by rw [← HR.out.2.2.2.2.2.2, ← HR.out.1, List.length_map]
    rw [hnx] at hpl
    have hM1 : ∀ x ∈ G ++ [w5.heap.size + 1, w5.heap.size + 1 + 1], x < w.heap.size ∨ w5.heap.size + 1 ≤ x := fun x hx => by
      rw [List.mem_append] at hx
      rcases hx with hx | hx
      · exact .inl (HU.out.2.2.2.2.2.2.2.1 x hx)
      · simp at hx; omega
    have hCM := HU.out.1.keep hA.keep hM1
    have hM2 : ∀ x ∈ G ++ [w5.heap.size + 1, w5.heap.size + 1 + 1], x < w.heap.size + 3 ∨ w4.heap.size ≤ x := fun x hx => by
      have h1 := hM1 x hx
      have h2 := HU.out.2.2.2.2.2.2.2.2
      omega
    have hFL := HU.out.2.1.keep hA.keep hM2
    obtain ⟨y, hy, hyk, hyp⟩ := placed_get HF.out.1 hat
    obtain ⟨z, hz, hzk, hzp⟩ := kp_get HR.out.1 hat
    obtain ⟨bl, ol, rfl⟩ := ((own_sl' hFL.fl.own).1 ▸ (own_sl' hFL.fl.own).2.1 : Sl V 2 Al nx cl _).form (by omega)
    obtain ⟨bm, om, rfl⟩ := ((own_sl' hCM.fm.own).1 ▸ (own_sl' hCM.fm.own).2.1 : Sl V 2 Am nx cm _).form (by omega)
    obtain ⟨p1, p2, p3⟩ := hFL.at rfl rfl hy
    obtain ⟨q1, q2, q3⟩ := hCM.at rfl rfl hz
    obtain ⟨k, hk⟩ : ∃ k, k = pre.length := ⟨_, rfl⟩
    obtain ⟨sp, hsp⟩ : ∃ sp, sp = sumP pre := ⟨_, rfl⟩
    have nb := hA.nbox; have ab := hA.abox; have xb := hA.box
    rw [← hk] at p1 p2 q1 q2 nb hpl
    rw [← hsp] at ab
    have c1 := cell_regrown p1
    have c2 := cell_regrown p2
    have c3 := cell_regrown q1
    have c4 := cell_regrown q2
    have c5 := cell_regrown (box_cell nb 0 _ rfl)
    have c6 := cell_regrown (box_cell ab 0 _ rfl)
    have c7 := cell_regrown (box_cell xb 0 _ rfl)
    have c8 := cell_regrown (box_cell xb 1 _ rfl)
    have c9 := cell_regrown (box_cell hCM.x3 0 _ rfl)
    have ca := cell_regrown (box_cell hCM.x4 0 _ rfl)
    have hxs := (own_sl' hA.own).2.1
    have cA : ∀ d os, CallsIn (Fence.wide.inRound L) 0 Try.prog 53 #[.agg #[.int .u8 (x.k.toNat : Int), .slice (some ⟨x.g, 0, none⟩) x.p.length x.p.length], .agg #[.int .u8 (z.k.toNat : Int), .slice z.A z.p.length z.c]] (grow (redrawn V d) os) fun e w'' => e = .returned (.bool true) ∧ ∃ p : Regrown, w'' = grow (redrawn V p.d) p.os := fun d os => by
      have h1 := alike13 (grow (redrawn V d) os) x.k.toNat z.k.toNat (hxs.below (below_regrown V d os)) (q3.below (below_regrown V d os))
      rw [decide_eq_true (by rw [hzk, hzp]; exact ⟨rfl, rfl⟩)] at h1
      exact CallsIn.regrown_of (callsIn_wide.2 h1)
    have cB : ∀ d os, CallsIn (Fence.wide.inRound L) 0 Try.prog 53 #[.agg #[.int .u8 (y.k.toNat : Int), .slice (some ⟨y.g, 0, none⟩) y.p.length y.p.length], .agg #[.int .u8 (z.k.toNat : Int), .slice z.A z.p.length z.c]] (grow (redrawn V d) os) fun e w'' => e = .returned (.bool true) ∧ ∃ p : Regrown, w'' = grow (redrawn V p.d) p.os := fun d os => by
      have h1 := alike13 (grow (redrawn V d) os) y.k.toNat z.k.toNat (p3.below (below_regrown V d os)) (q3.below (below_regrown V d os))
      rw [decide_eq_true (by rw [hzk, hzp, hyk, hyp]; exact ⟨rfl, rfl⟩)] at h1
      exact CallsIn.regrown_of (callsIn_wide.2 h1)
    have i1 : (k : Int) < (nx : Int) := by omega
    have i0 : (0 : Int) ≤ (k : Int) := Int.natCast_nonneg _
    have i2 : (k : Int) < (cl : Int) := by omega
    have i3 : (k : Int) < (cm : Int) := by omega
    have i4 : ((x.at_ : Int) != (sp : Int)) = false := by simp [hA.at_, hsp]
    have i5 : decide ((nx : Int) ≤ (k : Int)) = false := by simp; omega
    have i6 : decide (nx ≤ k) = false := by simp; omega
    have HA := Lib.hid (And.intro hA (And.intro hof (And.intro hCM (And.intro hM1 (And.intro hk hsp)))))
    clear hA hof hat hnx hpl hM1 hM2 hCM hFL hy hyk hyp hz hzk hzp p1 p2 p3 q1 q2 q3 hk hsp nb ab xb hxs
    dsimp only
    simp only [List.setIfInBounds_toArray, List.set_cons_zero, List.set_cons_succ]
    gi_wp2_with fail
    refine wpIn_region_quietNd (by kernel_rfl) (by kernel_rfl) (by kernel_rfl) ?_
    iterate 16 (
      refine wpQuietIn_step (fun _ _ _ _ => trivial) (fun K hK => ?_)
      go_simp
      first
        | (refine hK _ ?_; clear hK K)
        | (apply Exists.intro
           refine ⟨fun _ => ?_, hK _ ?_⟩
           exact cA _ _
           clear hK K))
    clear cA
    repeat (
      refine wpQuietIn_step (fun _ _ _ _ => trivial) (fun K hK => ?_)
      go_simp
      first
        | (refine hK _ ?_; clear hK K)
        | (apply Exists.intro
           refine ⟨fun _ => ?_, hK _ ?_⟩
           exact cB _ _
           clear hK K))
    refine wpQuietIn_nil ?_
    intro _ hw'
    obtain ⟨⟨dq, osq⟩, hw''⟩ := hw'
    subst hw''
    clear cB c1 c2 c3 c4 c5 c6 c7 c8 c9 ca
    obtain ⟨V1, hV1⟩ : ∃ V1, V1 = grow (redrawn V dq) osq := ⟨_, rfl⟩
    have hb1 : Below V.heap.size V V1 := by rw [hV1]; exact below_regrown V dq osq
    rw [← hV1]
    clear hV1
    obtain ⟨hA, hof, hCM, hM1, hk, hsp⟩ := HA.out
    have nb := heap_below hA.nbox hb1; have ab := heap_below hA.abox hb1; have xb := heap_below hA.box hb1
    have hCM1 := hCM.below hb1
    rw [← hk] at nb
    rw [← hsp] at ab
    have c1 := box_cell ab 0 _ rfl
    have f1 := box_free ab 0
    have c2 := box_cell xb 1 _ rfl
    have hfit := hA.fits
    have hlen := H0.out.2.2.1.blen
    rw [← hsp] at hfit
    have hba : U.heap.size = w5.heap.size + 4 := HU.out.2.2.2.2.1
    have hBx := hA.bxl
    have hwl : w.heap.size < w5.heap.size + 1 := by have := hCM.lo; omega
    have c3 := cell_set (p := ⟨w5.heap.size + 1 + 1, 0, none⟩) (u := .int .i64 ((sp : Int) + (x.p.length : Int) + 10)) (box_cell hCM1.x0 0 _ rfl) (by simp; omega)
    have c4 := cell_set (p := ⟨w5.heap.size + 1 + 1, 0, none⟩) (u := .int .i64 ((sp : Int) + (x.p.length : Int) + 10)) c2 (by simp; omega)
    obtain ⟨V2, hV2⟩ : ∃ V2, V2 = V1.setCell ⟨w5.heap.size + 1 + 1, 0, none⟩ (.int .i64 ((sp : Int) + (x.p.length : Int) + 10)) := ⟨_, rfl⟩
    have ks : Keep [w5.heap.size + 1 + 1] V1 V2 := by rw [hV2]; exact (Keep.refl _ V1).setCell (.inl (by simp)) _
    have ab2 := heap_setCell_same V1 (w5.heap.size + 1 + 1) 0 _ _ (.int .i64 ((sp : Int) + (x.p.length : Int) + 10)) ab
    rw [← hV2] at ab2
    obtain ⟨G1, vs1, ws1, ls1, sh1, sh2, sh3, sh4, sh5⟩ := hA.sh
    have hGi : ∀ y ∈ G1, y < w.heap.size ∨ U.heap.size ≤ y := fun y hy => (sh3 y hy).imp (fun h => HU.out.2.2.2.2.2.2.2.1 y h) id
    have hWw := H0.out.1.below.size
    have sV2 : Shf W V2 p G1 vs1 ws1 ls1 N := (sh1.then_ hb1).keep ks (fun y hy hx => by simp at hx; have := hGi y hy; omega) (fun y hy => by simp at hy; omega)
    have xo := ks.own (own_below hA.own hb1) (fun b hb hx => by simp at hx; have e : x.g = b := Option.some.inj hb; have := hA.new; omega)
    have hnN : NonC V V2 := fun i o hi ho => by
      have h1 := (hb1.block i (Array.getElem?_eq_some_iff.1 hi).1).trans hi
      exact nonC_of ks (fun y hy => by simp at hy; subst hy; exact ⟨_, _, _, ab⟩) i o h1 ho
    have kV2 : Keep (G ++ [w5.heap.size + 1, w5.heap.size + 1 + 1]) V V2 := (Keep.of_below hb1 _).trans (ks.mono (by simp))
    have hP := put13 V2 sV2 (own_mono xo (by have := HU.out.2.2.2.2.2.2.1; omega)) (fun b hb hx => by have e : x.g = b := Option.some.inj hb; subst e; exact sh5 hx) (by omega) hN (by rw [sh2]; have := hlen; have := sumP_count pre; omega)
    have nb2 := ks.heap nb (by simp)
    have xb2 := ks.heap xb (by simp; omega)
    have hCM2 := hCM1.keep ks (by simp)
    have H2 := Lib.hid (And.intro nb2 (And.intro ab2 (And.intro xb2 (And.intro hCM2 (And.intro kV2 (And.intro hnN (And.intro hGi (And.intro sh2 (And.intro sh3 (And.intro sh4 (And.intro hP (And.intro hba (And.intro hBx hwl)))))))))))))
    have hx2 := hA.len
    clear nb ab xb hCM1 hb1 hA hof hCM hM1 hk hsp nb2 ab2 xb2 hCM2 kV2 hnN hGi sh1 sh2 sh3 sh4 sh5 hP xo ks sV2 hba hBx hwl
    gi_wp2_with (first
      | (rw [← hV2])
      | (refine ⟨trivial, ?_⟩
         gi_at_call 100
         refine (callsIn_wide.2 H2.out.2.2.2.2.2.2.2.2.2.2.1).mono ?_
         rintro e V3 ⟨rfl, v2, G2, sh6, k3, hG3, hn3⟩
         have hbnG : w5.heap.size + 1 ∉ G1 := fun hx => by have h1 := H2.out.2.2.2.2.2.2.1 _ hx; have h2 := H2.out.2.2.2.2.2.2.2.2.2.2.2; omega
         have hbaG : w5.heap.size + 1 + 1 ∉ G1 := fun hx => by have h1 := H2.out.2.2.2.2.2.2.1 _ hx; have h2 := H2.out.2.2.2.2.2.2.2.2.2.2.2; omega
         have nb3 := k3.heap H2.out.1 hbnG
         have ab3 := k3.heap H2.out.2.1 hbaG
         have hCM3 := H2.out.2.2.2.1.keep k3 (fun y hy => by have h1 := H2.out.2.2.2.2.2.2.1 y hy; have h2 := H2.out.2.2.2.2.2.2.2.2.2.2.2; omega)
         have d1 := box_cell nb3 0 _ rfl
         have e1 := box_free nb3 0
         have d2 := cell_set (p := ⟨w5.heap.size + 1, 0, none⟩) (u := .int .i64 ((k : Int) + 1)) (box_cell hCM3.x1 4 _ rfl) (by have := hCM3.lo; simp; omega)
         have hn4 := heap_setCell_same V3 (w5.heap.size + 1) 0 _ _ (.int .i64 ((k : Int) + 1)) nb3
         have d3 := box_cell hn4 0 _ rfl
         have ks4 : Keep [w5.heap.size + 1] V3 (V3.setCell ⟨w5.heap.size + 1, 0, none⟩ (.int .i64 ((k : Int) + 1))) := (Keep.refl _ V3).setCell (.inl (by simp)) _
         have H3 := Lib.hid (And.intro sh6 (And.intro k3 (And.intro hG3 (And.intro hn3 (And.intro ab3 (And.intro nb3 (And.intro hn4 ks4)))))))
         clear sh6 k3 hG3 hn3 hbnG hbaG nb3 ab3 hCM3 hn4 ks4 c1 f1 c2 c3 c4))
    all_goals
      have hend : KeepsFrom U.heap.size V (V3.setCell ⟨w5.heap.size + 1, 0, none⟩ (.int .i64 ((k : Int) + 1))) ∧ KpB U.heap.size (G ++ [w5.heap.size + 1, w5.heap.size + 1 + 1]) V (V3.setCell ⟨w5.heap.size + 1, 0, none⟩ (.int .i64 ((k : Int) + 1))) ∧ SI W U p (w5.heap.size + 1) (w5.heap.size + 1 + 1) vs.length N G l (pre ++ [x]) (V3.setCell ⟨w5.heap.size + 1, 0, none⟩ (.int .i64 ((k : Int) + 1))) := by
        obtain ⟨hA, hof, hCM, hM1, hk, hsp⟩ := HA.out
        obtain ⟨nb2, ab2, xb2, hCM2, kV2, hnN, hGi, sh2, sh3, sh4, hP, hba, hBx, hwl⟩ := H2.out
        obtain ⟨sh6, k3, hG3, hn3, ab3, nb3, hn4, ks4⟩ := H3.out
        rw [hk] at nb2 ⊢
        rw [hsp] at ab2
        exact hA.step hWw HU.out.2.2.2.2.2.2.2.1 ⟨by omega, by omega, by omega⟩ kV2 hnN ab2 nb2 sh2 sh3 k3 hn3 sh6 (fun y hy => (hG3 y hy).imp id (fun h => h.imp (fun h => Option.some.inj h) id))
    · rename_i h9
      refine ⟨hend.1, rfl, hend.2.2, ?_⟩
      have h8 := HA.out.2.2.2.2.1
      have h7 : (k : Int) + 1 = lv := by simpa using h9
      rw [List.length_append, List.length_singleton, ← h8]
      push_cast
      exact h7
    · exact hend
  case go =>
    intro D pre V hD hS hI hDf
    have hM1 : ∀ x ∈ G ++ [w5.heap.size + 1, w5.heap.size + 1 + 1], x < w.heap.size ∨ w5.heap.size + 1 ≤ x := fun x hx => by
      rw [List.mem_append] at hx
      rcases hx with hx | hx
      · exact .inl (HU.out.2.2.2.2.2.2.2.1 x hx)
      · simp at hx; omega
    have hnx : (scanF l).1.length = nx := by rw [← HR.out.2.2.2.2.2.2, ← HR.out.1, List.length_map]
    have hCM := HU.out.1.keep hI.keep hM1
    have hM2 : ∀ x ∈ G ++ [w5.heap.size + 1, w5.heap.size + 1 + 1], x < w.heap.size + 3 ∨ w4.heap.size ≤ x := fun x hx => by
      have h1 := hM1 x hx
      have h2 := HU.out.2.2.2.2.2.2.2.2
      omega
    have hFL := HU.out.2.1.keep hI.keep hM2
    obtain ⟨k, hk⟩ : ∃ k, k = pre.length := ⟨_, rfl⟩
    have nb := hI.nbox
    rw [← hk] at nb
    have c1 := box_cell nb 0 _ rfl
    have c2 := box_cell hCM.x4 0 _ rfl
    have c3 := box_cell hCM.x1 4 _ rfl
    have c4 := box_cell hCM.x3 0 _ rfl
    have hcnt : nx * 10 ≤ n := by
      have hs := scan_sum _ l 0 (Nat.le_refl _) (Nat.zero_le _)
      have he := (scan_end _ l 0 (Nat.le_refl _) (Nat.zero_le _)).1
      simp only [List.drop_zero, Nat.zero_add] at hs he
      have hb := H0.out.2.2.1.blen
      have hc : ∀ fs : List (UInt8 × List UInt8), fs.length * 10 ≤ (fs.map fun x => x.2.length + 10).sum := fun fs => by
        induction fs with
        | nil => simp
        | cons a r ih => simp only [List.length_cons, List.map_cons, List.sum_cons]; omega
      have := hc (scanF l).1
      rw [hnx] at this
      omega
    have hS2 : k = nx ∨ (k : Int) = lv := by
      rcases hS with h1 | h1
      · left
        have h2 := congrArg List.length h1
        rw [List.length_map, placedF_len, hnx] at h2
        rw [hk, h2]
      · right; rw [hk]; exact h1
    have hkn : k ≤ nx := by
      obtain ⟨rest, h1⟩ := hI.of
      have h2 := congrArg List.length h1
      rw [List.length_append, List.length_map, placedF_len, hnx] at h2
      omega
    have HV := Lib.hid (And.intro hI (And.intro hCM (And.intro hFL (And.intro hDf (And.intro hD (And.intro hnx (And.intro hk (And.intro hcnt hkn))))))))
    clear hM1 hM2 hnx hCM hFL nb hI hDf hD hk hS hcnt hkn
    rcases Classical.em (k = nx) with hkx | hkx
    focus
      have i1 : ((k : Int) != (nx : Int)) = false := by simp; omega
      clear hkx hS2
      go_wp2_with fail
      clear i1
    rotate_left
    focus
      have i1 : ((k : Int) != (nx : Int)) = true := by simp; omega
      have i2 : ((k : Int) != lv) = false := by rcases hS2 with h | h; exact absurd h hkx; simp [h]
      clear hkx hS2
      go_wp2_with fail
      clear i1 i2
    all_goals
      clear c1 c2 c3
      go_loopw [17] (fun i wr => ∃ t : Nat, t ≤ nx ∧ i = .int .i64 t ∧ RowKit.Below V.heap.size V wr) (fun i _ => nx - (intOf i).toNat)
      case atStart => exact ⟨0, by omega, rfl, RowKit.Below.refl _ _⟩
      case round =>
        obtain ⟨t, ht, rfl, hb⟩ := hrel
        have d4 := cell_below c4 hb
        by_cases hlt : t < nx
        · have hat : (scanF l).1[t]? = some ((scanF l).1[t]'(by rw [HV.out.2.2.2.2.2.1]; exact hlt)) := List.getElem?_eq_getElem _
          obtain ⟨⟨kk, pp⟩, hkp⟩ : ∃ q, q = (scanF l).1[t]'(by rw [HV.out.2.2.2.2.2.1]; exact hlt) := ⟨_, rfl⟩
          rw [← hkp] at hat
          obtain ⟨y, hy, hyk, hyp⟩ := placed_get HF.out.1 hat
          obtain ⟨z, hz, hzk, hzp⟩ := kp_get HR.out.1 hat
          have hFL := HV.out.2.2.1.below hb
          have hCM := HV.out.2.1.below hb
          obtain ⟨bl, ol, rfl⟩ := ((own_sl' hFL.fl.own).1 ▸ (own_sl' hFL.fl.own).2.1 : Sl wr 2 Al nx cl _).form (by omega)
          obtain ⟨bm, om, rfl⟩ := ((own_sl' hCM.fm.own).1 ▸ (own_sl' hCM.fm.own).2.1 : Sl wr 2 Am nx cm _).form (by omega)
          obtain ⟨p1, p2, p3⟩ := hFL.at rfl rfl hy
          obtain ⟨q1, q2, q3⟩ := hCM.at rfl rfl hz
          have k1 := cell_regrown p1
          have k2 := cell_regrown p2
          have k3 := cell_regrown q1
          have k4 := cell_regrown q2
          have k5 := cell_regrown d4
          have k6 := cell_regrown (box_cell hCM.x4 0 _ rfl)
          have cA : ∀ d os, Calls Try.prog 53 #[.agg #[.int .u8 (y.k.toNat : Int), .slice (some ⟨y.g, 0, none⟩) y.p.length y.p.length], .agg #[.int .u8 (z.k.toNat : Int), .slice z.A z.p.length z.c]] (grow (redrawn wr d) os) fun e w'' => e = .returned (.bool true) ∧ ∃ p : Regrown, w'' = grow (redrawn wr p.d) p.os := fun d os => by
            have h1 := alike13 (grow (redrawn wr d) os) y.k.toNat z.k.toNat (p3.below (below_regrown wr d os)) (q3.below (below_regrown wr d os))
            rw [decide_eq_true (by rw [hzk, hzp, hyk, hyp]; exact ⟨rfl, rfl⟩)] at h1
            exact Calls.regrown_of h1
          have i1 : (t : Int) < (nx : Int) := by omega
          have i0 : (0 : Int) ≤ (t : Int) := Int.natCast_nonneg _
          have i2 : (t : Int) < (cl : Int) := by omega
          have i3 : (t : Int) < (cm : Int) := by omega
          have HB := Lib.hid hb
          clear hb hat hkp hy hyk hyp hz hzk hzp hFL hCM p1 p2 p3 q1 q2 q3
          go_wp2_with fail
          refine wp_region_quiet_below (by kernel_rfl) (by kernel_rfl) ?_
          repeat (
            refine wpQuiet_step (fun K hK => ?_)
            go_simp
            first
              | (refine hK _ ?_; clear hK K)
              | (apply Exists.intro
                 refine ⟨fun _ => ?_, hK _ ?_⟩
                 exact cA _ _
                 clear hK K))
          refine wpQuiet_nil ?_
          intro _ hw'
          obtain ⟨⟨dq, osq⟩, hw''⟩ := hw'
          subst hw''
          clear k1 k2 k3 k4 k5 k6 cA
          have HN := Lib.hid (bthen HB.out (below_regrown wr dq osq))
          go_wp2
          first | go_roundw | refine ⟨?rel, ?measure⟩
          case rel => exact ⟨t + 1, by omega, by go_num, HN.out⟩
          case measure => simp [intOf]; omega
        · have i1 : (nx : Int) ≤ (t : Int) := by omega
          obtain ⟨w7, hw7⟩ : ∃ w7, w7 = wr := ⟨_, rfl⟩
          have hb7 : RowKit.Below V.heap.size V w7 := by rw [hw7]; exact hb
          rw [← hw7] at d4 ⊢
          have hsV : Sl V 1 A n c (l.map by8) := (H0.out.2.2.1.below HU.out.2.2.2.2.2.1).keepP HV.out.1.keep (fun ad e h1 hx => by
            have hl : l.length = n := H0.out.2.2.1.blen
            have hlt := cell_lt (((H0.out.2.2.1.at_ ad e (by simp; omega)).2) 0 (by simp; omega))
            have h3 := HU.out.2.2.2.2.2.2.2.2
            simp at hx hlt
            rcases hx with hx | hx | hx
            · exact H0.out.2.1 ad e h1 hx
            · omega
            · omega)
          have HB7 := Lib.hid (And.intro hb7 (hsV.below hb7))
          clear hb7 hsV hb hw7
          go_wp2_with fail
          refine (HSC.out.1 w7 HB7.out.2).mono ?_
          rintro e w8 ⟨xs2, v2, rfl, hxs2, hF2, hb8⟩
          have hnx2 : xs2.length = nx := by
            have h1 := congrArg List.length hxs2
            rw [List.length_map, placedF_len, HV.out.2.2.2.2.2.1] at h1
            exact h1
          obtain ⟨Aa, ca, rfl, sl8, _⟩ := own_sl hF2.own
          have ca1 := sl8.le; have ca2 := sl8.max
          rw [hnx2] at ca1 ⊢
          obtain ⟨G1, vs1, ws1, ls1, sh1, sh2, sh3⟩ := HV.out.1.sh
          have hbV8 := bthen HB7.out.1 hb8
          have HG1M := Lib.hid sh3
          have HG1L := Lib.hid (fun y (hy : y ∈ G1) => (show y < w7.heap.size from Nat.lt_of_lt_of_le (sh1.lts y hy) HB7.out.1.size))
          have hFL8 := HV.out.2.2.1.below hbV8
          have hCM8 := HV.out.2.1.below hbV8
          have hs3 := HU.out.2.2.2.2.2.2.2.2
          have hszU := HU.out.2.2.2.2.1
          have hUV := HV.out.1.keep.size
          have hV8 := hbV8.size
          have hWw := H0.out.1.below.size
          have hG1 : ∀ y ∈ G1, y < w.heap.size ∨ U.heap.size ≤ y := fun y hy => (sh3 y hy).imp (fun h => HU.out.2.2.2.2.2.2.2.1 y h) id
          obtain ⟨M, hMe⟩ : ∃ M, M = (Value.slice Al nx cl).ownBlock.toList := ⟨_, rfl⟩
          have hMi : ∀ y ∈ M, w.heap.size + 3 ≤ y ∧ y < w4.heap.size := fun y hy => by
            rw [hMe, tl] at hy
            exact ⟨(hFL8.fl.own.lt y hy).1, hFL8.hfl y hy⟩
          have hgi : ∀ x ∈ xs, w.heap.size + 3 ≤ x.g ∧ x.g < w4.heap.size := fun x hx => ⟨((hFL8.fl.rows x hx).lt x.g rfl).1, hFL8.hxs x hx⟩
          have hPC : PC W w8 (w.heap.size + 3) N G1 M xs := ⟨hFL8.fl.nodup, fun x hx hy => by have := hgi x hx; have := hG1 _ hy; omega, fun x hx hy => by
            rw [hMe, tl] at hy
            exact own_types' hFL8.fl.own (hFL8.fl.rows x hx) (by decide) hy rfl, fun x hx => by have := hgi x hx; omega, fun y hy => ⟨fun hg => by have := hMi y hy; have := hG1 _ hg; omega, by have := hMi y hy; omega, by have := hMi y hy; omega⟩, fun x hx => by have := xs_mem HF.out.1 hx; have := H0.out.2.2.1.blen; omega, by omega⟩
          have hPL : PL W w8 (w.heap.size + 3) p vs1.length N G1 M xs 0 w8 := PL.start (sh1.then_ hbV8) (fun x hx => hFL8.fl.rows x hx)
          have hLR : LR (w.heap.size + 3) (.slice Al nx cl) nx xs 0 w8 := ⟨_, by have := hFL8.fl.own; rw [← HF.out.2.2.2.2.2.2] at this; exact this, fun i x _ hx => (frameL_get xs i x hx).2⟩
          have d4' := cell_below d4 hb8
          have H8 := Lib.hid (And.intro hxs2 (And.intro hF2 (And.intro hb8 (And.intro hnx2 (And.intro hPC (And.intro hPL (And.intro hLR (And.intro hCM8 (And.intro sh2 (And.intro hG1 (And.intro hMi (And.intro hgi (And.intro hMe (And.intro hUV (And.intro hV8 (And.intro hs3 hszU))))))))))))))))
          clear hxs2 hF2 hb8 hnx2 sl8 sh1 sh2 sh3 hbV8 hFL8 hCM8 hs3 hszU hUV hV8 hG1 hMe hMi hgi hPC hPL hLR d4 ca1
          have hmm : ∀ y ∈ G1 ++ (xs.map Yl.g ++ M), y < w.heap.size ∨ w5.heap.size + 1 ≤ y ∨ (w.heap.size + 1 + 1 < y ∧ y < w4.heap.size) := fun y hy => by
            obtain ⟨-, -, -, -, -, -, -, -, -, h1, h2, h3, -, -, -, -, h5⟩ := H8.out
            rcases List.mem_append.1 hy with h | h
            · have := h1 y h; omega
            · rcases List.mem_append.1 h with h | h
              · obtain ⟨u, hu1, hu2⟩ := List.mem_map.1 h
                have := h3 u hu1; omega
              · have := h2 y h; omega
          have HMM := Lib.hid hmm
          clear hmm
          have hv1 : vs1.length + nx ≤ 900100000 := by
            have h1 := H8.out.2.2.2.2.2.2.2.2.1
            have h2 := HV.out.2.2.2.2.2.2
            omega
          go_wp2_with fail
          go_loopw [21] (fun i wr => ∃ t : Nat, t ≤ nx ∧ i = .int .i64 t ∧ PL W w8 (w.heap.size + 3) p vs1.length N G1 M xs t wr ∧ LR (w.heap.size + 3) (.slice Al nx cl) nx xs t wr) (fun i _ => nx - (intOf i).toNat)
          case atStart => exact ⟨0, by omega, rfl, H8.out.2.2.2.2.2.1, H8.out.2.2.2.2.2.2.1⟩
          case round =>
            obtain ⟨t, ht, rfl, hPL, hLR⟩ := hrel
            have hCMr := H8.out.2.2.2.2.2.2.2.1.keep3 hPL.keep HMM.out
            have d5 := box_cell hCMr.x3 0 _ rfl
            have d6 := box_cell hCMr.x0 0 _ rfl
            by_cases hlt : t < nx
            · obtain ⟨Lc, oL, hLc⟩ := hLR.own
              obtain ⟨g, cg, eg, -, -, -⟩ := own_form oL (by omega)
              injection eg with eg1 _ eg2
              subst eg1; subst eg2
              obtain ⟨x, hx⟩ : ∃ x, xs[t]? = some x := ⟨_, List.getElem?_eq_getElem (by rw [← HF.out.2.2.2.2.2.2]; exact hlt)⟩
              have k1 := hLR.cell hx
              have hP := (hPL.below ((RowKit.Below.refl _ wr).drew)).put H8.out.2.2.2.2.1 hx hN (by omega)
              have i1 : (t : Int) < (nx : Int) := by omega
              have i0 : (0 : Int) ≤ (t : Int) := Int.natCast_nonneg _
              have i2 : (t : Int) < (cl : Int) := by omega
              have hgM : g ∈ M := by rw [H8.out.2.2.2.2.2.2.2.2.2.2.2.2.1]; simp [Value.ownBlock]
              have HP := Lib.hid (And.intro hP (And.intro hLR (And.intro hx hgM)))
              clear hP hLR hPL hCMr oL hLc hx hgM
              go_wp2_with fail
              go_region_held3 (fun w' => w'.cell? ⟨w.heap.size, 0, none⟩ = some (.pointer (some ⟨p, 0, none⟩)) ∧ w'.cell? ⟨w4.heap.size, 0, none⟩ = some (.slice (some ⟨g, 0, none⟩) nx cl) ∧ w'.cell? ⟨g, t * 2 + 1, none⟩ = some (.slice (some ⟨x.g, 0, none⟩) x.p.length x.p.length))
                (first | exact F1 | exact ⟨d6, d5, k1⟩ | go_keep)
                (first
                  | (go_at_call 100; refine HP.out.1.mono ?_; rintro e w9 ⟨rfl, hPL9, G9, k9, hG9⟩
                     have hCM9 := H8.out.2.2.2.2.2.2.2.1.keep3 hPL9.keep HMM.out
                     have hgo : g ∉ G9 := fun hy => by
                       have hc := H8.out.2.2.2.2.1
                       have hm := hc.gM g HP.out.2.2.2
                       rcases hG9 g hy with h1 | h1 | h1
                       · exact hm.1 h1
                       · obtain ⟨u, hu1, hu2⟩ := List.mem_map.1 h1
                         exact hc.outM u hu1 (hu2 ▸ HP.out.2.2.2)
                       · omega
                     have hLR9 := (HP.out.2.1.below ((RowKit.Below.refl _ wr).drew)).keep k9 (fun b hb hy => by have e : g = b := Option.some.inj hb; subst e; exact hgo hy)
                     have F1 := And.intro (box_cell hCM9.x0 0 _ rfl) (And.intro (box_cell hCM9.x3 0 _ rfl) (hLR9.cell HP.out.2.2.1))))
              obtain ⟨⟨v0, e1⟩, e2, e3⟩ := hLR9.cell0 hlt
              have e4 := F1.2.2
              have e5 := F1.2.1
              have hst := hLR9.store (.int .u8 211) (.slice none 0 0)
              have ks : Keep M w9 ((w9.setCell ⟨g, t * 2, none⟩ (.int .u8 211)).setCell ⟨g, t * 2 + 1, none⟩ (.slice none 0 0)) := (((Keep.refl M w9).setCell (p := ⟨g, t * 2, none⟩) (.inl HP.out.2.2.2) _).setCell (p := ⟨g, t * 2 + 1, none⟩) (.inl HP.out.2.2.2) _)
              have ks1 : Keep [g] w9 ((w9.setCell ⟨g, t * 2, none⟩ (.int .u8 211)).setCell ⟨g, t * 2 + 1, none⟩ (.slice none 0 0)) := (((Keep.refl [g] w9).setCell (p := ⟨g, t * 2, none⟩) (.inl (by simp)) _).setCell (p := ⟨g, t * 2 + 1, none⟩) (.inl (by simp)) _)
              obtain ⟨Lc9, oL9, _⟩ := hLR9.own
              have hPL10 := hPL9.mod H8.out.2.2.2.2.1 ks (fun y hy => hy) (nonC_of ks1 (fun y hy => by simp at hy; subst hy; exact own_cells oL9 rfl))
              have HN := Lib.hid (And.intro hPL10 hst)
              clear hPL9 k9 hG9 hCM9 hgo hLR9 F1 hst ks ks1 oL9 hPL10 k1 d5 d6
              go_wp2
              first | go_roundw | refine ⟨?rel, ?measure⟩
              case rel => exact ⟨t + 1, by omega, by go_num, HN.out.1, HN.out.2⟩
              case measure => simp [intOf]; omega
            · have htn : t = nx := by omega
              rw [htn] at hPL
              obtain ⟨w10, hw10⟩ : ∃ w10, w10 = wr := ⟨_, rfl⟩
              have i1 : (nx : Int) ≤ (t : Int) := by omega
              rw [← hw10] at hPL hLR hCMr d5 ⊢
              clear htn d6 hw10
              obtain ⟨Lc, oL, _⟩ := hLR.own
              have sL := (own_sl' oL).2.1
              have H10 := Lib.hid (And.intro hPL (And.intro oL hCMr))
              clear hPL hLR hCMr oL
              go_wp2_with fail
              go_loopw [22, 23] (fun oL i wr => ∃ (t : Nat) (vL : Value) (Lc : List Value), t ≤ 70 ∧ i = .int .i64 t ∧ vL = oL ∧ wr.ownsRow (w.heap.size + 3) 70 2 vL (nx + t) Lc ∧ (∀ b, vL.ownBlock = some b → b ∈ M ∨ w10.heap.size ≤ b) ∧ Keep M w10 wr ∧ NonC w10 wr) (fun _ i _ => 70 - (intOf i).toNat)
              case atStart => exact ⟨0, _, Lc, by omega, rfl, rfl, H10.out.2.1, fun b hb => .inl (by rw [H8.out.2.2.2.2.2.2.2.2.2.2.2.2.1, tl]; exact hb), Keep.refl _ _, fun _ _ h _ => h⟩
              case round =>
                obtain ⟨t, vL, Lc', ht, rfl, rfl, o, hvM, kM, hnc⟩ := hrel
                by_cases hlt : t < 70
                · have i1 : (t : Int) < 70 := by omega
                  have i0 : (0 : Int) ≤ (t : Int) := Int.natCast_nonneg _
                  have hq : nx ≤ 6554 := by have := HV.out.2.2.2.2.2.2.2.1; omega
                  have HL := Lib.hid (And.intro o (And.intro hvM (And.intro kM hnc)))
                  have hwr : w.heap.size + 3 ≤ wr.heap.size := by
                    have h1 := kM.size; have h2 := H10.out.1.keep.size; have h3 := H8.out.2.2.2.2.2.2.2.2.2.2.2.2.2.1; have h4 := H8.out.2.2.2.2.2.2.2.2.2.2.2.2.2.2.1; have h5 := H8.out.2.2.2.2.2.2.2.2.2.2.2.2.2.2.2; have h6 := HU.out.2.2.2.2.2.2.2.2; omega
                  clear o hvM kM hnc
                  go_wp2_with (first | (at_builtin; refine Stopped.out ?_) | (at_make; refine Stopped.out ?_))
                  refine Stopped.mk (apk_own EFr rfl (.tmp 157) (.tmp 159) rfl rfl (HL.out.1.alloc _) rfl (Sl.fresh wr [.int .u8 0, .slice none 0 0] 70 1 2 rfl (by decide)) (by simp [Value.oneCell']) (by simp only [maxLen]; omega) (by omega) (by simp; omega) ?_)
                  intro vL' w11 oL' gL lL
                  have hv1 : ∀ b, vL.ownBlock = some b → b < wr.heap.size := fun b hb => (HL.out.1.lt b hb).2
                  have gL' : (wr.alloc (.cells #[.int .u8 0, .slice none 0 0] 70)).grownBy w11 vL.ownBlock := gL
                  have k11 : Keep M w10 w11 := (HL.out.2.2.1.alloc _).grown gL' (fun b hb => HL.out.2.1 b hb)
                  have kx : Keep vL.ownBlock.toList (wr.alloc (.cells #[.int .u8 0, .slice none 0 0] 70)) w11 := (Keep.refl _ _).grown gL' (fun b hb => .inl (by simp [hb]))
                  have n11 : NonC w10 w11 := (HL.out.2.2.2.trans (NonC.below ((RowKit.Below.refl _ wr).alloc (Nat.le_refl _) _))).trans (nonC_of kx (fun y hy => by
                    rw [tl] at hy
                    exact own_cells (HL.out.1.alloc _) hy))
                  have hm11 : ∀ b, vL'.ownBlock = some b → b ∈ M ∨ w10.heap.size ≤ b := fun b hb => by
                    rcases lL b hb with h1 | h1
                    · exact HL.out.2.1 b h1
                    · have := HL.out.2.2.1.size
                      simp at h1
                      exact .inr (by omega)
                  have HN := Lib.hid (And.intro oL' (And.intro hm11 (And.intro k11 n11)))
                  clear oL' gL gL' lL hv1 k11 kx n11 hm11
                  go_wp2
                  first | go_roundw | refine ⟨?rel, ?measure⟩
                  case rel => exact ⟨t + 1, _, _, by omega, by go_num, rfl, by rw [← Nat.add_assoc]; exact HN.out.1, HN.out.2.1, HN.out.2.2.1, HN.out.2.2.2⟩
                  case measure => simp [intOf]; omega
                · have ht7 : t = 70 := by omega
                  rw [ht7] at o
                  obtain ⟨Ag, cg, rfl, _, _⟩ := own_sl o
                  have i1 : (70 : Int) ≤ (t : Int) := by omega
                  obtain ⟨w11, hw11⟩ : ∃ w11, w11 = wr := ⟨_, rfl⟩
                  rw [← hw11] at kM hnc ⊢
                  have hPL11 := H10.out.1.mod H8.out.2.2.2.2.1 kM (fun y hy => hy) hnc
                  have hCM11 := H8.out.2.2.2.2.2.2.2.1.keep3 hPL11.keep HMM.out
                  have d7 := box_cell hCM11.x4 0 _ rfl
                  have i2 : IntKind.i64.wrap ((nx : Int) + 70) = (nx : Int) + 70 := by rw [IntKind.wrap_i64]; have := HV.out.2.2.2.2.2.2.2.1; omega
                  obtain ⟨G2, vs2, ws2, ls2, q1, q2, q3⟩ := hPL11.sh
                  have hw78 := H8.out.2.2.1.size
                  have hV7 := HB7.out.1.size
                  have hw811 := hPL11.keep.size
                  have h4 := HU.out.2.2.2.2.2.2.2.2
                  have hUV := HV.out.1.keep.size
                  have hsz := HU.out.2.2.2.2.1
                  have hgi := H8.out.2.2.2.2.2.2.2.2.2.2.2.1
                  have hMi := H8.out.2.2.2.2.2.2.2.2.2.2.1
                  have hFA8 : FL w7.heap.size w8.heap.size (.slice Aa nx ca) xs2 w8 := by
                    have h1 := H8.out.2.1
                    rw [H8.out.2.2.2.1] at h1
                    exact ⟨h1, fun b hb => (h1.own.lt b hb).2, fun x hx => ((h1.rows x hx).lt x.g rfl).2⟩
                  have hFA := hFA8.keep hPL11.keep (fun y hy => by
                    rcases List.mem_append.1 hy with h | h
                    · exact .inl (HG1L.out y h)
                    · rcases List.mem_append.1 h with h | h
                      · obtain ⟨u, hu1, hu2⟩ := List.mem_map.1 h
                        have := hgi u hu1; omega
                      · have := hMi y h; omega)
                  have hx2 : ∀ x ∈ xs2, w7.heap.size ≤ x.g ∧ x.g < w8.heap.size := fun x hx => ⟨((hFA.fl.rows x hx).lt x.g rfl).1, hFA.hxs x hx⟩
                  have hG2 : ∀ y ∈ G2, (y < w7.heap.size ∨ w8.heap.size ≤ y) ∧ (y < w.heap.size ∨ w5.heap.size + 1 ≤ y ∨ (w.heap.size + 1 + 1 < y ∧ y < w4.heap.size)) ∧ (y ∈ G1 ∨ w.heap.size ≤ y) := fun y hy => by
                    rcases q3 y hy with h | h | h
                    · exact ⟨.inl (HG1L.out y h), HMM.out y (List.mem_append_left _ h), .inl h⟩
                    · obtain ⟨u, hu1, hu2⟩ := List.mem_map.1 h
                      have := hgi u (List.mem_of_mem_take hu1)
                      exact ⟨.inl (by omega), .inr (.inr (by omega)), .inr (by omega)⟩
                    · exact ⟨.inr h, .inr (.inl (by omega)), .inr (by omega)⟩
                  have hWw := H0.out.1.below.size
                  have hPC2 : PC W w11 w7.heap.size N G2 [] xs2 := ⟨hFA.fl.nodup, fun x hx hy => by have := hx2 x hx; have := (hG2 _ hy).1; omega, fun x hx => by simp, fun x hx => by have := hx2 x hx; omega, by simp, fun x hx => by have := xs_mem H8.out.1 hx; have := H0.out.2.2.1.blen; omega, by omega⟩
                  have hPL2 : PL W w11 w7.heap.size p vs2.length N G2 [] xs2 0 w11 := PL.start q1 (fun x hx => hFA.fl.rows x hx)
                  have hA2o := hFA.fl.own
                  rw [H8.out.2.2.2.1] at hA2o
                  have hMM2 : ∀ y ∈ G2 ++ (xs2.map Yl.g ++ []), y < w.heap.size ∨ w5.heap.size + 1 ≤ y ∨ (w.heap.size + 1 + 1 < y ∧ y < w4.heap.size) := fun y hy => by
                    rcases List.mem_append.1 hy with h | h
                    · exact (hG2 y h).2.1
                    · simp only [List.append_nil] at h
                      obtain ⟨u, hu1, hu2⟩ := List.mem_map.1 h
                      have := hx2 u hu1
                      exact .inr (.inl (by omega))
                  have hv2 : vs2.length + nx ≤ 900200000 := by have := HV.out.2.2.2.2.2.2.2.1; omega
                  have H11 := Lib.hid (And.intro hPL11 (And.intro hCM11 (And.intro hPC2 (And.intro hPL2 (And.intro hA2o (And.intro hMM2 (And.intro hG2 (And.intro hx2 q2))))))))
                  clear hPL11 hCM11 kM hnc hvM o ht7 hw11 q1 q2 q3 hw78 hV7 hw811 h4 hUV hsz hgi hMi hFA8 hFA hx2 hG2 hWw hPC2 hPL2 hA2o hMM2
                  go_wp2_with fail
                  clear d7 i2
                  go_loopw [24] (fun i wr => ∃ t : Nat, t ≤ nx ∧ i = .int .i64 t ∧ PL W w11 w7.heap.size p vs2.length N G2 [] xs2 t wr ∧ wr.ownsRow w7.heap.size 70 2 (.slice Aa nx ca) nx (frameL xs2)) (fun i _ => nx - (intOf i).toNat)
                  case atStart => exact ⟨0, by omega, rfl, H11.out.2.2.2.1, H11.out.2.2.2.2.1⟩
                  case round =>
                    obtain ⟨t, ht, rfl, hPL, hAo⟩ := hrel
                    have hCMr := H11.out.2.1.keep3 hPL.keep H11.out.2.2.2.2.2.1
                    have d5 := box_cell hCMr.x4 0 _ rfl
                    by_cases hlt : t < nx
                    · have hat : (scanF l).1[t]? = some ((scanF l).1[t]'(by rw [HV.out.2.2.2.2.2.1]; exact hlt)) := List.getElem?_eq_getElem _
                      obtain ⟨⟨kk, pp⟩, hkp⟩ : ∃ q, q = (scanF l).1[t]'(by rw [HV.out.2.2.2.2.2.1]; exact hlt) := ⟨_, rfl⟩
                      rw [← hkp] at hat
                      obtain ⟨y, hy, hyk, hyp⟩ := placed_get H8.out.1 hat
                      obtain ⟨z, hz, hzk, hzp⟩ := kp_get HR.out.1 hat
                      obtain ⟨bl, ol, rfl⟩ := (own_sl' hAo).2.1.form (by omega)
                      obtain ⟨bm, om, rfl⟩ := ((own_sl' hCMr.fm.own).1 ▸ (own_sl' hCMr.fm.own).2.1 : Sl wr 2 Am nx cm _).form (by omega)
                      have hfl := frameL_get xs2 t y hy
                      obtain ⟨p1, p2⟩ := two_at (own_sl' hAo).2.1 hfl.1 hfl.2
                      have p3 := (own_sl' (hPL.rows t y (Nat.le_refl _) hy)).2.1
                      obtain ⟨q1, q2, q3⟩ := hCMr.at rfl rfl hz
                      have k1 := cell_regrown p1
                      have k2 := cell_regrown p2
                      have k3 := cell_regrown q1
                      have k4 := cell_regrown q2
                      have k6 := cell_regrown d5
                      have cA : ∀ d os, Calls Try.prog 53 #[.agg #[.int .u8 (y.k.toNat : Int), .slice (some ⟨y.g, 0, none⟩) y.p.length y.p.length], .agg #[.int .u8 (z.k.toNat : Int), .slice z.A z.p.length z.c]] (grow (redrawn wr d) os) fun e w'' => e = .returned (.bool true) ∧ ∃ p : Regrown, w'' = grow (redrawn wr p.d) p.os := fun d os => by
                        have h1 := alike13 (grow (redrawn wr d) os) y.k.toNat z.k.toNat (p3.below (below_regrown wr d os)) (q3.below (below_regrown wr d os))
                        rw [decide_eq_true (by rw [hzk, hzp, hyk, hyp]; exact ⟨rfl, rfl⟩)] at h1
                        exact Calls.regrown_of h1
                      have i1 : (t : Int) < (nx : Int) := by omega
                      have i0 : (0 : Int) ≤ (t : Int) := Int.natCast_nonneg _
                      have i2 : (t : Int) < (ca : Int) := by have := (own_sl' hAo).2.1.le; omega
                      have i3 : (t : Int) < (cm : Int) := by omega
                      have HP := Lib.hid (And.intro hPL (And.intro hAo (And.intro hCMr (And.intro hy p2))))
                      clear hat hkp hyk hyp hz hzk hzp p1 p2 p3 q1 q2 q3 hPL hAo hCMr hy hfl
                      go_wp2_with fail
                      refine wp_region_quiet_below (by kernel_rfl) (by kernel_rfl) ?_
                      repeat (
                        refine wpQuiet_step (fun K hK => ?_)
                        go_simp
                        first
                          | (refine hK _ ?_; clear hK K)
                          | (apply Exists.intro
                             refine ⟨fun _ => ?_, hK _ ?_⟩
                             exact cA _ _
                             clear hK K))
                      refine wpQuiet_nil ?_
                      intro _ hw'
                      obtain ⟨⟨dq, osq⟩, hw''⟩ := hw'
                      subst hw''
                      clear k1 k2 k3 k4 k6 cA d5
                      obtain ⟨v1, hv1'⟩ : ∃ v1, v1 = grow (redrawn wr dq) osq := ⟨_, rfl⟩
                      have hbq : RowKit.Below wr.heap.size wr v1 := by rw [hv1']; exact below_regrown wr dq osq
                      rw [← hv1']
                      clear hv1'
                      have m1 := cell_below HP.out.2.2.2.2 hbq
                      have m0 := box_cell (HP.out.2.2.1.below hbq).x0 0 _ rfl
                      have hPLq := HP.out.1.below hbq
                      have hP := (hPLq.below ((RowKit.Below.refl _ v1).drew)).put H11.out.2.2.1 HP.out.2.2.2.1 hN (by omega)
                      have hAq := own_below (own_below HP.out.2.1 hbq) ((RowKit.Below.refl _ v1).drew)
                      have HQ := Lib.hid (And.intro hP hAq)
                      clear hPLq hP hAq hbq
                      go_wp2_with fail
                      go_region_held3 (fun w' => w'.cell? ⟨w.heap.size, 0, none⟩ = some (.pointer (some ⟨p, 0, none⟩)) ∧ w'.cell? ⟨bl, ol + t * 2 + 1, none⟩ = some (.slice (some ⟨y.g, 0, none⟩) y.p.length y.p.length))
                        (first | exact F1 | exact ⟨m0, m1⟩ | go_keep)
                        (first
                          | (go_at_call 100; refine HQ.out.1.mono ?_; rintro e w12 ⟨rfl, hPL9, G9, k9, hG9⟩
                             have hCM9 := H11.out.2.1.keep3 hPL9.keep H11.out.2.2.2.2.2.1
                             have hA9 := k9.own HQ.out.2 (fun b hb hy => by
                               have hlt1 := (H11.out.2.2.2.2.1.lt b hb)
                               rcases hG9 b hy with h1 | h1 | h1
                               · have h2 := (H11.out.2.2.2.2.2.2.1 b h1).1
                                 have h3 := H8.out.2.1.own
                                 rw [H8.out.2.2.2.1] at h3
                                 have h4 := (h3.lt b hb).2
                                 omega
                               · obtain ⟨u, hu1, hu2⟩ := List.mem_map.1 h1
                                 exact own_types' H8.out.2.1.own (H8.out.2.1.rows u hu1) (by decide) hb (by rw [← hu2]; rfl)
                               · omega)
                             have hfl9 := frameL_get xs2 t y HP.out.2.2.2.1
                             have F1 := And.intro (box_cell hCM9.x0 0 _ rfl) (two_at (own_sl' hA9).2.1 hfl9.1 hfl9.2).2))
                      have HN := Lib.hid (And.intro hPL9 hA9)
                      clear hPL9 hA9 k9 hG9 hCM9 hfl9 F1 m0 m1
                      go_wp2
                      first | go_roundw | refine ⟨?rel, ?measure⟩
                      case rel => exact ⟨t + 1, by omega, by go_num, HN.out.1, HN.out.2⟩
                      case measure => simp [intOf]; omega
                    · have i1 : (nx : Int) ≤ (t : Int) := by omega
                      have f2 := box_cell hCMr.x2 0 _ rfl
                      have f3 := box_free hCMr.x2 0
                      go_wp2_with fail
                      have htn : t = nx := by omega
                      rw [htn] at hPL
                      obtain ⟨W13, hW13⟩ : ∃ W13, W13 = wr.setCell ⟨w.heap.size + 1 + 1, 0, none⟩ (.bool true) := ⟨_, rfl⟩
                      have ks : Keep [w.heap.size + 1 + 1] wr W13 := by rw [hW13]; exact (Keep.refl _ wr).setCell (.inl (by simp)) _
                      have hc13 := heap_setCell_same wr (w.heap.size + 1 + 1) 0 _ _ (.bool true) hCMr.x2
                      rw [← hW13] at hc13 ⊢
                      have hbV8 := bthen HB7.out.1 H8.out.2.2.1
                      have n13 : NonC V W13 := (((NonC.below hbV8).trans H11.out.1.nonc).trans hPL.nonc).trans (nonC_of ks (fun y hy => by simp at hy; subst hy; exact ⟨_, _, _, hCMr.x2⟩))
                      have hD13 := n13 D _ HV.out.2.2.2.1 rfl
                      refine ⟨by simp, .inl ⟨_, _, rfl, run_takeDeferred hD13, ?_⟩⟩
                      have hnc : Nc U.heap.size W13 (W13.putObj D (.deferred none)) := Nc.putObj _ _ hD13 rfl HV.out.2.2.2.2.1
                      have hcell := box_cell (hnc.heap hc13) 0 (.bool true) rfl
                      have hkD : Keep [D] W13 (W13.putObj D (.deferred none)) := (Keep.refl _ _).grown (grownBy_putObj' W13 D _) (fun b hb => .inl (by have := Option.some.inj hb; simp [this]))
                      obtain ⟨W14, hW14⟩ : ∃ W14, W14 = W13.putObj D (.deferred none) := ⟨_, rfl⟩
                      rw [← hW14] at hnc hcell hkD ⊢
                      refine ⟨.bool true, by simp [results, Try.results97, go_sem, hcell], rfl, ?_⟩
                      obtain ⟨G4, vs4, ws4, ls4, s1, s2, s3⟩ := hPL.sh
                      have hG2 := H11.out.2.2.2.2.2.2.1
                      have hx2 := H11.out.2.2.2.2.2.2.2.1
                      have hUV := HV.out.1.keep.size
                      have hwU := HU.out.2.2.2.2.2.1.size
                      have hVb := hbV8.size
                      have hV7 := HB7.out.1.size
                      have h118 := H11.out.1.keep.size
                      have h1311 := hPL.keep.size
                      have hrs := ks.size
                      have hl3 := HU.out.2.2.2.2.2.2.2.2
                      have hDU := HV.out.2.2.2.2.1
                      have hszU := HU.out.2.2.2.2.1
                      have hG1m : ∀ y ∈ G1, y ∈ G ∨ w.heap.size ≤ y := fun y hy => (HG1M.out y hy).imp id (fun h => by omega)
                      have hG2m : ∀ y ∈ G2, y ∈ G ∨ w.heap.size ≤ y := fun y hy => (hG2 y hy).2.2.elim (hG1m y) .inr
                      have hG4m : ∀ y ∈ G4, (y ∈ G ∨ w.heap.size ≤ y) ∧ y ≠ w.heap.size + 1 + 1 := fun y hy => by
                        rcases s3 y hy with h | h | h
                        · have h5 := (hG2 y h).2.1
                          exact ⟨hG2m y h, by omega⟩
                        · obtain ⟨u, hu1, hu2⟩ := List.mem_map.1 h
                          have := hx2 u (List.mem_of_mem_take hu1)
                          exact ⟨.inr (by omega), by omega⟩
                        · exact ⟨.inr (by omega), by omega⟩
                      have sF : Shf W W14 p G4 vs4 ws4 ls4 N := (s1.keep ks (fun y hy hx => by simp at hx; exact (hG4m y hy).2 hx) (fun y hy => by simp at hy; have := H0.out.1.below.size; omega)).nc hnc (by have := HU.out.2.2.2.2.2.2.1; omega)
                      have k1 : Keep G w V := (Keep.of_below HU.out.2.2.2.2.2.1 G).trans' HV.out.1.keep (fun y hy => by
                        rcases List.mem_append.1 hy with h | h
                        · exact .inl h
                        · simp at h; exact .inr (by omega))
                      have k2 : Keep G w w11 := (k1.trans (Keep.of_below hbV8 G)).trans' H11.out.1.keep (fun y hy => by
                        rcases List.mem_append.1 hy with h | h
                        · exact hG1m y h
                        · rcases List.mem_append.1 h with h | h
                          · obtain ⟨u, hu1, hu2⟩ := List.mem_map.1 h
                            have := H8.out.2.2.2.2.2.2.2.2.2.2.2.1 u hu1
                            exact .inr (by omega)
                          · have := H8.out.2.2.2.2.2.2.2.2.2.2.1 y h
                            exact .inr (by omega))
                      have k3 : Keep G w wr := k2.trans' hPL.keep (fun y hy => by
                        rcases List.mem_append.1 hy with h | h
                        · exact hG2m y h
                        · simp only [List.append_nil] at h
                          obtain ⟨u, hu1, hu2⟩ := List.mem_map.1 h
                          have := hx2 u hu1
                          exact .inr (by omega))
                      have k4 : Keep G w W14 := (k3.trans' ks (fun y hy => by simp at hy; exact .inr (by omega))).trans' hkD (fun y hy => by simp at hy; exact .inr (by omega))
                      exact ⟨G4, vs4, ws4, ls4, sF, by
                        have h1 := H8.out.2.2.2.2.2.2.2.2.1
                        have h2 := H11.out.2.2.2.2.2.2.2.2
                        have h3 := HV.out.2.2.2.2.2.2
                        omega, k4, fun y hy => (hG4m y hy).1⟩
end Go.Proofs.Ytpjmbhhfpoamnaa
