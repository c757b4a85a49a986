import Derived.Test.YtikjhandhgfohaaDc33d
set_option linter.unusedVariables false
set_option linter.unusedSimpArgs false
namespace Go.Proofs.Ytikjhandhgfohaa
open Go.RowKit
set_option maxRecDepth 100000 in
set_option maxHeartbeats 3200000 in
theorem dec33_0 (w : World) {A : Option Addr} {n c : Nat} {l : List UInt8} (ha : Sl w 1 A n c (l.map by8)) (hn : n ≤ 100000000) (hh : IsHead l) (hd : bt l 3 = 12) :
    Calls Try.prog 8 #[.slice A n c] w (DecP w l) := by
  have hl : l.length = n := by simpa using ha.len
  obtain ⟨W0, hW0⟩ : ∃ W0, W0 = w.alloc (.cells #[.int .u8 0, .int .i64 0, .int .u8 0, .int .u8 0, .int .u8 0, .int .u8 0, .int .u8 0, .int .u8 0, .int .u8 0, .int .u8 0, .slice none 0 0] 25) := ⟨_, rfl⟩
  have hb0 : Below w.heap.size w W0 := by rw [hW0]; exact (Below.refl _ w).alloc (Nat.le_refl _) _
  have z0 : W0.heap[w.heap.size]? = some (.cells #[.int .u8 0, .int .i64 0, .int .u8 0, .int .u8 0, .int .u8 0, .int .u8 0, .int .u8 0, .int .u8 0, .int .u8 0, .int .u8 0, .slice none 0 0] 25 (0, 0)) := by rw [hW0]; exact heap_alloc_new w _
  have hs0 : W0.heap.size = w.heap.size + 1 := by rw [hW0]; simp
  have HH := Lib.hid (ReadHead_any W0 (ha.below hb0))
  have h1 := ha.le; have h2 := ha.max
  have HE : Hid (rdE l = 0 ∧ rdD l = 12 ∧ rdN l = 4) := Lib.hid ⟨by rw [rdE, if_pos hh], by rw [rdD, if_pos hh, hd], by rw [rdN, if_pos hh]⟩
  have HI := Lib.hid (And.intro hh hd)
  have h4 : 4 ≤ n := by have := hh.1; omega
  clear hh hd
  rw [HE.out.1, HE.out.2.1, HE.out.2.2] at HH
  obtain ⟨A', hA', hsp⟩ := slice_piece A n c 4 (n - 4) (by omega) h1 ha.nil (fun ad e h0 => (ha.at_ ad e (by rw [ha.len]; omega)).1)
  have HA' := Lib.hid hA'
  clear hA'
  go_enter Try.func8, Try.ntmps8
  go_wp2_with (rw [← hW0])
  clear hW0
  refine HH.out.mono ?_
  rintro e w1 ⟨rfl, hb1⟩
  have z1 := heap_below z0 hb1
  have sp := hsp w1 l ((ha.below hb0).below hb1)
  have hb01 := Lib.hid (bthen hb0 hb1)
  have i4 : (4 : Int) ≤ (n : Int) := by omega
  obtain ⟨l4, hl4⟩ : ∃ l4, l4 = l.drop 4 := ⟨_, rfl⟩
  obtain ⟨X1, a1, f1, hd1⟩ : ∃ x a f, d1 l4 0 = (x, a, f) := ⟨_, _, _, rfl⟩
  obtain ⟨X2, a2, f2, hd2⟩ : ∃ x a f, d2 l4 0 = (x, a, f) := ⟨_, _, _, rfl⟩
  obtain ⟨B3, a3, f3, hd3⟩ : ∃ x a f, d3 l4 0 = (x, a, f) := ⟨_, _, _, rfl⟩
  obtain ⟨B4, a4, f4, hd4⟩ : ∃ x a f, d4 l4 0 = (x, a, f) := ⟨_, _, _, rfl⟩
  have hx1 : X1 < 256 := by have := d1_lt l4 0; rwa [hd1] at this
  have hx2 : X2 < 256 := by have := d2_lt l4 0; rwa [hd2] at this
  have hcv : IntKind.i64.wrap (X2 : Int) = (X2 : Int) := by rw [IntKind.wrap_i64]; omega
  have HLB := Lib.hid (show (B3.length = 8 ∨ B3 = []) ∧ B4.length ≤ 64 by have h3 := d3_len l4 0; have h4 := d4_len l4 0; rw [hd3] at h3; rw [hd4] at h4; exact ⟨h3, h4⟩)
  have HD1 := Lib.hid hd1
  have HD2 := Lib.hid (show d2r l4 a1 f1 = (X2, a2, f2) by rw [← hd2, d2_r, hd1])
  have HD3 := Lib.hid (show d3r l4 a2 f2 = (B3, a3, f3) by rw [← hd3, d3_r, hd2])
  have HD4 := Lib.hid (show d4r l4 a3 f3 = (B4, a4, f4) by rw [← hd4, d4_r, hd3])
  have HDD := Lib.hid (show (decS l ↔ doneR l4 a4 f4 = 0 ∧ rgP X1 X2 B4.length) ∧ (decS l → decX l = X1 ∧ decN l = X2 ∧ decT l = bt B3 ∧ decB l = B4) ∧ decE l = if doneR l4 a4 f4 = 0 ∧ rgP X1 X2 B4.length then 0 else 90 by
    have hk : okD (l.drop 4) 0 ↔ doneR l4 a4 f4 = 0 ∧ rgP X1 X2 B4.length := by unfold okD dD; rw [← hl4, hd1, hd2, hd4]
    have hi := HI.out
    refine ⟨⟨fun h => hk.1 h.2.2, fun h => ⟨hi.1, hi.2, hk.2 h⟩⟩, fun h => ?_, ?_⟩
    · refine ⟨?_, ?_, ?_, ?_⟩
      · rw [decX, if_pos h, ← hl4, hd1]
      · rw [decN, if_pos h, ← hl4, hd2]
      · rw [decT, if_pos h, ← hl4, hd3]
      · rw [decB, if_pos h, ← hl4, hd4]
    · rw [decE, if_neg (fun k => k hi.1), if_neg (fun k => k hi.2)]
      by_cases h : doneR l4 a4 f4 = 0 ∧ rgP X1 X2 B4.length
      · rw [if_pos h, if_pos (hk.2 h)]
      · rw [if_neg h, if_neg (fun k => h (hk.1 k))])
  have HNR : Hid (∀ X C, X = A' → C = c - 4 → Calls Try.prog 28 #[.slice X (n - 4) C] w1 fun e w' => ∃ p, e = .returned (.pointer (some ⟨p, 0, none⟩)) ∧ Re w1 w'.heap.size w' p l4 0 0) := Lib.hid (fun X C e e2 => by
    subst e; subst e2; subst hl4
    have ht : (l.drop 4).take (n - 4) = l.drop 4 := List.take_of_length_le (by simp; omega)
    rw [ht] at sp
    exact re_new (Below.refl _ _) sp (by omega))
  have HZ1 := Lib.hid z1
  clear HH z0 hsp ha hb0 sp z1 hb1 hl4 hd1 hd2 hd3 hd4 hx1 hx2
  go_wp2_with fail
  all_goals
    refine (HNR.out _ _ (by first | (rw [← HA'.out, if_pos (by omega)]) | (rw [← HA'.out, if_neg (by omega)]; simp [Addr.add])) (by omega)).mono ?_
    rintro e w2 ⟨p, rfl, o2⟩
    clear HNR HA'
    go_wp2_with fail
    refine (re_Byte1 o2 HD1.out).mono ?_
    rintro e w3 ⟨rfl, o3, -⟩
    clear o2
    go_wp2_with fail
    refine (re_Byte2 o3 HD2.out).mono ?_
    rintro e w4 ⟨rfl, o4, -⟩
    have o4 := o4.here
    clear o3
    obtain ⟨q, hq⟩ : ∃ q, q = w4.heap.size := ⟨_, rfl⟩
    obtain ⟨w5, hw5⟩ : ∃ w5, w5 = w4.alloc (.cells #[.int .u8 (X1 : Int), .int .i64 (X2 : Int), .int .u8 0, .int .u8 0, .int .u8 0, .int .u8 0, .int .u8 0, .int .u8 0, .int .u8 0, .int .u8 0, .slice none 0 0] 25) := ⟨_, rfl⟩
    have z5 : w5.heap[w4.heap.size]? = some (.cells #[.int .u8 (X1 : Int), .int .i64 (X2 : Int), .int .u8 0, .int .u8 0, .int .u8 0, .int .u8 0, .int .u8 0, .int .u8 0, .int .u8 0, .int .u8 0, .slice none 0 0] 25 (0, 0)) := by rw [hw5]; exact heap_alloc_new w4 _
    have k5 : Below w4.heap.size w4 w5 := by rw [hw5]; exact (Below.refl _ w4).alloc (Nat.le_refl _) _
    have o5 := o4.at k5 (Nat.le_refl _)
    have s5 : q < w5.heap.size := by rw [hq]; exact (Array.getElem?_eq_some_iff.1 z5).1
    have HW5 := Lib.hid hw5
    clear hw5
    have hq1 : w.heap.size < q := by
      have e1 := o4.bel.size; have e2 := (Array.getElem?_eq_some_iff.1 HZ1.out).1; omega
    have hqp : p ≠ q := by have := o4.pH; omega
    have HQP := Lib.hid (And.intro hq1 hqp)
    have hBq : Below q w4 w5 := by rw [hq]; exact k5
    have hqh := Lib.hid hq
    clear k5 hq o4 hq1 hqp
    go_wp2_with (rw [← HW5.out])
    rw [← hqh.out] at z5 o5
    rw [← hqh.out]
    clear HW5 hqh
    have z5h := Lib.hid z5
    clear z5
    refine wp_region_held_drew (S := (fun w' => True)) (by kernel_rfl) (by trivial) (fun hHeld => ?_)
    refine wpAnyH_take (i := 0) (v := ?_) (by simp only [List.getElem?_toArray, List.getElem?_cons_succ, List.getElem?_cons_zero]; rfl) (by kernel_rfl) (by kernel_rfl) (by kernel_rfl) (by exact fun _ _ _ h => h) (Or.inl ⟨by rfl, ?_⟩) (by assumption) ?_
    rotate_left
    · (intro w hSw; (try dsimp only at hSw); go_simp; try with_reducible rfl)
    try simp only [Act.put, List.setIfInBounds_toArray, List.set_cons_zero, List.set_cons_succ]
    refine wpAnyH_take (i := 1) (v := ?_) (by simp only [List.getElem?_toArray, List.getElem?_cons_succ, List.getElem?_cons_zero]; rfl) (by kernel_rfl) (by kernel_rfl) (by kernel_rfl) (by exact fun _ _ _ h => h) (Or.inl ⟨by rfl, ?_⟩) (by assumption) ?_
    rotate_left
    · (intro w hSw; (try dsimp only at hSw); go_simp; try with_reducible rfl)
    try simp only [Act.put, List.setIfInBounds_toArray, List.set_cons_zero, List.set_cons_succ]
    refine wpAnyH_take (i := 2) (v := ?_) (by simp only [List.getElem?_toArray, List.getElem?_cons_succ, List.getElem?_cons_zero]; rfl) (by kernel_rfl) (by kernel_rfl) (by kernel_rfl) (by exact fun _ _ _ h => h) (Or.inl ⟨by rfl, ?_⟩) (by assumption) ?_
    rotate_left
    · (intro w hSw; (try dsimp only at hSw); go_simp; try with_reducible rfl)
    try simp only [Act.put, List.setIfInBounds_toArray, List.set_cons_zero, List.set_cons_succ]
    refine wpAnyH_ready (rs := [3]) (by kernel_rfl) (by simp) ?_
    refine AllReadyH.cons rfl (fun K hK => ?_) AllReadyH.nil
    rw [if_pos (by rfl)]
    (go_wp2_with fail; refine (re_Fixed3 (o5.below (by first | exact (Below.refl _ _).drew | exact below_drewN (Below.refl _ _) _)) HD3.out).mono ?_; rintro e w6 ⟨v6, rfl, t6, o6, k6⟩; try dsimp only)
    refine hK.out _ _ (by trivial) (fun hHeld => ?_)
    clear hK K
    try simp only [Act.put, List.setIfInBounds_toArray, List.set_cons_zero, List.set_cons_succ]
    have z6 : w6.heap[q]? = some (.cells [Value.int .u8 (X1 : Int), .int .i64 (X2 : Int), .int .u8 0, .int .u8 0, .int .u8 0, .int .u8 0, .int .u8 0, .int .u8 0, .int .u8 0, .int .u8 0, .slice none 0 0].toArray 25 (0, 0)) := k6.heap (by exact z5h.out) (by simpa using fun h => HQP.out.2 h.symm)
    obtain ⟨B6, c6, rfl, sl6, -⟩ := own_sl t6
    refine wpAnyH_ready (rs := [4]) (by kernel_rfl) (by simp) ?_
    refine AllReadyH.cons rfl (fun K hK => ?_) AllReadyH.nil
    refine step_copy_splice (P := Try.prog) rfl (.tmp 32) (.tmp 34) 23 23 rfl 5 Try.underlying23 (by kernel_rfl) _ B6 8 8 B3.length c6 rfl rfl q 2 _ 25 z6 (B3.map by8) (by rw [List.length_map]; have := HLB.out.1; rcases this with h | h; rw [h]; rfl; rw [h]; rfl) ?_ (by have := HLB.out.1; rcases this with h | h <;> simp [h]) (u8_one _) q w6 (Below.refl _ _) (Nat.le_refl _) ?_
    · exact fun h0 => ⟨rfl, by
        have h0' : 0 < B3.length := by simpa using h0
        obtain ⟨bb, off, hB⟩ := sl6.form h0'
        subst hB
        exact ⟨_, rfl, sl6.news⟩⟩
    intro w7 hg7 hb7
    refine hK.out _ _ (by trivial) (fun hHeld => ?_)
    clear hK K
    try simp only [Act.put, List.setIfInBounds_toArray, List.set_cons_zero, List.set_cons_succ]
    refine wpAnyH_done (by kernel_rfl) ?_ _
    have hz7 := hg7.out
    rw [splice_pc X1 X2 HLB.out.1] at hz7
    have HZ7 := Lib.hid hz7
    have o7 := o6.at hb7 (Nat.le_refl _)
    clear hg7 hz7 z6 t6 sl6 hb7 k6 o6 o5 s5
    go_wp2_with fail
    refine (re_Bytes4 o7 HD4.out).mono ?_
    rintro e w8 ⟨v8, rfl, t8, o8, k8⟩
    obtain ⟨B8, c8, rfl, -, -⟩ := own_sl t8
    have z8 : w8.heap[q]? = some (.cells (pcA X1 X2 (bt B3) none 0 0) 25 (0, 0)) := k8.heap HZ7.out (by simpa using fun h => HQP.out.2 h.symm)
    have c10 : w8.cell? ⟨q, 10, none⟩ = some (.slice none 0 0) := box_cell z8 10 _ rfl
    have f10 := box_free z8 10
    have s7q : q < w7.heap.size := (Array.getElem?_eq_some_iff.1 HZ7.out).1
    obtain ⟨w9, hw9⟩ : ∃ w9, w9 = w8.setCell ⟨q, 10, none⟩ (.slice B8 B4.length c8) := ⟨_, rfl⟩
    have z9 : w9.heap[q]? = some (.cells (pcA X1 X2 (bt B3) B8 B4.length c8) 25 (0, 0)) := by rw [hw9]; exact heap_setCell_same _ q 10 _ _ _ z8
    have kq : Keep [q] w8 w9 := by rw [hw9]; exact (Keep.refl [q] w8).setCell (p := ⟨q, 10, none⟩) (.inl (by simp)) _
    have bq : Below q w8 w9 := kq.below (Below.refl _ _) (by have := (Array.getElem?_eq_some_iff.1 z8).1; omega) (by simp)
    have t9 := own_mono (kq.own t8 (fun b hb hm => by have := (t8.lt b hb).1; simp at hm; omega)) (show w.heap.size + 1 ≤ w7.heap.size by have := HQP.out.1; omega)
    have o9 := o8.at bq (Nat.le_refl _)
    have HW9 := Lib.hid hw9
    have HT9 := Lib.hid t9
    have HZ9 := Lib.hid z9
    clear hw9 z8 t8 k8 kq bq t9 z9 o8 o7 HZ7 s7q
    go_wp2_with (rw [← HW9.out])
    clear HW9 c10 f10
    refine (re_Done o9).mono ?_
    rintro e w10 ⟨rfl, o10, hd10⟩
    have z10 := heap_below HZ9.out hd10.below
    have HT10 := Lib.hid (own_below HT9.out hd10.below)
    obtain ⟨dR, hdR⟩ : ∃ d, d = doneR l4 a4 f4 := ⟨_, rfl⟩
    rw [← hdR] at HDD ⊢
    clear HZ9 HT9 o9 hd10 hdR
    by_cases hd0 : dR = 0
    · have q0 : ((dR : Int) != 0) = false := by simp [hd0]
      have g0 : w10.cell? ⟨q, 0, none⟩ = some (.int .u8 (X1 : Int)) := box_cell z10 0 _ rfl
      have g1 : w10.cell? ⟨q, 1, none⟩ = some (.int .i64 (X2 : Int)) := box_cell z10 1 _ rfl
      have g2 : w10.cell? ⟨q, 2, none⟩ = some (.int .u8 (bt B3 0 : Int)) := box_cell z10 2 _ rfl
      have g3 : w10.cell? ⟨q, 3, none⟩ = some (.int .u8 (bt B3 1 : Int)) := box_cell z10 3 _ rfl
      have g4 : w10.cell? ⟨q, 4, none⟩ = some (.int .u8 (bt B3 2 : Int)) := box_cell z10 4 _ rfl
      have g5 : w10.cell? ⟨q, 5, none⟩ = some (.int .u8 (bt B3 3 : Int)) := box_cell z10 5 _ rfl
      have g6 : w10.cell? ⟨q, 6, none⟩ = some (.int .u8 (bt B3 4 : Int)) := box_cell z10 6 _ rfl
      have g7 : w10.cell? ⟨q, 7, none⟩ = some (.int .u8 (bt B3 5 : Int)) := box_cell z10 7 _ rfl
      have g8 : w10.cell? ⟨q, 8, none⟩ = some (.int .u8 (bt B3 6 : Int)) := box_cell z10 8 _ rfl
      have g9 : w10.cell? ⟨q, 9, none⟩ = some (.int .u8 (bt B3 7 : Int)) := box_cell z10 9 _ rfl
      have g10 : w10.cell? ⟨q, 10, none⟩ = some (.slice B8 B4.length c8) := box_cell z10 10 _ rfl
      have HZ10 := Lib.hid z10
      clear z10
      by_cases hr : rgP X1 X2 B4.length
      · have hDS := Lib.hid (HDD.out.1.2 ⟨hd0, hr⟩)
        have hE := Lib.hid (show decE l = 0 by rw [HDD.out.2.2, if_pos ⟨hd0, hr⟩])
        have HRG := Lib.hid (ranged_any w10 X1 X2 (bt B3) B8 B4.length c8)
        rw [decide_eq_true hr] at HRG
        clear hd0 hr
        go_wp2_with fail
        refine HRG.out.mono ?_
        rintro e w11 ⟨rfl, hb11⟩
        clear HRG g0 g1 g2 g3 g4 g5 g6 g7 g8 g9 g10
        have z11 := heap_below HZ10.out hb11
        have o11 := o10.below hb11
        have e11 : w11.heap[w.heap.size]? = some (.cells #[.int .u8 0, .int .i64 0, .int .u8 0, .int .u8 0, .int .u8 0, .int .u8 0, .int .u8 0, .int .u8 0, .int .u8 0, .int .u8 0, .slice none 0 0] 25 (0, 0)) := heap_below HZ1.out o11.bel
        have zz := set11 (.int .u8 (X1 : Int)) (.int .i64 (X2 : Int)) (.int .u8 (bt B3 0 : Int)) (.int .u8 (bt B3 1 : Int)) (.int .u8 (bt B3 2 : Int)) (.int .u8 (bt B3 3 : Int)) (.int .u8 (bt B3 4 : Int)) (.int .u8 (bt B3 5 : Int)) (.int .u8 (bt B3 6 : Int)) (.int .u8 (bt B3 7 : Int)) (.slice B8 B4.length c8) e11
        have h0 : w11.cell? ⟨q, 0, none⟩ = some (.int .u8 (X1 : Int)) := box_cell z11 0 _ rfl
        have h1 : w11.cell? ⟨q, 1, none⟩ = some (.int .i64 (X2 : Int)) := box_cell z11 1 _ rfl
        have h2 : w11.cell? ⟨q, 2, none⟩ = some (.int .u8 (bt B3 0 : Int)) := box_cell z11 2 _ rfl
        have h3 : w11.cell? ⟨q, 3, none⟩ = some (.int .u8 (bt B3 1 : Int)) := box_cell z11 3 _ rfl
        have h4 : w11.cell? ⟨q, 4, none⟩ = some (.int .u8 (bt B3 2 : Int)) := box_cell z11 4 _ rfl
        have h5 : w11.cell? ⟨q, 5, none⟩ = some (.int .u8 (bt B3 3 : Int)) := box_cell z11 5 _ rfl
        have h6 : w11.cell? ⟨q, 6, none⟩ = some (.int .u8 (bt B3 4 : Int)) := box_cell z11 6 _ rfl
        have h7 : w11.cell? ⟨q, 7, none⟩ = some (.int .u8 (bt B3 5 : Int)) := box_cell z11 7 _ rfl
        have h8 : w11.cell? ⟨q, 8, none⟩ = some (.int .u8 (bt B3 6 : Int)) := box_cell z11 8 _ rfl
        have h9 : w11.cell? ⟨q, 9, none⟩ = some (.int .u8 (bt B3 7 : Int)) := box_cell z11 9 _ rfl
        have h10 : w11.cell? ⟨q, 10, none⟩ = some (.slice B8 B4.length c8) := box_cell z11 10 _ rfl
        have y0 : w11.cell? ⟨w.heap.size, 0, none⟩ = some (.int .u8 0) := box_cell e11 0 _ rfl
        have yf0 := box_free e11 0
        have y1 : w11.cell? ⟨w.heap.size, 1, none⟩ = some (.int .i64 0) := box_cell e11 1 _ rfl
        have yf1 := box_free e11 1
        have y2 : w11.cell? ⟨w.heap.size, 2, none⟩ = some (.int .u8 0) := box_cell e11 2 _ rfl
        have yf2 := box_free e11 2
        have y3 : w11.cell? ⟨w.heap.size, 3, none⟩ = some (.int .u8 0) := box_cell e11 3 _ rfl
        have yf3 := box_free e11 3
        have y4 : w11.cell? ⟨w.heap.size, 4, none⟩ = some (.int .u8 0) := box_cell e11 4 _ rfl
        have yf4 := box_free e11 4
        have y5 : w11.cell? ⟨w.heap.size, 5, none⟩ = some (.int .u8 0) := box_cell e11 5 _ rfl
        have yf5 := box_free e11 5
        have y6 : w11.cell? ⟨w.heap.size, 6, none⟩ = some (.int .u8 0) := box_cell e11 6 _ rfl
        have yf6 := box_free e11 6
        have y7 : w11.cell? ⟨w.heap.size, 7, none⟩ = some (.int .u8 0) := box_cell e11 7 _ rfl
        have yf7 := box_free e11 7
        have y8 : w11.cell? ⟨w.heap.size, 8, none⟩ = some (.int .u8 0) := box_cell e11 8 _ rfl
        have yf8 := box_free e11 8
        have y9 : w11.cell? ⟨w.heap.size, 9, none⟩ = some (.int .u8 0) := box_cell e11 9 _ rfl
        have yf9 := box_free e11 9
        have y10 : w11.cell? ⟨w.heap.size, 10, none⟩ = some (.slice none 0 0) := box_cell e11 10 _ rfl
        have yf10 := box_free e11 10
        have HE11 := Lib.hid e11
        have HZ11 := Lib.hid z11
        clear e11 z11
        go_wp2
        refine bodyPost_ret (results_c2 (P := Try.prog) rfl _ _ _ _ _ _ _ (by rfl) zz.1 Try.underlying25 rfl (by kernel_rfl)) rfl ?_
        have hv := HDD.out.2.1 hDS.out
        refine ⟨B8, B4.length, c8, by rw [hE.out, hv.1, hv.2.1, hv.2.2.1]; rfl, ?_, zz.2.below (hb01.out.trans (o11.bel.mono (by have := hb01.out.size; omega))) (by have := hb01.out.size; have := o11.bel.size; omega) (by simp)⟩
        rw [hv.2.2.2]
        have t11 := own_below HT10.out hb11
        exact own_mono (zz.2.own t11 (fun b hb hm => by have := (t11.lt b hb).1; simp at hm; omega)) (Nat.le_succ _)
      · have hDS := Lib.hid (fun h => hr (HDD.out.1.1 h).2)
        have hE := Lib.hid (show decE l = 90 by rw [HDD.out.2.2, if_neg (fun h => hr h.2)])
        have HRG := Lib.hid (ranged_any w10 X1 X2 (bt B3) B8 B4.length c8)
        rw [decide_eq_false hr] at HRG
        clear hd0 hr
        go_wp2_with fail
        refine HRG.out.mono ?_
        rintro e w11 ⟨rfl, hb11⟩
        clear HRG g0 g1 g2 g3 g4 g5 g6 g7 g8 g9 g10
        have o11 := o10.below hb11
        have e11 : w11.heap[w.heap.size]? = some (.cells #[.int .u8 0, .int .i64 0, .int .u8 0, .int .u8 0, .int .u8 0, .int .u8 0, .int .u8 0, .int .u8 0, .int .u8 0, .int .u8 0, .slice none 0 0] 25 (0, 0)) := heap_below HZ1.out o11.bel
        have zz := set11 (.int .u8 0) (.int .i64 0) (.int .u8 0) (.int .u8 0) (.int .u8 0) (.int .u8 0) (.int .u8 0) (.int .u8 0) (.int .u8 0) (.int .u8 0) (.slice none 0 0) e11
        have y0 : w11.cell? ⟨w.heap.size, 0, none⟩ = some (.int .u8 0) := box_cell e11 0 _ rfl
        have yf0 := box_free e11 0
        have y1 : w11.cell? ⟨w.heap.size, 1, none⟩ = some (.int .i64 0) := box_cell e11 1 _ rfl
        have yf1 := box_free e11 1
        have y2 : w11.cell? ⟨w.heap.size, 2, none⟩ = some (.int .u8 0) := box_cell e11 2 _ rfl
        have yf2 := box_free e11 2
        have y3 : w11.cell? ⟨w.heap.size, 3, none⟩ = some (.int .u8 0) := box_cell e11 3 _ rfl
        have yf3 := box_free e11 3
        have y4 : w11.cell? ⟨w.heap.size, 4, none⟩ = some (.int .u8 0) := box_cell e11 4 _ rfl
        have yf4 := box_free e11 4
        have y5 : w11.cell? ⟨w.heap.size, 5, none⟩ = some (.int .u8 0) := box_cell e11 5 _ rfl
        have yf5 := box_free e11 5
        have y6 : w11.cell? ⟨w.heap.size, 6, none⟩ = some (.int .u8 0) := box_cell e11 6 _ rfl
        have yf6 := box_free e11 6
        have y7 : w11.cell? ⟨w.heap.size, 7, none⟩ = some (.int .u8 0) := box_cell e11 7 _ rfl
        have yf7 := box_free e11 7
        have y8 : w11.cell? ⟨w.heap.size, 8, none⟩ = some (.int .u8 0) := box_cell e11 8 _ rfl
        have yf8 := box_free e11 8
        have y9 : w11.cell? ⟨w.heap.size, 9, none⟩ = some (.int .u8 0) := box_cell e11 9 _ rfl
        have yf9 := box_free e11 9
        have y10 : w11.cell? ⟨w.heap.size, 10, none⟩ = some (.slice none 0 0) := box_cell e11 10 _ rfl
        have yf10 := box_free e11 10
        have HE11 := Lib.hid e11
        clear e11
        go_wp2
        refine bodyPost_ret (results_c2 (P := Try.prog) rfl _ _ _ _ _ _ _ (by rfl) zz.1 Try.underlying25 rfl (by kernel_rfl)) rfl ?_
        exact DecP.no hDS.out hE.out (zz.2.below (hb01.out.trans (o11.bel.mono (by have := hb01.out.size; omega))) (by have := hb01.out.size; have := o11.bel.size; omega) (by simp))
    · have q0 : ((dR : Int) != 0) = true := by simp; omega
      have hDS := Lib.hid (fun h => hd0 (HDD.out.1.1 h).1)
      have hE := Lib.hid (show decE l = 90 by rw [HDD.out.2.2, if_neg (fun h => hd0 h.1)])
      have e11 : w10.heap[w.heap.size]? = some (.cells #[.int .u8 0, .int .i64 0, .int .u8 0, .int .u8 0, .int .u8 0, .int .u8 0, .int .u8 0, .int .u8 0, .int .u8 0, .int .u8 0, .slice none 0 0] 25 (0, 0)) := heap_below HZ1.out o10.bel
      have zz := set11 (.int .u8 0) (.int .i64 0) (.int .u8 0) (.int .u8 0) (.int .u8 0) (.int .u8 0) (.int .u8 0) (.int .u8 0) (.int .u8 0) (.int .u8 0) (.slice none 0 0) e11
      have y0 : w10.cell? ⟨w.heap.size, 0, none⟩ = some (.int .u8 0) := box_cell e11 0 _ rfl
      have yf0 := box_free e11 0
      have y1 : w10.cell? ⟨w.heap.size, 1, none⟩ = some (.int .i64 0) := box_cell e11 1 _ rfl
      have yf1 := box_free e11 1
      have y2 : w10.cell? ⟨w.heap.size, 2, none⟩ = some (.int .u8 0) := box_cell e11 2 _ rfl
      have yf2 := box_free e11 2
      have y3 : w10.cell? ⟨w.heap.size, 3, none⟩ = some (.int .u8 0) := box_cell e11 3 _ rfl
      have yf3 := box_free e11 3
      have y4 : w10.cell? ⟨w.heap.size, 4, none⟩ = some (.int .u8 0) := box_cell e11 4 _ rfl
      have yf4 := box_free e11 4
      have y5 : w10.cell? ⟨w.heap.size, 5, none⟩ = some (.int .u8 0) := box_cell e11 5 _ rfl
      have yf5 := box_free e11 5
      have y6 : w10.cell? ⟨w.heap.size, 6, none⟩ = some (.int .u8 0) := box_cell e11 6 _ rfl
      have yf6 := box_free e11 6
      have y7 : w10.cell? ⟨w.heap.size, 7, none⟩ = some (.int .u8 0) := box_cell e11 7 _ rfl
      have yf7 := box_free e11 7
      have y8 : w10.cell? ⟨w.heap.size, 8, none⟩ = some (.int .u8 0) := box_cell e11 8 _ rfl
      have yf8 := box_free e11 8
      have y9 : w10.cell? ⟨w.heap.size, 9, none⟩ = some (.int .u8 0) := box_cell e11 9 _ rfl
      have yf9 := box_free e11 9
      have y10 : w10.cell? ⟨w.heap.size, 10, none⟩ = some (.slice none 0 0) := box_cell e11 10 _ rfl
      have yf10 := box_free e11 10
      have HE11 := Lib.hid e11
      clear e11 z10 hd0
      go_wp2
      refine bodyPost_ret (results_c2 (P := Try.prog) rfl _ _ _ _ _ _ _ (by rfl) zz.1 Try.underlying25 rfl (by kernel_rfl)) rfl ?_
      exact DecP.no hDS.out hE.out (zz.2.below (hb01.out.trans (o10.bel.mono (by have := hb01.out.size; omega))) (by have := hb01.out.size; have := o10.bel.size; omega) (by simp))
theorem dec33 (w : World) {A : Option Addr} {n c : Nat} {l : List UInt8} (ha : Sl w 1 A n c (l.map by8)) (hn : n ≤ 100000000) : Calls Try.prog 8 #[.slice A n c] w (DecP w l) := by
  by_cases hh : IsHead l
  · by_cases hd : bt l 3 = 12
    · exact dec33_0 w ha hn hh hd
    · exact dec33_91 w ha hh hd
  · exact dec33_90 w ha hh
end Go.Proofs.Ytikjhandhgfohaa
