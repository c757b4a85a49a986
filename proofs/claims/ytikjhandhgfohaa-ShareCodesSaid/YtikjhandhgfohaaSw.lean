import Derived.Test.YtikjhandhgfohaaSw0
set_option linter.unusedVariables false
set_option linter.unusedSimpArgs false
namespace Go.Proofs.Ytikjhandhgfohaa
open Go.RowKit
set_option maxRecDepth 100000 in
set_option maxHeartbeats 6400000 in
theorem ShareCodes_walk (W : World) (x : Nat) (hx : x < 256) (nd : Int) (t : Nat → Nat) (ht : ∀ i, t i < 256) {A Bb : Option Addr} {n c m d : Nat} {l lb : List UInt8} (ha : Sl W 1 A n c (l.map by8)) (hb : Sl W 1 Bb m d (lb.map by8)) :
    Calls Try.prog 3 #[.agg #[.int .u8 x, .int .i64 nd, .int .u8 (t 0), .int .u8 (t 1), .int .u8 (t 2), .int .u8 (t 3), .int .u8 (t 4), .int .u8 (t 5), .int .u8 (t 6), .int .u8 (t 7), .slice A n c], .slice Bb m d] W fun e w' => e = .returned (.bool true) ∧ Below W.heap.size W w' := by
  have hl : l.length = n := by simpa using ha.len
  have hr : lb.length = m := by simpa using hb.len
  have n1 := ha.le; have n2 := ha.max; have m1 := hb.le; have m2 := hb.max
  obtain ⟨W1, hW1⟩ : ∃ W1, W1 = W.alloc (.cells #[.int .u8 x, .int .i64 nd, .int .u8 (t 0), .int .u8 (t 1), .int .u8 (t 2), .int .u8 (t 3), .int .u8 (t 4), .int .u8 (t 5), .int .u8 (t 6), .int .u8 (t 7), .slice A n c] 25) := ⟨_, rfl⟩
  have hB1 : Below W.heap.size W W1 := by rw [hW1]; exact (Below.refl _ W).alloc (Nat.le_refl _) _
  have z1 : W1.heap[W.heap.size]? = some (.cells #[.int .u8 x, .int .i64 nd, .int .u8 (t 0), .int .u8 (t 1), .int .u8 (t 2), .int .u8 (t 3), .int .u8 (t 4), .int .u8 (t 5), .int .u8 (t 6), .int .u8 (t 7), .slice A n c] 25 (0, 0)) := by rw [hW1]; exact heap_alloc_new W _
  have s1 : W1.heap.size = W.heap.size + 1 := by rw [hW1]; simp
  have c10' : W1.cell? ⟨W.heap.size, 10, none⟩ = some (.slice A n c) := box_cell z1 10 _ rfl
  have HW1 := Lib.hid hW1
  by_cases hn : 3000 < n
  · have i0 : (3000 : Int) < (n : Int) := by omega
    clear hn hW1
    go_enter Try.func3, Try.ntmps3
    go_wp2_with (rw [← HW1.out])
    go_ret
    exact ⟨rfl, hB1⟩
  have i0 : decide ((3000 : Int) < (n : Int)) = false := decide_eq_false (by omega)
  by_cases hm : 3000 < m
  · have i1 : (3000 : Int) < (m : Int) := by omega
    clear hn hm hW1
    go_enter Try.func3, Try.ntmps3
    go_wp2_with (rw [← HW1.out])
    go_ret
    exact ⟨rfl, hB1⟩
  have i1 : decide ((3000 : Int) < (m : Int)) = false := decide_eq_false (by omega)
  have HN := Lib.hid (And.intro (show n ≤ 3000 by omega) (And.intro (show m ≤ 3000 by omega) (And.intro hl hr)))
  obtain ⟨W2, hW2⟩ : ∃ W2, W2 = W1.alloc (.cells #[.int .u8 x, .int .i64 nd, .int .u8 (t 0), .int .u8 (t 1), .int .u8 (t 2), .int .u8 (t 3), .int .u8 (t 4), .int .u8 (t 5), .int .u8 (t 6), .int .u8 (t 7), .slice A n c] 25) := ⟨_, rfl⟩
  have z2 : W2.heap[W1.heap.size]? = some (.cells (pcA x nd t A n c) 25 (0, 0)) := by rw [hW2]; exact heap_alloc_new W1 _
  have hB2 : Below W1.heap.size W1 W2 := by rw [hW2]; exact (Below.refl _ W1).alloc (Nat.le_refl _) _
  have HW2 := Lib.hid hW2
  have p0 : W1.cell? ⟨W.heap.size, 0, none⟩ = some (.int .u8 x) := box_cell z1 0 _ rfl
  have p1 : W1.cell? ⟨W.heap.size, 1, none⟩ = some (.int .i64 nd) := box_cell z1 1 _ rfl
  have p2 : W1.cell? ⟨W.heap.size, 2, none⟩ = some (.int .u8 (t 0)) := box_cell z1 2 _ rfl
  have p3 : W1.cell? ⟨W.heap.size, 3, none⟩ = some (.int .u8 (t 1)) := box_cell z1 3 _ rfl
  have p4 : W1.cell? ⟨W.heap.size, 4, none⟩ = some (.int .u8 (t 2)) := box_cell z1 4 _ rfl
  have p5 : W1.cell? ⟨W.heap.size, 5, none⟩ = some (.int .u8 (t 3)) := box_cell z1 5 _ rfl
  have p6 : W1.cell? ⟨W.heap.size, 6, none⟩ = some (.int .u8 (t 4)) := box_cell z1 6 _ rfl
  have p7 : W1.cell? ⟨W.heap.size, 7, none⟩ = some (.int .u8 (t 5)) := box_cell z1 7 _ rfl
  have p8 : W1.cell? ⟨W.heap.size, 8, none⟩ = some (.int .u8 (t 6)) := box_cell z1 8 _ rfl
  have p9 : W1.cell? ⟨W.heap.size, 9, none⟩ = some (.int .u8 (t 7)) := box_cell z1 9 _ rfl
  have p10 : W1.cell? ⟨W.heap.size, 10, none⟩ = some (.slice A n c) := box_cell z1 10 _ rfl
  have fP := Lib.hid (heap_below z1 hB2)
  have fA := Lib.hid ((ha.below hB1).below hB2)
  have fB := Lib.hid ((hb.below hB1).below hB2)
  have fW := Lib.hid (bthen hB1 hB2)
  have s2 : W2.heap.size = W.heap.size + 2 := by rw [hW2]; simp; omega
  have HH := Lib.hid (handed33 W2 x nd t z2 fA.out HN.out.1)
  obtain ⟨Ce, hCe⟩ : ∃ Ce, Ce = encR x nd t l := ⟨_, rfl⟩
  obtain ⟨Ke, hKe⟩ : ∃ Ke, Ke = encE x nd n := ⟨_, rfl⟩
  have HEn : Hid (∀ (w : World) (A : Option Addr) (c : Nat), Sl w 1 A n c (l.map by8) → Calls Try.prog 5 #[.agg #[.int .u8 x, .int .i64 nd, .int .u8 (t 0), .int .u8 (t 1), .int .u8 (t 2), .int .u8 (t 3), .int .u8 (t 4), .int .u8 (t 5), .int .u8 (t 6), .int .u8 (t 7), .slice A n c]] w fun e w' => (∃ A' c', e = .returned (.tuple #[.slice A' Ce.length c', .int .i64 (Ke : Nat)]) ∧ Rw w' w.heap.size w'.heap.size A' c' Ce) ∧ Below w.heap.size w w') := Lib.hid fun w A c hs => (enc33 w x hx nd t ht hs).mono fun e w' ⟨⟨v, he, ho⟩, hb⟩ => by
    rw [← hCe, ← hKe] at *
    obtain ⟨A', c', rfl, hr⟩ := Rw.ofV ho
    exact ⟨⟨A', c', he, hr⟩, hb⟩
  have HRe : Hid (∀ (w : World) (A : Option Addr) (c : Nat), Sl w 1 A n c (l.map by8) → Calls Try.prog 6 #[.agg #[.int .u8 x, .int .i64 nd, .int .u8 (t 0), .int .u8 (t 1), .int .u8 (t 2), .int .u8 (t 3), .int .u8 (t 4), .int .u8 (t 5), .int .u8 (t 6), .int .u8 (t 7), .slice A n c]] w fun e w' => (∃ A' c', e = .returned (.tuple #[.slice A' Ce.length c', .int .i64 (Ke : Nat)]) ∧ Sd w' w.heap.size w'.heap.size A' Ce.length c' Ce) ∧ Below w.heap.size w w') := Lib.hid fun w A c hs => (refEnc33 w x hx nd t ht hs).mono fun e w' ⟨⟨A', mm, c', he, ho, hlo⟩, hb⟩ => by
    rw [← hCe, ← hKe] at *
    obtain rfl : Ce.length = mm := by simpa using ho.len
    exact ⟨⟨A', c', he, Sd.of ho hlo⟩, hb⟩
  obtain ⟨X, Nd, T, L, E, hD, hD2, hLL⟩ := decQ_both lb
  have HD := Lib.hid hD; have HD2 := Lib.hid hD2
  have HLN := Lib.hid (show Ce.length ≤ 1000 ∧ L.length ≤ 64 from ⟨by rw [hCe]; exact encR_len _ _ _ _, hLL⟩)
  obtain ⟨lc, hlc⟩ : ∃ lc : List UInt8, lc = List.replicate m 17 := ⟨_, rfl⟩
  have HLC := Lib.hid hlc
  obtain ⟨X', Nd', T', L', E', hD3, hD4, -⟩ := decQ_both lc
  have HD3 := Lib.hid hD3; have HD4 := Lib.hid hD4
  clear hn hm hW1 hW2 z1 z2 hB1 hB2 c10' ha hb hl hr hD hD2 hD3 hD4 hLL hCe hKe hlc hx ht s1
  obtain ⟨bp, hbp⟩ : ∃ bp, bp = W.heap.size := ⟨_, rfl⟩
  go_enter Try.func3, Try.ntmps3
  go_wp2_with (first | rw [← HW1.out] | rw [← HW2.out])
  refine HH.out.mono ?_
  rintro e w3 ⟨g, C, h, Ch, R, cR, rfl, hP⟩
  obtain ⟨bR, hbR⟩ : ∃ bR, R = some ⟨bR, 0, none⟩ := by
    obtain ⟨q, cq, e, _⟩ := own_form hP.oR (by omega)
    injection e with e1
    exact ⟨q, e1⟩
  subst hbR
  have hC9 : 9 ≤ C := (own_sl' hP.og).2.1.le
  have rC : (0 : Int) < (9 : Int) := by omega
  have fG := Lib.hid hP.og
  have fH := Lib.hid hP.oh
  have fR := Lib.hid hP.oR
  have Z3 := Lib.hid hP.below.size
  have fV := Lib.hid (Below.refl w3.heap.size w3)
  replace fP := Lib.hid (heap_below fP.out hP.below)
  replace fA := Lib.hid (fA.out.below hP.below)
  replace fB := Lib.hid (fB.out.below hP.below)
  replace fW := Lib.hid (bthen fW.out hP.below)
  have fW0 := fW
  clear hP HH p0 p1 p2 p3 p4 p5 p6 p7 p8 p9 p10 HW1 HW2
  have gs : ∀ k v, (pcL x nd t (some ⟨bR, 0, none⟩) n cR)[k]? = some v → w3.cell? ⟨g, k, none⟩ = some v := fun k v hv => by
    obtain ⟨h1, h2⟩ := List.getElem?_eq_some_iff.1 hv
    have h3 := (own_sl' fG.out).2.1.cell k (by rw [List.length_append]; omega)
    rw [List.getElem_append_left h1, h2, Nat.zero_add] at h3
    exact h3
  have p0 : w3.cell? ⟨g, 0, none⟩ = some (.int .u8 x) := gs 0 _ rfl
  have p1 : w3.cell? ⟨g, 1, none⟩ = some (.int .i64 nd) := gs 1 _ rfl
  have p2 : w3.cell? ⟨g, 2, none⟩ = some (.int .u8 (t 0)) := gs 2 _ rfl
  have p3 : w3.cell? ⟨g, 3, none⟩ = some (.int .u8 (t 1)) := gs 3 _ rfl
  have p4 : w3.cell? ⟨g, 4, none⟩ = some (.int .u8 (t 2)) := gs 4 _ rfl
  have p5 : w3.cell? ⟨g, 5, none⟩ = some (.int .u8 (t 3)) := gs 5 _ rfl
  have p6 : w3.cell? ⟨g, 6, none⟩ = some (.int .u8 (t 4)) := gs 6 _ rfl
  have p7 : w3.cell? ⟨g, 7, none⟩ = some (.int .u8 (t 5)) := gs 7 _ rfl
  have p8 : w3.cell? ⟨g, 8, none⟩ = some (.int .u8 (t 6)) := gs 8 _ rfl
  have p9 : w3.cell? ⟨g, 9, none⟩ = some (.int .u8 (t 7)) := gs 9 _ rfl
  have p10 : w3.cell? ⟨g, 10, none⟩ = some (.slice (some ⟨bR, 0, none⟩) n cR) := gs 10 _ rfl
  have sR : Sl w3 1 (some ⟨bR, 0, none⟩) n cR (l.map by8) := by
    have := (own_sl' fR.out).2.1.preB (m := n) (by omega)
    rwa [show (room33 l).take n = l by have := HN.out.2.2.1; unfold room33; rw [List.take_append_of_le_length (by omega), List.take_of_length_le (by omega)]] at this
  have HE4 := Lib.hid (HEn.out w3 _ cR sR)
  clear gs sR
  go_wp2_with fail
  refine HE4.out.mono ?_
  rintro e w4 ⟨⟨AC, cC, rfl, rC4⟩, hb4⟩
  clear HE4 p0 p1 p2 p3 p4 p5 p6 p7 p8 p9 p10
  have fC := Lib.hid rC4
  have Z4 := Lib.hid hb4.size
  replace fP := Lib.hid (heap_below fP.out hb4)
  replace fA := Lib.hid (fA.out.below hb4)
  replace fB := Lib.hid (fB.out.below hb4)
  replace fW := Lib.hid (bthen fW.out hb4)
  replace fG := Lib.hid (own_below fG.out hb4)
  replace fH := Lib.hid (own_below fH.out hb4)
  replace fR := Lib.hid (own_below fR.out hb4)
  replace fV := Lib.hid (bthen fV.out hb4)
  clear hb4 rC4
  have p0 : w4.cell? ⟨W.heap.size, 0, none⟩ = some (.int .u8 x) := box_cell fP.out 0 _ rfl
  have p1 : w4.cell? ⟨W.heap.size, 1, none⟩ = some (.int .i64 nd) := box_cell fP.out 1 _ rfl
  have p2 : w4.cell? ⟨W.heap.size, 2, none⟩ = some (.int .u8 (t 0)) := box_cell fP.out 2 _ rfl
  have p3 : w4.cell? ⟨W.heap.size, 3, none⟩ = some (.int .u8 (t 1)) := box_cell fP.out 3 _ rfl
  have p4 : w4.cell? ⟨W.heap.size, 4, none⟩ = some (.int .u8 (t 2)) := box_cell fP.out 4 _ rfl
  have p5 : w4.cell? ⟨W.heap.size, 5, none⟩ = some (.int .u8 (t 3)) := box_cell fP.out 5 _ rfl
  have p6 : w4.cell? ⟨W.heap.size, 6, none⟩ = some (.int .u8 (t 4)) := box_cell fP.out 6 _ rfl
  have p7 : w4.cell? ⟨W.heap.size, 7, none⟩ = some (.int .u8 (t 5)) := box_cell fP.out 7 _ rfl
  have p8 : w4.cell? ⟨W.heap.size, 8, none⟩ = some (.int .u8 (t 6)) := box_cell fP.out 8 _ rfl
  have p9 : w4.cell? ⟨W.heap.size, 9, none⟩ = some (.int .u8 (t 7)) := box_cell fP.out 9 _ rfl
  have p10 : w4.cell? ⟨W.heap.size, 10, none⟩ = some (.slice A n c) := box_cell fP.out 10 _ rfl
  have HE5 := Lib.hid (HRe.out w4 A c fA.out)
  go_wp2_with fail
  refine HE5.out.mono ?_
  rintro e w5 ⟨⟨AD, cD, rfl, rD5⟩, hb5⟩
  clear HE5 p0 p1 p2 p3 p4 p5 p6 p7 p8 p9 p10
  have fD := Lib.hid rD5
  have Z5 := Lib.hid hb5.size
  replace fP := Lib.hid (heap_below fP.out hb5)
  replace fA := Lib.hid (fA.out.below hb5)
  replace fB := Lib.hid (fB.out.below hb5)
  replace fW := Lib.hid (bthen fW.out hb5)
  replace fG := Lib.hid (own_below fG.out hb5)
  replace fH := Lib.hid (own_below fH.out hb5)
  replace fR := Lib.hid (own_below fR.out hb5)
  replace fV := Lib.hid (bthen fV.out hb5)
  replace fC := Lib.hid (fC.out.below hb5)
  clear hb5 rD5
  have HE6 := Lib.hid (roomy33 w5 fB.out (by have := HN.out; omega))
  go_wp2_with fail
  refine HE6.out.mono ?_
  rintro e w6 ⟨v6, rfl, o6, hb6⟩
  obtain ⟨br, cr, rfl, hbr1, hbr2, hcr⟩ := own_form o6 (by omega)
  have ZR := Lib.hid (And.intro hbr1 hbr2)
  clear HE6
  have fr := Lib.hid o6
  have Z6 := Lib.hid hb6.size
  replace fP := Lib.hid (heap_below fP.out hb6)
  replace fA := Lib.hid (fA.out.below hb6)
  replace fB := Lib.hid (fB.out.below hb6)
  replace fW := Lib.hid (bthen fW.out hb6)
  replace fG := Lib.hid (own_below fG.out hb6)
  replace fH := Lib.hid (own_below fH.out hb6)
  replace fR := Lib.hid (own_below fR.out hb6)
  replace fV := Lib.hid (bthen fV.out hb6)
  replace fC := Lib.hid (fC.out.below hb6)
  replace fD := Lib.hid (fD.out.below hb6)
  clear hb6 o6 hbr1 hbr2
  have sr : Sl w6 1 (some ⟨br, 0, none⟩) m cr (lb.map by8) := by
    have := (own_sl' fr.out).2.1.preB (m := m) (by omega)
    rwa [show (room33 lb).take m = lb by have := HN.out.2.2.2; unfold room33; rw [List.take_append_of_le_length (by omega), List.take_of_length_le (by omega)]] at this
  have HE7 := Lib.hid (HD.out w6 _ m cr sr (by have := HN.out; omega))
  have im0 : (0 : Int) ≤ (m : Int) := by omega
  have imc : (m : Int) ≤ (cr : Int) := by omega
  have im64 : (m : Int) ≤ (m : Int) + 64 := by omega
  clear sr
  go_wp2_with fail
  refine HE7.out.mono ?_
  rintro e w7 ⟨BX, dX, rfl, rX, hb7⟩
  clear HE7
  have Z7 := Lib.hid hb7.size
  replace fP := Lib.hid (heap_below fP.out hb7)
  replace fA := Lib.hid (fA.out.below hb7)
  replace fB := Lib.hid (fB.out.below hb7)
  replace fW := Lib.hid (bthen fW.out hb7)
  replace fG := Lib.hid (own_below fG.out hb7)
  replace fH := Lib.hid (own_below fH.out hb7)
  replace fR := Lib.hid (own_below fR.out hb7)
  replace fV := Lib.hid (bthen fV.out hb7)
  replace fC := Lib.hid (fC.out.below hb7)
  replace fD := Lib.hid (fD.out.below hb7)
  replace fr := Lib.hid (own_below fr.out hb7)
  clear hb7
  obtain ⟨V7, hV7⟩ : ∃ V, V = w7.alloc (.cells #[.int .u8 X, .int .i64 Nd, .int .u8 (T 0), .int .u8 (T 1), .int .u8 (T 2), .int .u8 (T 3), .int .u8 (T 4), .int .u8 (T 5), .int .u8 (T 6), .int .u8 (T 7), .slice BX L.length dX] 25) := ⟨_, rfl⟩
  have kV7 : Below w7.heap.size w7 V7 := by rw [hV7]; exact (Below.refl _ w7).alloc (Nat.le_refl _) _
  have fX := Lib.hid (show Bx V7 w7.heap.size X Nd T w6.heap.size w7.heap.size BX dX L from ⟨by rw [hV7]; exact heap_alloc_new w7 _, rX.below kV7⟩)
  have ZV7 := Lib.hid (show V7.heap.size = w7.heap.size + 1 by rw [hV7]; simp)
  have HV7 := Lib.hid hV7
  replace fP := Lib.hid (heap_below fP.out kV7)
  replace fA := Lib.hid (fA.out.below kV7)
  replace fB := Lib.hid (fB.out.below kV7)
  replace fW := Lib.hid (bthen fW.out kV7)
  replace fG := Lib.hid (own_below fG.out kV7)
  replace fH := Lib.hid (own_below fH.out kV7)
  replace fR := Lib.hid (own_below fR.out kV7)
  replace fV := Lib.hid (bthen fV.out kV7)
  replace fC := Lib.hid (fC.out.below kV7)
  replace fD := Lib.hid (fD.out.below kV7)
  replace fr := Lib.hid (own_below fr.out kV7)
  clear hV7 kV7 rX
  have HE8 := Lib.hid (HD2.out V7 _ m d fB.out (by have := HN.out; omega))
  go_wp2_with (rw [← HV7.out])
  clear HV7
  refine HE8.out.mono ?_
  rintro e w8 ⟨BY, dY, rfl, rY, hb8⟩
  clear HE8
  have Z8 := Lib.hid hb8.size
  replace fP := Lib.hid (heap_below fP.out hb8)
  replace fA := Lib.hid (fA.out.below hb8)
  replace fB := Lib.hid (fB.out.below hb8)
  replace fW := Lib.hid (bthen fW.out hb8)
  replace fG := Lib.hid (own_below fG.out hb8)
  replace fH := Lib.hid (own_below fH.out hb8)
  replace fR := Lib.hid (own_below fR.out hb8)
  replace fV := Lib.hid (bthen fV.out hb8)
  replace fC := Lib.hid (fC.out.below hb8)
  replace fD := Lib.hid (fD.out.below hb8)
  replace fr := Lib.hid (own_below fr.out hb8)
  replace fX := Lib.hid (fX.out.below hb8)
  clear hb8
  obtain ⟨V8, hV8⟩ : ∃ V, V = w8.alloc (.cells #[.int .u8 X, .int .i64 Nd, .int .u8 (T 0), .int .u8 (T 1), .int .u8 (T 2), .int .u8 (T 3), .int .u8 (T 4), .int .u8 (T 5), .int .u8 (T 6), .int .u8 (T 7), .slice BY L.length dY] 25) := ⟨_, rfl⟩
  have kV8 : Below w8.heap.size w8 V8 := by rw [hV8]; exact (Below.refl _ w8).alloc (Nat.le_refl _) _
  have fY := Lib.hid (show Bx V8 w8.heap.size X Nd T V7.heap.size w8.heap.size BY dY L from ⟨by rw [hV8]; exact heap_alloc_new w8 _, rY.below kV8⟩)
  have ZV8 := Lib.hid (show V8.heap.size = w8.heap.size + 1 by rw [hV8]; simp)
  have HV8 := Lib.hid hV8
  replace fP := Lib.hid (heap_below fP.out kV8)
  replace fA := Lib.hid (fA.out.below kV8)
  replace fB := Lib.hid (fB.out.below kV8)
  replace fW := Lib.hid (bthen fW.out kV8)
  replace fG := Lib.hid (own_below fG.out kV8)
  replace fH := Lib.hid (own_below fH.out kV8)
  replace fR := Lib.hid (own_below fR.out kV8)
  replace fV := Lib.hid (bthen fV.out kV8)
  replace fC := Lib.hid (fC.out.below kV8)
  replace fD := Lib.hid (fD.out.below kV8)
  replace fr := Lib.hid (own_below fr.out kV8)
  replace fX := Lib.hid (fX.out.below kV8)
  clear hV8 kV8 rY
  have gs : ∀ k v, (pcL x nd t (some ⟨bR, 0, none⟩) n cR)[k]? = some v → V8.cell? ⟨g, k, none⟩ = some v := fun k v hv => by
    obtain ⟨h1, h2⟩ := List.getElem?_eq_some_iff.1 hv
    have h3 := (own_sl' fG.out).2.1.cell k (by rw [List.length_append]; omega)
    rw [List.getElem_append_left h1, h2, Nat.zero_add] at h3
    exact h3
  have p0 : V8.cell? ⟨g, 0, none⟩ = some (.int .u8 x) := gs 0 _ rfl
  have p1 : V8.cell? ⟨g, 1, none⟩ = some (.int .i64 nd) := gs 1 _ rfl
  have p2 : V8.cell? ⟨g, 2, none⟩ = some (.int .u8 (t 0)) := gs 2 _ rfl
  have p3 : V8.cell? ⟨g, 3, none⟩ = some (.int .u8 (t 1)) := gs 3 _ rfl
  have p4 : V8.cell? ⟨g, 4, none⟩ = some (.int .u8 (t 2)) := gs 4 _ rfl
  have p5 : V8.cell? ⟨g, 5, none⟩ = some (.int .u8 (t 3)) := gs 5 _ rfl
  have p6 : V8.cell? ⟨g, 6, none⟩ = some (.int .u8 (t 4)) := gs 6 _ rfl
  have p7 : V8.cell? ⟨g, 7, none⟩ = some (.int .u8 (t 5)) := gs 7 _ rfl
  have p8 : V8.cell? ⟨g, 8, none⟩ = some (.int .u8 (t 6)) := gs 8 _ rfl
  have p9 : V8.cell? ⟨g, 9, none⟩ = some (.int .u8 (t 7)) := gs 9 _ rfl
  have p10 : V8.cell? ⟨g, 10, none⟩ = some (.slice (some ⟨bR, 0, none⟩) n cR) := gs 10 _ rfl
  have sR : Sl V8 1 (some ⟨bR, 0, none⟩) n cR (l.map by8) := by
    have := (own_sl' fR.out).2.1.preB (m := n) (by omega)
    rwa [show (room33 l).take n = l by have := HN.out.2.2.1; unfold room33; rw [List.take_append_of_le_length (by omega), List.take_of_length_le (by omega)]] at this
  have HE9 := Lib.hid (HEn.out V8 _ cR sR)
  clear gs sR
  go_wp2_with (rw [← HV8.out])
  clear HV8
  refine HE9.out.mono ?_
  rintro e w9 ⟨⟨AC2, cC2, rfl, rC9⟩, hb9⟩
  clear HE9 p0 p1 p2 p3 p4 p5 p6 p7 p8 p9 p10
  have fC2 := Lib.hid rC9
  have Z9 := Lib.hid hb9.size
  replace fP := Lib.hid (heap_below fP.out hb9)
  replace fA := Lib.hid (fA.out.below hb9)
  replace fB := Lib.hid (fB.out.below hb9)
  replace fW := Lib.hid (bthen fW.out hb9)
  replace fG := Lib.hid (own_below fG.out hb9)
  replace fH := Lib.hid (own_below fH.out hb9)
  replace fR := Lib.hid (own_below fR.out hb9)
  replace fV := Lib.hid (bthen fV.out hb9)
  replace fC := Lib.hid (fC.out.below hb9)
  replace fD := Lib.hid (fD.out.below hb9)
  replace fr := Lib.hid (own_below fr.out hb9)
  replace fX := Lib.hid (fX.out.below hb9)
  replace fY := Lib.hid (fY.out.below hb9)
  clear hb9 rC9
  have sr : Sl w9 1 (some ⟨br, 0, none⟩) m cr (lb.map by8) := by
    have := (own_sl' fr.out).2.1.preB (m := m) (by omega)
    rwa [show (room33 lb).take m = lb by have := HN.out.2.2.2; unfold room33; rw [List.take_append_of_le_length (by omega), List.take_of_length_le (by omega)]] at this
  have HE10 := Lib.hid (HD.out w9 _ m cr sr (by have := HN.out; omega))
  clear sr
  go_wp2_with fail
  refine HE10.out.mono ?_
  rintro e w10 ⟨BX2, dX2, rfl, rX2, hb10⟩
  clear HE10
  have Z10 := Lib.hid hb10.size
  replace fP := Lib.hid (heap_below fP.out hb10)
  replace fA := Lib.hid (fA.out.below hb10)
  replace fB := Lib.hid (fB.out.below hb10)
  replace fW := Lib.hid (bthen fW.out hb10)
  replace fG := Lib.hid (own_below fG.out hb10)
  replace fH := Lib.hid (own_below fH.out hb10)
  replace fR := Lib.hid (own_below fR.out hb10)
  replace fV := Lib.hid (bthen fV.out hb10)
  replace fC := Lib.hid (fC.out.below hb10)
  replace fD := Lib.hid (fD.out.below hb10)
  replace fr := Lib.hid (own_below fr.out hb10)
  replace fX := Lib.hid (fX.out.below hb10)
  replace fY := Lib.hid (fY.out.below hb10)
  replace fC2 := Lib.hid (fC2.out.below hb10)
  clear hb10
  obtain ⟨V10, hV10⟩ : ∃ V, V = w10.alloc (.cells #[.int .u8 X, .int .i64 Nd, .int .u8 (T 0), .int .u8 (T 1), .int .u8 (T 2), .int .u8 (T 3), .int .u8 (T 4), .int .u8 (T 5), .int .u8 (T 6), .int .u8 (T 7), .slice BX2 L.length dX2] 25) := ⟨_, rfl⟩
  have kV10 : Below w10.heap.size w10 V10 := by rw [hV10]; exact (Below.refl _ w10).alloc (Nat.le_refl _) _
  have fX2 := Lib.hid (show Bx V10 w10.heap.size X Nd T w9.heap.size w10.heap.size BX2 dX2 L from ⟨by rw [hV10]; exact heap_alloc_new w10 _, rX2.below kV10⟩)
  have ZV10 := Lib.hid (show V10.heap.size = w10.heap.size + 1 by rw [hV10]; simp)
  have HV10 := Lib.hid hV10
  replace fP := Lib.hid (heap_below fP.out kV10)
  replace fA := Lib.hid (fA.out.below kV10)
  replace fB := Lib.hid (fB.out.below kV10)
  replace fW := Lib.hid (bthen fW.out kV10)
  replace fG := Lib.hid (own_below fG.out kV10)
  replace fH := Lib.hid (own_below fH.out kV10)
  replace fR := Lib.hid (own_below fR.out kV10)
  replace fV := Lib.hid (bthen fV.out kV10)
  replace fC := Lib.hid (fC.out.below kV10)
  replace fD := Lib.hid (fD.out.below kV10)
  replace fr := Lib.hid (own_below fr.out kV10)
  replace fX := Lib.hid (fX.out.below kV10)
  replace fY := Lib.hid (fY.out.below kV10)
  replace fC2 := Lib.hid (fC2.out.below kV10)
  clear hV10 kV10 rX2
  have fU := Lib.hid (Below.refl V10.heap.size V10)
  have hke : ((Ke : Int) != (Ke : Int)) = false := by simp
  have hE : ((E : Int) != (E : Int)) = false := by simp
  have HS := Lib.hid (same33_t V10 fC2.out.sl fD.out.sl)
  go_wp2_with (rw [← HV10.out])
  refine HS.out.mono ?_
  rintro e w11 ⟨rfl, hdb⟩
  clear HS HV10
  replace fP := Lib.hid (heap_below fP.out hdb)
  replace fA := Lib.hid (fA.out.below hdb)
  replace fB := Lib.hid (fB.out.below hdb)
  replace fW := Lib.hid (bthen fW.out hdb)
  replace fG := Lib.hid (own_below fG.out hdb)
  replace fH := Lib.hid (own_below fH.out hdb)
  replace fR := Lib.hid (own_below fR.out hdb)
  replace fV := Lib.hid (bthen fV.out hdb)
  replace fC := Lib.hid (fC.out.below hdb)
  replace fD := Lib.hid (fD.out.below hdb)
  replace fr := Lib.hid (own_below fr.out hdb)
  replace fX := Lib.hid (fX.out.below hdb)
  replace fY := Lib.hid (fY.out.below hdb)
  replace fC2 := Lib.hid (fC2.out.below hdb)
  replace fX2 := Lib.hid (fX2.out.below hdb)
  replace fU := Lib.hid (bthen fU.out hdb)
  clear hdb
  have p0 : w11.cell? ⟨w10.heap.size, 0, none⟩ = some (.int .u8 X) := box_cell fX2.out.heap 0 _ rfl
  have p1 : w11.cell? ⟨w10.heap.size, 1, none⟩ = some (.int .i64 Nd) := box_cell fX2.out.heap 1 _ rfl
  have p2 : w11.cell? ⟨w10.heap.size, 2, none⟩ = some (.int .u8 (T 0)) := box_cell fX2.out.heap 2 _ rfl
  have p3 : w11.cell? ⟨w10.heap.size, 3, none⟩ = some (.int .u8 (T 1)) := box_cell fX2.out.heap 3 _ rfl
  have p4 : w11.cell? ⟨w10.heap.size, 4, none⟩ = some (.int .u8 (T 2)) := box_cell fX2.out.heap 4 _ rfl
  have p5 : w11.cell? ⟨w10.heap.size, 5, none⟩ = some (.int .u8 (T 3)) := box_cell fX2.out.heap 5 _ rfl
  have p6 : w11.cell? ⟨w10.heap.size, 6, none⟩ = some (.int .u8 (T 4)) := box_cell fX2.out.heap 6 _ rfl
  have p7 : w11.cell? ⟨w10.heap.size, 7, none⟩ = some (.int .u8 (T 5)) := box_cell fX2.out.heap 7 _ rfl
  have p8 : w11.cell? ⟨w10.heap.size, 8, none⟩ = some (.int .u8 (T 6)) := box_cell fX2.out.heap 8 _ rfl
  have p9 : w11.cell? ⟨w10.heap.size, 9, none⟩ = some (.int .u8 (T 7)) := box_cell fX2.out.heap 9 _ rfl
  have p10 : w11.cell? ⟨w10.heap.size, 10, none⟩ = some (.slice BX2 L.length dX2) := box_cell fX2.out.heap 10 _ rfl
  have q0 : w11.cell? ⟨w8.heap.size, 0, none⟩ = some (.int .u8 X) := box_cell fY.out.heap 0 _ rfl
  have q1 : w11.cell? ⟨w8.heap.size, 1, none⟩ = some (.int .i64 Nd) := box_cell fY.out.heap 1 _ rfl
  have q2 : w11.cell? ⟨w8.heap.size, 2, none⟩ = some (.int .u8 (T 0)) := box_cell fY.out.heap 2 _ rfl
  have q3 : w11.cell? ⟨w8.heap.size, 3, none⟩ = some (.int .u8 (T 1)) := box_cell fY.out.heap 3 _ rfl
  have q4 : w11.cell? ⟨w8.heap.size, 4, none⟩ = some (.int .u8 (T 2)) := box_cell fY.out.heap 4 _ rfl
  have q5 : w11.cell? ⟨w8.heap.size, 5, none⟩ = some (.int .u8 (T 3)) := box_cell fY.out.heap 5 _ rfl
  have q6 : w11.cell? ⟨w8.heap.size, 6, none⟩ = some (.int .u8 (T 4)) := box_cell fY.out.heap 6 _ rfl
  have q7 : w11.cell? ⟨w8.heap.size, 7, none⟩ = some (.int .u8 (T 5)) := box_cell fY.out.heap 7 _ rfl
  have q8 : w11.cell? ⟨w8.heap.size, 8, none⟩ = some (.int .u8 (T 6)) := box_cell fY.out.heap 8 _ rfl
  have q9 : w11.cell? ⟨w8.heap.size, 9, none⟩ = some (.int .u8 (T 7)) := box_cell fY.out.heap 9 _ rfl
  have q10 : w11.cell? ⟨w8.heap.size, 10, none⟩ = some (.slice BY L.length dY) := box_cell fY.out.heap 10 _ rfl
  have HS := Lib.hid (samePiece_like w11 X (Nd : Int) T fX2.out.rw_.sl fY.out.rw_.sl)
  go_wp2_with fail
  refine HS.out.mono ?_
  rintro e w12 ⟨rfl, hdb⟩
  clear HS p0 p1 p2 p3 p4 p5 p6 p7 p8 p9 p10 q0 q1 q2 q3 q4 q5 q6 q7 q8 q9 q10
  replace fP := Lib.hid (heap_below fP.out hdb)
  replace fA := Lib.hid (fA.out.below hdb)
  replace fB := Lib.hid (fB.out.below hdb)
  replace fW := Lib.hid (bthen fW.out hdb)
  replace fG := Lib.hid (own_below fG.out hdb)
  replace fH := Lib.hid (own_below fH.out hdb)
  replace fR := Lib.hid (own_below fR.out hdb)
  replace fV := Lib.hid (bthen fV.out hdb)
  replace fC := Lib.hid (fC.out.below hdb)
  replace fD := Lib.hid (fD.out.below hdb)
  replace fr := Lib.hid (own_below fr.out hdb)
  replace fX := Lib.hid (fX.out.below hdb)
  replace fY := Lib.hid (fY.out.below hdb)
  replace fC2 := Lib.hid (fC2.out.below hdb)
  replace fX2 := Lib.hid (fX2.out.below hdb)
  replace fU := Lib.hid (bthen fU.out hdb)
  clear hdb
  have HS := Lib.hid (same33_t w12 fC.out.sl fD.out.sl)
  go_wp2_with fail
  refine HS.out.mono ?_
  rintro e w13 ⟨rfl, hdb⟩
  clear HS
  replace fP := Lib.hid (heap_below fP.out hdb)
  replace fA := Lib.hid (fA.out.below hdb)
  replace fB := Lib.hid (fB.out.below hdb)
  replace fW := Lib.hid (bthen fW.out hdb)
  replace fG := Lib.hid (own_below fG.out hdb)
  replace fH := Lib.hid (own_below fH.out hdb)
  replace fR := Lib.hid (own_below fR.out hdb)
  replace fV := Lib.hid (bthen fV.out hdb)
  replace fC := Lib.hid (fC.out.below hdb)
  replace fD := Lib.hid (fD.out.below hdb)
  replace fr := Lib.hid (own_below fr.out hdb)
  replace fX := Lib.hid (fX.out.below hdb)
  replace fY := Lib.hid (fY.out.below hdb)
  replace fC2 := Lib.hid (fC2.out.below hdb)
  replace fX2 := Lib.hid (fX2.out.below hdb)
  replace fU := Lib.hid (bthen fU.out hdb)
  clear hdb
  have p0 : w13.cell? ⟨w7.heap.size, 0, none⟩ = some (.int .u8 X) := box_cell fX.out.heap 0 _ rfl
  have p1 : w13.cell? ⟨w7.heap.size, 1, none⟩ = some (.int .i64 Nd) := box_cell fX.out.heap 1 _ rfl
  have p2 : w13.cell? ⟨w7.heap.size, 2, none⟩ = some (.int .u8 (T 0)) := box_cell fX.out.heap 2 _ rfl
  have p3 : w13.cell? ⟨w7.heap.size, 3, none⟩ = some (.int .u8 (T 1)) := box_cell fX.out.heap 3 _ rfl
  have p4 : w13.cell? ⟨w7.heap.size, 4, none⟩ = some (.int .u8 (T 2)) := box_cell fX.out.heap 4 _ rfl
  have p5 : w13.cell? ⟨w7.heap.size, 5, none⟩ = some (.int .u8 (T 3)) := box_cell fX.out.heap 5 _ rfl
  have p6 : w13.cell? ⟨w7.heap.size, 6, none⟩ = some (.int .u8 (T 4)) := box_cell fX.out.heap 6 _ rfl
  have p7 : w13.cell? ⟨w7.heap.size, 7, none⟩ = some (.int .u8 (T 5)) := box_cell fX.out.heap 7 _ rfl
  have p8 : w13.cell? ⟨w7.heap.size, 8, none⟩ = some (.int .u8 (T 6)) := box_cell fX.out.heap 8 _ rfl
  have p9 : w13.cell? ⟨w7.heap.size, 9, none⟩ = some (.int .u8 (T 7)) := box_cell fX.out.heap 9 _ rfl
  have p10 : w13.cell? ⟨w7.heap.size, 10, none⟩ = some (.slice BX L.length dX) := box_cell fX.out.heap 10 _ rfl
  have q0 : w13.cell? ⟨w8.heap.size, 0, none⟩ = some (.int .u8 X) := box_cell fY.out.heap 0 _ rfl
  have q1 : w13.cell? ⟨w8.heap.size, 1, none⟩ = some (.int .i64 Nd) := box_cell fY.out.heap 1 _ rfl
  have q2 : w13.cell? ⟨w8.heap.size, 2, none⟩ = some (.int .u8 (T 0)) := box_cell fY.out.heap 2 _ rfl
  have q3 : w13.cell? ⟨w8.heap.size, 3, none⟩ = some (.int .u8 (T 1)) := box_cell fY.out.heap 3 _ rfl
  have q4 : w13.cell? ⟨w8.heap.size, 4, none⟩ = some (.int .u8 (T 2)) := box_cell fY.out.heap 4 _ rfl
  have q5 : w13.cell? ⟨w8.heap.size, 5, none⟩ = some (.int .u8 (T 3)) := box_cell fY.out.heap 5 _ rfl
  have q6 : w13.cell? ⟨w8.heap.size, 6, none⟩ = some (.int .u8 (T 4)) := box_cell fY.out.heap 6 _ rfl
  have q7 : w13.cell? ⟨w8.heap.size, 7, none⟩ = some (.int .u8 (T 5)) := box_cell fY.out.heap 7 _ rfl
  have q8 : w13.cell? ⟨w8.heap.size, 8, none⟩ = some (.int .u8 (T 6)) := box_cell fY.out.heap 8 _ rfl
  have q9 : w13.cell? ⟨w8.heap.size, 9, none⟩ = some (.int .u8 (T 7)) := box_cell fY.out.heap 9 _ rfl
  have q10 : w13.cell? ⟨w8.heap.size, 10, none⟩ = some (.slice BY L.length dY) := box_cell fY.out.heap 10 _ rfl
  have HS := Lib.hid (samePiece_like w13 X (Nd : Int) T fX.out.rw_.sl fY.out.rw_.sl)
  go_wp2_with fail
  refine HS.out.mono ?_
  rintro e w14 ⟨rfl, hdb⟩
  clear HS p0 p1 p2 p3 p4 p5 p6 p7 p8 p9 p10 q0 q1 q2 q3 q4 q5 q6 q7 q8 q9 q10
  replace fP := Lib.hid (heap_below fP.out hdb)
  replace fA := Lib.hid (fA.out.below hdb)
  replace fB := Lib.hid (fB.out.below hdb)
  replace fW := Lib.hid (bthen fW.out hdb)
  replace fG := Lib.hid (own_below fG.out hdb)
  replace fH := Lib.hid (own_below fH.out hdb)
  replace fR := Lib.hid (own_below fR.out hdb)
  replace fV := Lib.hid (bthen fV.out hdb)
  replace fC := Lib.hid (fC.out.below hdb)
  replace fD := Lib.hid (fD.out.below hdb)
  replace fr := Lib.hid (own_below fr.out hdb)
  replace fX := Lib.hid (fX.out.below hdb)
  replace fY := Lib.hid (fY.out.below hdb)
  replace fC2 := Lib.hid (fC2.out.below hdb)
  replace fX2 := Lib.hid (fX2.out.below hdb)
  replace fU := Lib.hid (bthen fU.out hdb)
  clear hdb
  have HR := Lib.hid (roomy33 w14 fB.out (by have := HN.out; omega))
  go_wp2_with fail
  refine HR.out.mono ?_
  rintro e w15 ⟨v15, rfl, o15, hb15⟩
  obtain ⟨B15, c15, rfl, s15, -⟩ := own_sl o15
  clear HR o15
  replace fP := Lib.hid (heap_below fP.out hb15)
  replace fA := Lib.hid (fA.out.below hb15)
  replace fB := Lib.hid (fB.out.below hb15)
  replace fW := Lib.hid (bthen fW.out hb15)
  replace fG := Lib.hid (own_below fG.out hb15)
  replace fH := Lib.hid (own_below fH.out hb15)
  replace fR := Lib.hid (own_below fR.out hb15)
  replace fV := Lib.hid (bthen fV.out hb15)
  replace fC := Lib.hid (fC.out.below hb15)
  replace fD := Lib.hid (fD.out.below hb15)
  replace fr := Lib.hid (own_below fr.out hb15)
  replace fX := Lib.hid (fX.out.below hb15)
  replace fY := Lib.hid (fY.out.below hb15)
  replace fC2 := Lib.hid (fC2.out.below hb15)
  replace fX2 := Lib.hid (fX2.out.below hb15)
  replace fU := Lib.hid (bthen fU.out hb15)
  clear hb15
  have HS := Lib.hid (same33_t w15 (own_sl' fr.out).2.1 s15)
  go_wp2_with fail
  refine HS.out.mono ?_
  rintro e w16 ⟨rfl, hdb⟩
  clear HS s15
  replace fP := Lib.hid (heap_below fP.out hdb)
  replace fA := Lib.hid (fA.out.below hdb)
  replace fB := Lib.hid (fB.out.below hdb)
  replace fW := Lib.hid (bthen fW.out hdb)
  replace fG := Lib.hid (own_below fG.out hdb)
  replace fH := Lib.hid (own_below fH.out hdb)
  replace fR := Lib.hid (own_below fR.out hdb)
  replace fV := Lib.hid (bthen fV.out hdb)
  replace fC := Lib.hid (fC.out.below hdb)
  replace fD := Lib.hid (fD.out.below hdb)
  replace fr := Lib.hid (own_below fr.out hdb)
  replace fX := Lib.hid (fX.out.below hdb)
  replace fY := Lib.hid (fY.out.below hdb)
  replace fC2 := Lib.hid (fC2.out.below hdb)
  replace fX2 := Lib.hid (fX2.out.below hdb)
  replace fU := Lib.hid (bthen fU.out hdb)
  clear hdb
  have p0 : w16.cell? ⟨W.heap.size, 0, none⟩ = some (.int .u8 x) := box_cell fP.out 0 _ rfl
  have p1 : w16.cell? ⟨W.heap.size, 1, none⟩ = some (.int .i64 nd) := box_cell fP.out 1 _ rfl
  have p2 : w16.cell? ⟨W.heap.size, 2, none⟩ = some (.int .u8 (t 0)) := box_cell fP.out 2 _ rfl
  have p3 : w16.cell? ⟨W.heap.size, 3, none⟩ = some (.int .u8 (t 1)) := box_cell fP.out 3 _ rfl
  have p4 : w16.cell? ⟨W.heap.size, 4, none⟩ = some (.int .u8 (t 2)) := box_cell fP.out 4 _ rfl
  have p5 : w16.cell? ⟨W.heap.size, 5, none⟩ = some (.int .u8 (t 3)) := box_cell fP.out 5 _ rfl
  have p6 : w16.cell? ⟨W.heap.size, 6, none⟩ = some (.int .u8 (t 4)) := box_cell fP.out 6 _ rfl
  have p7 : w16.cell? ⟨W.heap.size, 7, none⟩ = some (.int .u8 (t 5)) := box_cell fP.out 7 _ rfl
  have p8 : w16.cell? ⟨W.heap.size, 8, none⟩ = some (.int .u8 (t 6)) := box_cell fP.out 8 _ rfl
  have p9 : w16.cell? ⟨W.heap.size, 9, none⟩ = some (.int .u8 (t 7)) := box_cell fP.out 9 _ rfl
  have p10 : w16.cell? ⟨W.heap.size, 10, none⟩ = some (.slice A n c) := box_cell fP.out 10 _ rfl
  obtain ⟨V16, hV16⟩ : ∃ V, V = w16.alloc (.cells #[.int .u8 x, .int .i64 nd, .int .u8 (t 0), .int .u8 (t 1), .int .u8 (t 2), .int .u8 (t 3), .int .u8 (t 4), .int .u8 (t 5), .int .u8 (t 6), .int .u8 (t 7), .slice A n c] 25) := ⟨_, rfl⟩
  have kV16 : Below w16.heap.size w16 V16 := by rw [hV16]; exact (Below.refl _ w16).alloc (Nat.le_refl _) _
  have z16 : V16.heap[w16.heap.size]? = some (.cells (pcA x nd t A n c) 25 (0, 0)) := by rw [hV16]; exact heap_alloc_new w16 _
  have HV16 := Lib.hid hV16
  replace fP := Lib.hid (heap_below fP.out kV16)
  replace fA := Lib.hid (fA.out.below kV16)
  replace fB := Lib.hid (fB.out.below kV16)
  replace fW := Lib.hid (bthen fW.out kV16)
  replace fG := Lib.hid (own_below fG.out kV16)
  replace fH := Lib.hid (own_below fH.out kV16)
  replace fR := Lib.hid (own_below fR.out kV16)
  replace fV := Lib.hid (bthen fV.out kV16)
  replace fC := Lib.hid (fC.out.below kV16)
  replace fD := Lib.hid (fD.out.below kV16)
  replace fr := Lib.hid (own_below fr.out kV16)
  replace fX := Lib.hid (fX.out.below kV16)
  replace fY := Lib.hid (fY.out.below kV16)
  replace fC2 := Lib.hid (fC2.out.below kV16)
  replace fX2 := Lib.hid (fX2.out.below kV16)
  replace fU := Lib.hid (bthen fU.out kV16)
  have HL := Lib.hid (left33 V16 x nd t fG.out fH.out fR.out z16 fA.out HN.out.1)
  clear hV16 kV16 z16
  go_wp2_with (rw [← HV16.out])
  refine HL.out.mono ?_
  rintro e w17 ⟨rfl, hb17⟩
  clear HL HV16 p0 p1 p2 p3 p4 p5 p6 p7 p8 p9 p10
  replace fP := Lib.hid (heap_below fP.out hb17)
  replace fA := Lib.hid (fA.out.below hb17)
  replace fB := Lib.hid (fB.out.below hb17)
  replace fW := Lib.hid (bthen fW.out hb17)
  replace fG := Lib.hid (own_below fG.out hb17)
  replace fH := Lib.hid (own_below fH.out hb17)
  replace fR := Lib.hid (own_below fR.out hb17)
  replace fV := Lib.hid (bthen fV.out hb17)
  replace fC := Lib.hid (fC.out.below hb17)
  replace fD := Lib.hid (fD.out.below hb17)
  replace fr := Lib.hid (own_below fr.out hb17)
  replace fX := Lib.hid (fX.out.below hb17)
  replace fY := Lib.hid (fY.out.below hb17)
  replace fC2 := Lib.hid (fC2.out.below hb17)
  replace fX2 := Lib.hid (fX2.out.below hb17)
  replace fU := Lib.hid (bthen fU.out hb17)
  clear hb17
  go_wp2_with fail
  have hE3 : ((E' : Int) == (E' : Int)) = true := by simp
  have H17 := Lib.hid (show (room33 lb).length = m + 64 by have := HN.out.2.2.2; simp [room33]; omega)
  have ZU := Lib.hid fU.out.size
  clear hke hE HEn HRe HD HD2 fP fA fB fG fH fR fU
  go_loopw [21] (fun i wr => ∃ k : Nat, k ≤ m + 64 ∧ i = .int .i64 k ∧ wr.ownsRow w5.heap.size 5 1 (.slice (some ⟨br, 0, none⟩) (m + 64) cr) (m + 64) ((List.replicate k 17 ++ (room33 lb).drop k).map by8) ∧ Keep [br] w17 wr) (fun i _ => m + 64 - (intOf i).toNat)
  case atStart => exact ⟨0, by omega, rfl, by simpa using fr.out, Keep.refl _ _⟩
  case round =>
    clear fr
    obtain ⟨k, hk, rfl, ho, hkp⟩ := hrel
    by_cases hlt : k < m + 64
    · obtain ⟨v0, hc0⟩ := own_cell ho k (by omega)
      have hf0 := ho.frozenAt k
      have hk0 : (0 : Int) ≤ (k : Int) := Int.natCast_nonneg _
      have hk1 : (k : Int) < (m : Int) + 64 := by omega
      have hm3 := HN.out.2.1
      have hs := (ho.stored k (by8 17)).1
      rw [← List.map_set, fill_set _ _ _ (by rw [H17.out]; exact hlt)] at hs
      have HN2 := Lib.hid (And.intro hs (hkp.setCell (p := ⟨br, k, none⟩) (.inl (by simp)) (by8 17)))
      clear ho hkp hs
      go_wp2
      first | go_roundw | refine ⟨?rel, ?measure⟩
      case rel => exact ⟨k + 1, by omega, by go_num, HN2.out.1, HN2.out.2⟩
      case measure => simp [intOf]; omega
    · obtain rfl : k = m + 64 := by omega
      rw [List.drop_of_length_le (by rw [H17.out]; exact Nat.le_refl _), List.append_nil] at ho
      have hik : ((m : Int) + 64) ≤ ((m + 64 : Nat) : Int) := by omega
      have hm1 : ∀ b ∈ [br], b = br := by simp
      have gV := hkp.below fV.out fV.out.size (fun b hb => by rw [hm1 b hb]; have := Z3.out; have := Z4.out; have := Z5.out; have := Z6.out; have := ZR.out; have := Z7.out; have := ZV7.out; have := Z8.out; have := ZV8.out; have := Z9.out; have := Z10.out; have := ZV10.out; have := s2; omega)
      have gW := hkp.below fW.out fW.out.size (fun b hb => by rw [hm1 b hb]; have := Z3.out; have := Z4.out; have := Z5.out; have := Z6.out; have := ZR.out; have := Z7.out; have := ZV7.out; have := Z8.out; have := ZV8.out; have := Z9.out; have := Z10.out; have := ZV10.out; have := s2; omega)
      have gC := fC.out.keep hkp (fun b hb => by rw [hm1 b hb]; have := Z3.out; have := Z4.out; have := Z5.out; have := Z6.out; have := ZR.out; have := Z7.out; have := ZV7.out; have := Z8.out; have := ZV8.out; have := Z9.out; have := Z10.out; have := ZV10.out; have := s2; omega)
      have gD := fD.out.keep hkp (fun b hb => by rw [hm1 b hb]; have := Z3.out; have := Z4.out; have := Z5.out; have := Z6.out; have := ZR.out; have := Z7.out; have := ZV7.out; have := Z8.out; have := ZV8.out; have := Z9.out; have := Z10.out; have := ZV10.out; have := s2; omega)
      have gX := fX.out.keep hkp (fun b hb => by rw [hm1 b hb]; have := Z3.out; have := Z4.out; have := Z5.out; have := Z6.out; have := ZR.out; have := Z7.out; have := ZV7.out; have := Z8.out; have := ZV8.out; have := Z9.out; have := Z10.out; have := ZV10.out; have := s2; omega) (fun hb => by have := hm1 _ hb; have := Z3.out; have := Z4.out; have := Z5.out; have := Z6.out; have := ZR.out; have := Z7.out; have := ZV7.out; have := Z8.out; have := ZV8.out; have := Z9.out; have := Z10.out; have := ZV10.out; have := s2; omega)
      have gY := fY.out.keep hkp (fun b hb => by rw [hm1 b hb]; have := Z3.out; have := Z4.out; have := Z5.out; have := Z6.out; have := ZR.out; have := Z7.out; have := ZV7.out; have := Z8.out; have := ZV8.out; have := Z9.out; have := Z10.out; have := ZV10.out; have := s2; omega) (fun hb => by have := hm1 _ hb; have := Z3.out; have := Z4.out; have := Z5.out; have := Z6.out; have := ZR.out; have := Z7.out; have := ZV7.out; have := Z8.out; have := ZV8.out; have := Z9.out; have := Z10.out; have := ZV10.out; have := s2; omega)
      have gC2 := fC2.out.keep hkp (fun b hb => by rw [hm1 b hb]; have := Z3.out; have := Z4.out; have := Z5.out; have := Z6.out; have := ZR.out; have := Z7.out; have := ZV7.out; have := Z8.out; have := ZV8.out; have := Z9.out; have := Z10.out; have := ZV10.out; have := s2; omega)
      have gX2 := fX2.out.keep hkp (fun b hb => by rw [hm1 b hb]; have := Z3.out; have := Z4.out; have := Z5.out; have := Z6.out; have := ZR.out; have := Z7.out; have := ZV7.out; have := Z8.out; have := ZV8.out; have := Z9.out; have := Z10.out; have := ZV10.out; have := s2; omega) (fun hb => by have := hm1 _ hb; have := Z3.out; have := Z4.out; have := Z5.out; have := Z6.out; have := ZR.out; have := Z7.out; have := ZV7.out; have := Z8.out; have := ZV8.out; have := Z9.out; have := Z10.out; have := ZV10.out; have := s2; omega)
      have sr : Sl wr 1 (some ⟨br, 0, none⟩) m cr (lc.map by8) := by
        have := (own_sl' ho).2.1.preB (m := m) (by omega)
        rwa [show (List.replicate (m + 64) (17 : UInt8)).take m = lc by rw [HLC.out, List.take_replicate]; congr 1; omega] at this
      have ZWR := Lib.hid hkp.size
      clear fV fW fC fD fX fY fC2 fX2 hlt hk
      have fV := Lib.hid gV
      have fW := Lib.hid gW
      have fC := Lib.hid gC
      have fD := Lib.hid gD
      have fX := Lib.hid gX
      have fY := Lib.hid gY
      have fC2 := Lib.hid gC2
      have fX2 := Lib.hid gX2
      have fS := Lib.hid sr
      have HE18 := Lib.hid (HD3.out wr _ m cr sr (by have := HN.out; omega))
      clear gV gW gC gD gX gY gC2 gX2 ho hkp hm1 sr
      go_wp2_with fail
      refine HE18.out.mono ?_
      rintro e w18 ⟨BZ, dZ, rfl, rZ, hb18⟩
      clear HE18
      have Z18 := Lib.hid hb18.size
      replace fV := Lib.hid (bthen fV.out hb18)
      replace fW := Lib.hid (bthen fW.out hb18)
      replace fC := Lib.hid (fC.out.below hb18)
      replace fD := Lib.hid (fD.out.below hb18)
      replace fX := Lib.hid (fX.out.below hb18)
      replace fY := Lib.hid (fY.out.below hb18)
      replace fC2 := Lib.hid (fC2.out.below hb18)
      replace fX2 := Lib.hid (fX2.out.below hb18)
      replace fS := Lib.hid (fS.out.below hb18)
      clear hb18
      obtain ⟨V18, hV18⟩ : ∃ V, V = w18.alloc (.cells #[.int .u8 X', .int .i64 Nd', .int .u8 (T' 0), .int .u8 (T' 1), .int .u8 (T' 2), .int .u8 (T' 3), .int .u8 (T' 4), .int .u8 (T' 5), .int .u8 (T' 6), .int .u8 (T' 7), .slice BZ L'.length dZ] 25) := ⟨_, rfl⟩
      have kV18 : Below w18.heap.size w18 V18 := by rw [hV18]; exact (Below.refl _ w18).alloc (Nat.le_refl _) _
      have fZ := Lib.hid (show Bx V18 w18.heap.size X' Nd' T' wr.heap.size w18.heap.size BZ dZ L' from ⟨by rw [hV18]; exact heap_alloc_new w18 _, rZ.below kV18⟩)
      have ZV18 := Lib.hid (show V18.heap.size = w18.heap.size + 1 by rw [hV18]; simp)
      have HV18 := Lib.hid hV18
      replace fV := Lib.hid (bthen fV.out kV18)
      replace fW := Lib.hid (bthen fW.out kV18)
      replace fC := Lib.hid (fC.out.below kV18)
      replace fD := Lib.hid (fD.out.below kV18)
      replace fX := Lib.hid (fX.out.below kV18)
      replace fY := Lib.hid (fY.out.below kV18)
      replace fC2 := Lib.hid (fC2.out.below kV18)
      replace fX2 := Lib.hid (fX2.out.below kV18)
      replace fS := Lib.hid (fS.out.below kV18)
      clear hV18 kV18 rZ
      have fS18 := fS
      go_wp2_with (first | rw [← HV18.out] | (at_builtin; refine Stopped.out ?_))
      have hm3 := HN.out.2.1
      refine Stopped.mk (ap_own EBw33 rfl (.tmp 149) (.tmp 153) rfl rfl (World.ownsRow_lit (base := V18.heap.size) _ #[] 0 (by simp) (by decide) rfl) rfl (fS.out.alloc _) (u8_one _) (by simp only [maxLen]; omega) (by omega) (by simp) ?_)
      intro v19 w19 o19 hg19 _
      have hb19 : Below V18.heap.size V18 w19 := ((Below.refl _ V18).alloc (Nat.le_refl _) _).grown hg19 (by simp) (fun k hk => (Option.some.inj hk) ▸ Nat.le_refl _)
      rw [List.nil_append, Nat.zero_add] at o19
      obtain ⟨A19, c19, rfl, s19, -⟩ := own_sl o19
      have Z19 := Lib.hid hb19.size
      clear hg19 o19 fS18 fS HV18
      replace fV := Lib.hid (bthen fV.out hb19)
      replace fW := Lib.hid (bthen fW.out hb19)
      replace fC := Lib.hid (fC.out.below hb19)
      replace fD := Lib.hid (fD.out.below hb19)
      replace fX := Lib.hid (fX.out.below hb19)
      replace fY := Lib.hid (fY.out.below hb19)
      replace fC2 := Lib.hid (fC2.out.below hb19)
      replace fX2 := Lib.hid (fX2.out.below hb19)
      replace fZ := Lib.hid (fZ.out.below hb19)
      have HE20 := Lib.hid (HD4.out w19 _ m c19 s19 (by omega))
      clear hb19 s19
      go_wp2_with fail
      refine HE20.out.mono ?_
      rintro e w20 ⟨BQ, dQ, rfl, rQ, hb20⟩
      clear HE20
      have Z20 := Lib.hid hb20.size
      replace fV := Lib.hid (bthen fV.out hb20)
      replace fW := Lib.hid (bthen fW.out hb20)
      replace fC := Lib.hid (fC.out.below hb20)
      replace fD := Lib.hid (fD.out.below hb20)
      replace fX := Lib.hid (fX.out.below hb20)
      replace fY := Lib.hid (fY.out.below hb20)
      replace fC2 := Lib.hid (fC2.out.below hb20)
      replace fX2 := Lib.hid (fX2.out.below hb20)
      replace fZ := Lib.hid (fZ.out.below hb20)
      clear hb20
      obtain ⟨V20, hV20⟩ : ∃ V, V = w20.alloc (.cells #[.int .u8 X', .int .i64 Nd', .int .u8 (T' 0), .int .u8 (T' 1), .int .u8 (T' 2), .int .u8 (T' 3), .int .u8 (T' 4), .int .u8 (T' 5), .int .u8 (T' 6), .int .u8 (T' 7), .slice BQ L'.length dQ] 25) := ⟨_, rfl⟩
      have kV20 : Below w20.heap.size w20 V20 := by rw [hV20]; exact (Below.refl _ w20).alloc (Nat.le_refl _) _
      have fQ := Lib.hid (show Bx V20 w20.heap.size X' Nd' T' w19.heap.size w20.heap.size BQ dQ L' from ⟨by rw [hV20]; exact heap_alloc_new w20 _, rQ.below kV20⟩)
      have ZV20 := Lib.hid (show V20.heap.size = w20.heap.size + 1 by rw [hV20]; simp)
      have HV20 := Lib.hid hV20
      replace fV := Lib.hid (bthen fV.out kV20)
      replace fW := Lib.hid (bthen fW.out kV20)
      replace fC := Lib.hid (fC.out.below kV20)
      replace fD := Lib.hid (fD.out.below kV20)
      replace fX := Lib.hid (fX.out.below kV20)
      replace fY := Lib.hid (fY.out.below kV20)
      replace fC2 := Lib.hid (fC2.out.below kV20)
      replace fX2 := Lib.hid (fX2.out.below kV20)
      replace fZ := Lib.hid (fZ.out.below kV20)
      clear hV20 kV20 rQ
      have fU := Lib.hid (Below.refl V20.heap.size V20)
      have p0 : V20.cell? ⟨w7.heap.size, 0, none⟩ = some (.int .u8 X) := box_cell fX.out.heap 0 _ rfl
      have p1 : V20.cell? ⟨w7.heap.size, 1, none⟩ = some (.int .i64 Nd) := box_cell fX.out.heap 1 _ rfl
      have p2 : V20.cell? ⟨w7.heap.size, 2, none⟩ = some (.int .u8 (T 0)) := box_cell fX.out.heap 2 _ rfl
      have p3 : V20.cell? ⟨w7.heap.size, 3, none⟩ = some (.int .u8 (T 1)) := box_cell fX.out.heap 3 _ rfl
      have p4 : V20.cell? ⟨w7.heap.size, 4, none⟩ = some (.int .u8 (T 2)) := box_cell fX.out.heap 4 _ rfl
      have p5 : V20.cell? ⟨w7.heap.size, 5, none⟩ = some (.int .u8 (T 3)) := box_cell fX.out.heap 5 _ rfl
      have p6 : V20.cell? ⟨w7.heap.size, 6, none⟩ = some (.int .u8 (T 4)) := box_cell fX.out.heap 6 _ rfl
      have p7 : V20.cell? ⟨w7.heap.size, 7, none⟩ = some (.int .u8 (T 5)) := box_cell fX.out.heap 7 _ rfl
      have p8 : V20.cell? ⟨w7.heap.size, 8, none⟩ = some (.int .u8 (T 6)) := box_cell fX.out.heap 8 _ rfl
      have p9 : V20.cell? ⟨w7.heap.size, 9, none⟩ = some (.int .u8 (T 7)) := box_cell fX.out.heap 9 _ rfl
      have p10 : V20.cell? ⟨w7.heap.size, 10, none⟩ = some (.slice BX L.length dX) := box_cell fX.out.heap 10 _ rfl
      have q0 : V20.cell? ⟨w8.heap.size, 0, none⟩ = some (.int .u8 X) := box_cell fY.out.heap 0 _ rfl
      have q1 : V20.cell? ⟨w8.heap.size, 1, none⟩ = some (.int .i64 Nd) := box_cell fY.out.heap 1 _ rfl
      have q2 : V20.cell? ⟨w8.heap.size, 2, none⟩ = some (.int .u8 (T 0)) := box_cell fY.out.heap 2 _ rfl
      have q3 : V20.cell? ⟨w8.heap.size, 3, none⟩ = some (.int .u8 (T 1)) := box_cell fY.out.heap 3 _ rfl
      have q4 : V20.cell? ⟨w8.heap.size, 4, none⟩ = some (.int .u8 (T 2)) := box_cell fY.out.heap 4 _ rfl
      have q5 : V20.cell? ⟨w8.heap.size, 5, none⟩ = some (.int .u8 (T 3)) := box_cell fY.out.heap 5 _ rfl
      have q6 : V20.cell? ⟨w8.heap.size, 6, none⟩ = some (.int .u8 (T 4)) := box_cell fY.out.heap 6 _ rfl
      have q7 : V20.cell? ⟨w8.heap.size, 7, none⟩ = some (.int .u8 (T 5)) := box_cell fY.out.heap 7 _ rfl
      have q8 : V20.cell? ⟨w8.heap.size, 8, none⟩ = some (.int .u8 (T 6)) := box_cell fY.out.heap 8 _ rfl
      have q9 : V20.cell? ⟨w8.heap.size, 9, none⟩ = some (.int .u8 (T 7)) := box_cell fY.out.heap 9 _ rfl
      have q10 : V20.cell? ⟨w8.heap.size, 10, none⟩ = some (.slice BY L.length dY) := box_cell fY.out.heap 10 _ rfl
      have HS := Lib.hid (samePiece_like V20 X (Nd : Int) T fX.out.rw_.sl fY.out.rw_.sl)
      go_wp2_with (rw [← HV20.out])
      refine HS.out.mono ?_
      rintro e w21 ⟨rfl, hdb⟩
      clear HS HV20 p0 p1 p2 p3 p4 p5 p6 p7 p8 p9 p10 q0 q1 q2 q3 q4 q5 q6 q7 q8 q9 q10
      replace fV := Lib.hid (bthen fV.out hdb)
      replace fW := Lib.hid (bthen fW.out hdb)
      replace fC := Lib.hid (fC.out.below hdb)
      replace fD := Lib.hid (fD.out.below hdb)
      replace fX := Lib.hid (fX.out.below hdb)
      replace fY := Lib.hid (fY.out.below hdb)
      replace fC2 := Lib.hid (fC2.out.below hdb)
      replace fX2 := Lib.hid (fX2.out.below hdb)
      replace fZ := Lib.hid (fZ.out.below hdb)
      replace fQ := Lib.hid (fQ.out.below hdb)
      replace fU := Lib.hid (bthen fU.out hdb)
      clear hdb
      have p0 : w21.cell? ⟨w18.heap.size, 0, none⟩ = some (.int .u8 X') := box_cell fZ.out.heap 0 _ rfl
      have p1 : w21.cell? ⟨w18.heap.size, 1, none⟩ = some (.int .i64 Nd') := box_cell fZ.out.heap 1 _ rfl
      have p2 : w21.cell? ⟨w18.heap.size, 2, none⟩ = some (.int .u8 (T' 0)) := box_cell fZ.out.heap 2 _ rfl
      have p3 : w21.cell? ⟨w18.heap.size, 3, none⟩ = some (.int .u8 (T' 1)) := box_cell fZ.out.heap 3 _ rfl
      have p4 : w21.cell? ⟨w18.heap.size, 4, none⟩ = some (.int .u8 (T' 2)) := box_cell fZ.out.heap 4 _ rfl
      have p5 : w21.cell? ⟨w18.heap.size, 5, none⟩ = some (.int .u8 (T' 3)) := box_cell fZ.out.heap 5 _ rfl
      have p6 : w21.cell? ⟨w18.heap.size, 6, none⟩ = some (.int .u8 (T' 4)) := box_cell fZ.out.heap 6 _ rfl
      have p7 : w21.cell? ⟨w18.heap.size, 7, none⟩ = some (.int .u8 (T' 5)) := box_cell fZ.out.heap 7 _ rfl
      have p8 : w21.cell? ⟨w18.heap.size, 8, none⟩ = some (.int .u8 (T' 6)) := box_cell fZ.out.heap 8 _ rfl
      have p9 : w21.cell? ⟨w18.heap.size, 9, none⟩ = some (.int .u8 (T' 7)) := box_cell fZ.out.heap 9 _ rfl
      have p10 : w21.cell? ⟨w18.heap.size, 10, none⟩ = some (.slice BZ L'.length dZ) := box_cell fZ.out.heap 10 _ rfl
      have q0 : w21.cell? ⟨w20.heap.size, 0, none⟩ = some (.int .u8 X') := box_cell fQ.out.heap 0 _ rfl
      have q1 : w21.cell? ⟨w20.heap.size, 1, none⟩ = some (.int .i64 Nd') := box_cell fQ.out.heap 1 _ rfl
      have q2 : w21.cell? ⟨w20.heap.size, 2, none⟩ = some (.int .u8 (T' 0)) := box_cell fQ.out.heap 2 _ rfl
      have q3 : w21.cell? ⟨w20.heap.size, 3, none⟩ = some (.int .u8 (T' 1)) := box_cell fQ.out.heap 3 _ rfl
      have q4 : w21.cell? ⟨w20.heap.size, 4, none⟩ = some (.int .u8 (T' 2)) := box_cell fQ.out.heap 4 _ rfl
      have q5 : w21.cell? ⟨w20.heap.size, 5, none⟩ = some (.int .u8 (T' 3)) := box_cell fQ.out.heap 5 _ rfl
      have q6 : w21.cell? ⟨w20.heap.size, 6, none⟩ = some (.int .u8 (T' 4)) := box_cell fQ.out.heap 6 _ rfl
      have q7 : w21.cell? ⟨w20.heap.size, 7, none⟩ = some (.int .u8 (T' 5)) := box_cell fQ.out.heap 7 _ rfl
      have q8 : w21.cell? ⟨w20.heap.size, 8, none⟩ = some (.int .u8 (T' 6)) := box_cell fQ.out.heap 8 _ rfl
      have q9 : w21.cell? ⟨w20.heap.size, 9, none⟩ = some (.int .u8 (T' 7)) := box_cell fQ.out.heap 9 _ rfl
      have q10 : w21.cell? ⟨w20.heap.size, 10, none⟩ = some (.slice BQ L'.length dQ) := box_cell fQ.out.heap 10 _ rfl
      have HS := Lib.hid (samePiece_like w21 X' (Nd' : Int) T' fZ.out.rw_.sl fQ.out.rw_.sl)
      go_wp2_with fail
      refine HS.out.mono ?_
      rintro e w22 ⟨rfl, hdb⟩
      clear HS p0 p1 p2 p3 p4 p5 p6 p7 p8 p9 p10 q0 q1 q2 q3 q4 q5 q6 q7 q8 q9 q10
      replace fV := Lib.hid (bthen fV.out hdb)
      replace fW := Lib.hid (bthen fW.out hdb)
      replace fC := Lib.hid (fC.out.below hdb)
      replace fD := Lib.hid (fD.out.below hdb)
      replace fX := Lib.hid (fX.out.below hdb)
      replace fY := Lib.hid (fY.out.below hdb)
      replace fC2 := Lib.hid (fC2.out.below hdb)
      replace fX2 := Lib.hid (fX2.out.below hdb)
      replace fZ := Lib.hid (fZ.out.below hdb)
      replace fQ := Lib.hid (fQ.out.below hdb)
      replace fU := Lib.hid (bthen fU.out hdb)
      clear hdb
      have p0 : w22.cell? ⟨w7.heap.size, 0, none⟩ = some (.int .u8 X) := box_cell fX.out.heap 0 _ rfl
      have p1 : w22.cell? ⟨w7.heap.size, 1, none⟩ = some (.int .i64 Nd) := box_cell fX.out.heap 1 _ rfl
      have p2 : w22.cell? ⟨w7.heap.size, 2, none⟩ = some (.int .u8 (T 0)) := box_cell fX.out.heap 2 _ rfl
      have p3 : w22.cell? ⟨w7.heap.size, 3, none⟩ = some (.int .u8 (T 1)) := box_cell fX.out.heap 3 _ rfl
      have p4 : w22.cell? ⟨w7.heap.size, 4, none⟩ = some (.int .u8 (T 2)) := box_cell fX.out.heap 4 _ rfl
      have p5 : w22.cell? ⟨w7.heap.size, 5, none⟩ = some (.int .u8 (T 3)) := box_cell fX.out.heap 5 _ rfl
      have p6 : w22.cell? ⟨w7.heap.size, 6, none⟩ = some (.int .u8 (T 4)) := box_cell fX.out.heap 6 _ rfl
      have p7 : w22.cell? ⟨w7.heap.size, 7, none⟩ = some (.int .u8 (T 5)) := box_cell fX.out.heap 7 _ rfl
      have p8 : w22.cell? ⟨w7.heap.size, 8, none⟩ = some (.int .u8 (T 6)) := box_cell fX.out.heap 8 _ rfl
      have p9 : w22.cell? ⟨w7.heap.size, 9, none⟩ = some (.int .u8 (T 7)) := box_cell fX.out.heap 9 _ rfl
      have p10 : w22.cell? ⟨w7.heap.size, 10, none⟩ = some (.slice BX L.length dX) := box_cell fX.out.heap 10 _ rfl
      have ZW := Lib.hid fU.out.size
      obtain ⟨V22, hV22⟩ : ∃ V, V = w22.alloc (.cells #[.int .u8 0, .int .i64 0, .int .u8 0, .int .u8 0, .int .u8 0, .int .u8 0, .int .u8 0, .int .u8 0, .int .u8 0, .int .u8 0, .slice AC Ce.length cC, .int .u8 X, .int .i64 Nd, .int .u8 (T 0), .int .u8 (T 1), .int .u8 (T 2), .int .u8 (T 3), .int .u8 (T 4), .int .u8 (T 5), .int .u8 (T 6), .int .u8 (T 7), .slice BX L.length dX] 25) := ⟨_, rfl⟩
      have kV : Below w22.heap.size w22 V22 := by rw [hV22]; exact (Below.refl _ w22).alloc (Nat.le_refl _) _
      have z22 : V22.heap[w22.heap.size]? = some (.cells #[.int .u8 0, .int .i64 0, .int .u8 0, .int .u8 0, .int .u8 0, .int .u8 0, .int .u8 0, .int .u8 0, .int .u8 0, .int .u8 0, .slice AC Ce.length cC, .int .u8 X, .int .i64 Nd, .int .u8 (T 0), .int .u8 (T 1), .int .u8 (T 2), .int .u8 (T 3), .int .u8 (T 4), .int .u8 (T 5), .int .u8 (T 6), .int .u8 (T 7), .slice BX L.length dX] 25 (0, 0)) := by rw [hV22]; exact heap_alloc_new w22 _
      have sV22 : V22.heap.size = w22.heap.size + 1 := by rw [hV22]; simp
      have HV22 := Lib.hid hV22
      replace fV := Lib.hid (bthen fV.out kV)
      replace fW := Lib.hid (bthen fW.out kV)
      replace fC := Lib.hid (fC.out.below kV)
      replace fD := Lib.hid (fD.out.below kV)
      replace fX := Lib.hid (fX.out.below kV)
      replace fY := Lib.hid (fY.out.below kV)
      replace fC2 := Lib.hid (fC2.out.below kV)
      replace fX2 := Lib.hid (fX2.out.below kV)
      replace fZ := Lib.hid (fZ.out.below kV)
      replace fQ := Lib.hid (fQ.out.below kV)
      replace fU := Lib.hid (bthen fU.out kV)
      clear hV22 kV
      obtain ⟨XX, hXX⟩ : ∃ XX, XX = List.range' w4.heap.size (w6.heap.size - w4.heap.size) ++ List.range' w7.heap.size (w22.heap.size - w7.heap.size) := ⟨_, rfl⟩
      have hmem : ∀ b, b ∈ XX ↔ (w4.heap.size ≤ b ∧ b < w6.heap.size) ∨ (w7.heap.size ≤ b ∧ b < w22.heap.size) := fun b => by
        rw [hXX, List.mem_append, List.mem_range'_1, List.mem_range'_1]
        have := Z3.out; have := Z4.out; have := Z5.out; have := Z6.out; have := ZR.out; have := Z7.out; have := ZV7.out; have := Z8.out; have := ZV8.out; have := Z9.out; have := Z10.out; have := ZV10.out; have := s2; have := Z18.out; have := ZV18.out; have := Z19.out; have := Z20.out; have := ZV20.out; have := ZW.out; have := ZU.out; have := ZWR.out
        omega
      obtain ⟨I, hI⟩ : ∃ I : World → Prop, I = fun w' => Rw w' V8.heap.size w9.heap.size AC2 cC2 Ce ∧ Sd w' w4.heap.size w5.heap.size AD Ce.length cD Ce ∧ Bx w' w10.heap.size X Nd T w9.heap.size w10.heap.size BX2 dX2 L ∧ Bx w' w8.heap.size X Nd T V7.heap.size w8.heap.size BY dY L := ⟨_, rfl⟩
      have HF : Fr XX I := ⟨fun M w w' hk hM hw => by
        rw [hI] at hw ⊢
        have hM2 : ∀ b ∈ M, ¬ ((w4.heap.size ≤ b ∧ b < w6.heap.size) ∨ (w7.heap.size ≤ b ∧ b < w22.heap.size)) := fun b hb h => hM b hb ((hmem b).2 h)
        have := Z3.out; have := Z4.out; have := Z5.out; have := Z6.out; have := ZR.out; have := Z7.out; have := ZV7.out; have := Z8.out; have := ZV8.out; have := Z9.out; have := Z10.out; have := ZV10.out; have := s2; have := Z18.out; have := ZV18.out; have := Z19.out; have := Z20.out; have := ZV20.out; have := ZW.out; have := ZU.out; have := ZWR.out
        exact ⟨hw.1.keep hk (fun b hb => by have := hM2 b hb; omega), hw.2.1.keep hk (fun b hb => by have := hM2 b hb; omega), hw.2.2.1.keep hk (fun b hb => by have := hM2 b hb; omega) (fun hb => by have := hM2 _ hb; omega), hw.2.2.2.keep hk (fun b hb => by have := hM2 b hb; omega) (fun hb => by have := hM2 _ hb; omega)⟩⟩
      have HX : Hid (AllX w3 V22 5 XX I w22.heap.size [.slice AC Ce.length cC, .slice BX L.length dX] [.slice AC Ce.length cC, .slice BX L.length dX] [Ce, L] 1000) := Lib.hid (by
        have uC := fC.out.up; have lC := fun b hb => (fC.out.own.lt b hb).1
        have uX := fX.out.rw_.up; have lX := fun b hb => (fX.out.rw_.own.lt b hb).1
        have := Z3.out; have := Z4.out; have := Z5.out; have := Z6.out; have := ZR.out; have := Z7.out; have := ZV7.out; have := Z8.out; have := ZV8.out; have := Z9.out; have := Z10.out; have := ZV10.out; have := s2; have := Z18.out; have := ZV18.out; have := Z19.out; have := Z20.out; have := ZV20.out; have := ZW.out; have := ZU.out; have := ZWR.out
        refine ⟨⟨rfl, fun i v r hv hr => ?_, fun i j v u k hv hu hk hk2 => ?_, fun i v k hv hk hx => ?_⟩, ?_, fV.out, fun b hb => ?_, fun j v hv => ?_, fun i v h => h, fun i v b hv hb e => ?_, fun r hr => ?_⟩
        · match i, hv, hr with
          | 0, hv, hr => obtain rfl := Option.some.inj hv; obtain rfl := Option.some.inj hr; exact fC.out.own
          | 1, hv, hr => obtain rfl := Option.some.inj hv; obtain rfl := Option.some.inj hr; exact own_mono fX.out.rw_.own (by omega)
        · match i, j, hv, hu with
          | 0, 0, _, _ => rfl
          | 1, 1, _, _ => rfl
          | 0, 1, hv, hu => obtain rfl := Option.some.inj hv; obtain rfl := Option.some.inj hu; have := uC k hk; have := lX k hk2; omega
          | 1, 0, hv, hu => obtain rfl := Option.some.inj hv; obtain rfl := Option.some.inj hu; have := uC k hk2; have := lX k hk; omega
        · have hx := (hmem k).1 hx
          match i, hv with
          | 0, hv => obtain rfl := Option.some.inj hv; have := uC k hk; have := lC k hk; omega
          | 1, hv => obtain rfl := Option.some.inj hv; have := uX k hk; have := lX k hk; omega
        · rw [hI]; exact ⟨fC2.out, fD.out, fX2.out, fY.out⟩
        · have hx := (hmem b).1 hb
          omega
        · match j, hv with
          | 0, hv => obtain rfl := Option.some.inj hv; exact box_cell z22 10 _ rfl
          | 1, hv => obtain rfl := Option.some.inj hv; exact box_cell z22 21 _ rfl
        · match i, hv with
          | 0, hv => obtain rfl := Option.some.inj hv; have := uC b hb; omega
          | 1, hv => obtain rfl := Option.some.inj hv; have := uX b hb; omega
        · have := HLN.out
          rcases List.mem_cons.1 hr with rfl | hr
          · omega
          · rcases List.mem_cons.1 hr with rfl | hr
            · omega
            · cases hr)
      have HA := Lib.hid (apart33 (cL := 2) V22 HF HX.out (by decide) (n := 2) rfl (by decide))
      have HI := Lib.hid (fun w' (hw : I w') => (show Rw w' V8.heap.size w9.heap.size AC2 cC2 Ce ∧ Sd w' w4.heap.size w5.heap.size AD Ce.length cD Ce ∧ Bx w' w10.heap.size X Nd T w9.heap.size w10.heap.size BX2 dX2 L ∧ Bx w' w8.heap.size X Nd T V7.heap.size w8.heap.size BY dY L by rw [hI] at hw; exact hw))
      clear z22 sV22 hXX hmem hI HF HX
      go_wp2_with (rw [← HV22.out])
      refine HA.out.mono ?_
      rintro e w23 ⟨rfl, hI23, hB23⟩
      obtain ⟨i1, i2, i3, i4⟩ := HI.out _ hI23
      clear HA HI hI23 fC2 fD fX2 fY fX fC fZ fQ fV fW fU HV22 p0 p1 p2 p3 p4 p5 p6 p7 p8 p9 p10
      have fC2 := Lib.hid i1
      have fD := Lib.hid i2
      have fX2 := Lib.hid i3
      have fY := Lib.hid i4
      have fK := Lib.hid hB23
      clear i1 i2 i3 i4 hB23
      have HS := Lib.hid (same33_t w23 fC2.out.sl fD.out.sl)
      go_wp2_with fail
      refine HS.out.mono ?_
      rintro e w24 ⟨rfl, hdb⟩
      clear HS
      replace fC2 := Lib.hid (fC2.out.below hdb)
      replace fD := Lib.hid (fD.out.below hdb)
      replace fX2 := Lib.hid (fX2.out.below hdb)
      replace fY := Lib.hid (fY.out.below hdb)
      replace fK := Lib.hid (bthen fK.out hdb)
      clear hdb
      have p0 : w24.cell? ⟨w10.heap.size, 0, none⟩ = some (.int .u8 X) := box_cell fX2.out.heap 0 _ rfl
      have p1 : w24.cell? ⟨w10.heap.size, 1, none⟩ = some (.int .i64 Nd) := box_cell fX2.out.heap 1 _ rfl
      have p2 : w24.cell? ⟨w10.heap.size, 2, none⟩ = some (.int .u8 (T 0)) := box_cell fX2.out.heap 2 _ rfl
      have p3 : w24.cell? ⟨w10.heap.size, 3, none⟩ = some (.int .u8 (T 1)) := box_cell fX2.out.heap 3 _ rfl
      have p4 : w24.cell? ⟨w10.heap.size, 4, none⟩ = some (.int .u8 (T 2)) := box_cell fX2.out.heap 4 _ rfl
      have p5 : w24.cell? ⟨w10.heap.size, 5, none⟩ = some (.int .u8 (T 3)) := box_cell fX2.out.heap 5 _ rfl
      have p6 : w24.cell? ⟨w10.heap.size, 6, none⟩ = some (.int .u8 (T 4)) := box_cell fX2.out.heap 6 _ rfl
      have p7 : w24.cell? ⟨w10.heap.size, 7, none⟩ = some (.int .u8 (T 5)) := box_cell fX2.out.heap 7 _ rfl
      have p8 : w24.cell? ⟨w10.heap.size, 8, none⟩ = some (.int .u8 (T 6)) := box_cell fX2.out.heap 8 _ rfl
      have p9 : w24.cell? ⟨w10.heap.size, 9, none⟩ = some (.int .u8 (T 7)) := box_cell fX2.out.heap 9 _ rfl
      have p10 : w24.cell? ⟨w10.heap.size, 10, none⟩ = some (.slice BX2 L.length dX2) := box_cell fX2.out.heap 10 _ rfl
      have q0 : w24.cell? ⟨w8.heap.size, 0, none⟩ = some (.int .u8 X) := box_cell fY.out.heap 0 _ rfl
      have q1 : w24.cell? ⟨w8.heap.size, 1, none⟩ = some (.int .i64 Nd) := box_cell fY.out.heap 1 _ rfl
      have q2 : w24.cell? ⟨w8.heap.size, 2, none⟩ = some (.int .u8 (T 0)) := box_cell fY.out.heap 2 _ rfl
      have q3 : w24.cell? ⟨w8.heap.size, 3, none⟩ = some (.int .u8 (T 1)) := box_cell fY.out.heap 3 _ rfl
      have q4 : w24.cell? ⟨w8.heap.size, 4, none⟩ = some (.int .u8 (T 2)) := box_cell fY.out.heap 4 _ rfl
      have q5 : w24.cell? ⟨w8.heap.size, 5, none⟩ = some (.int .u8 (T 3)) := box_cell fY.out.heap 5 _ rfl
      have q6 : w24.cell? ⟨w8.heap.size, 6, none⟩ = some (.int .u8 (T 4)) := box_cell fY.out.heap 6 _ rfl
      have q7 : w24.cell? ⟨w8.heap.size, 7, none⟩ = some (.int .u8 (T 5)) := box_cell fY.out.heap 7 _ rfl
      have q8 : w24.cell? ⟨w8.heap.size, 8, none⟩ = some (.int .u8 (T 6)) := box_cell fY.out.heap 8 _ rfl
      have q9 : w24.cell? ⟨w8.heap.size, 9, none⟩ = some (.int .u8 (T 7)) := box_cell fY.out.heap 9 _ rfl
      have q10 : w24.cell? ⟨w8.heap.size, 10, none⟩ = some (.slice BY L.length dY) := box_cell fY.out.heap 10 _ rfl
      have HS := Lib.hid (samePiece_like w24 X (Nd : Int) T fX2.out.rw_.sl fY.out.rw_.sl)
      go_wp2_with fail
      refine HS.out.mono ?_
      rintro e w25 ⟨rfl, hdb⟩
      clear HS p0 p1 p2 p3 p4 p5 p6 p7 p8 p9 p10 q0 q1 q2 q3 q4 q5 q6 q7 q8 q9 q10
      replace fC2 := Lib.hid (fC2.out.below hdb)
      replace fD := Lib.hid (fD.out.below hdb)
      replace fX2 := Lib.hid (fX2.out.below hdb)
      replace fY := Lib.hid (fY.out.below hdb)
      replace fK := Lib.hid (bthen fK.out hdb)
      clear hdb
      go_wp2
      go_ret
      exact ⟨rfl, fW0.out.trans (fK.out.mono fW0.out.size)⟩
end Go.Proofs.Ytikjhandhgfohaa
