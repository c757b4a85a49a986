import Derived.Test.YtikjhandhgfohaaDc33c
set_option linter.unusedVariables false
set_option linter.unusedSimpArgs false
namespace Go.Proofs.Ytikjhandhgfohaa
open Go.RowKit
def updT (B : List UInt8) (k : Nat) (i : Nat) : Nat := if i < k then bt B i else 0
theorem upd_0 (x : Nat) (nd : Int) (B : List UInt8) (A : Option Addr) (n c : Nat) : pcA x nd (updT B 0) A n c = pcA x nd (fun _ => 0) A n c := rfl
theorem upd_m (x : Nat) (nd : Int) {B : List UInt8} (h : B.length = 8 ∨ B = []) (A : Option Addr) (n c : Nat) : pcA x nd (updT B B.length) A n c = pcA x nd (bt B) A n c := by
  rcases h with h | rfl
  · rw [h]; rfl
  · rfl
theorem upd_set {w : World} {q T : Nat} (x : Nat) (nd : Int) (B : List UInt8) (A : Option Addr) (n c : Nat) : ∀ k, k < 8 → w.heap[q]? = some (.cells (pcA x nd (updT B k) A n c) T (0, 0)) →
    (w.setCell ⟨q, 2 + k, none⟩ (.int .u8 (bt B k : Int))).heap[q]? = some (.cells (pcA x nd (updT B (k + 1)) A n c) T (0, 0)) ∧ w.cell? ⟨q, 2 + k, none⟩ = some (.int .u8 0) := by
  refine bound8 ?_
  exact ⟨fun h => ⟨heap_setCell_same _ q _ _ _ _ h, box_cell h _ _ rfl⟩, fun h => ⟨heap_setCell_same _ q _ _ _ _ h, box_cell h _ _ rfl⟩, fun h => ⟨heap_setCell_same _ q _ _ _ _ h, box_cell h _ _ rfl⟩, fun h => ⟨heap_setCell_same _ q _ _ _ _ h, box_cell h _ _ rfl⟩,
    fun h => ⟨heap_setCell_same _ q _ _ _ _ h, box_cell h _ _ rfl⟩, fun h => ⟨heap_setCell_same _ q _ _ _ _ h, box_cell h _ _ rfl⟩, fun h => ⟨heap_setCell_same _ q _ _ _ _ h, box_cell h _ _ rfl⟩, fun h => ⟨heap_setCell_same _ q _ _ _ _ h, box_cell h _ _ rfl⟩⟩
set_option maxRecDepth 100000 in
set_option maxHeartbeats 3200000 in
theorem refDec33_0 (w : World) {A : Option Addr} {n c : Nat} {l : List UInt8} (ha : Sl w 1 A n c (l.map by8)) (hn : n ≤ 100000000) (hh : IsHead l) (hd : bt l 3 = 12) :
    Calls Try.prog 9 #[.slice A n c] w (DecP w l) := by
  have hl : l.length = n := by simpa using ha.len
  obtain ⟨W0, hW0⟩ : ∃ W0, W0 = w.alloc (.cells #[.int .u8 0, .int .i64 0, .int .u8 0, .int .u8 0, .int .u8 0, .int .u8 0, .int .u8 0, .int .u8 0, .int .u8 0, .int .u8 0, .slice none 0 0] 25) := ⟨_, rfl⟩
  have hb0 : Below w.heap.size w W0 := by rw [hW0]; exact (Below.refl _ w).alloc (Nat.le_refl _) _
  have z0 : W0.heap[w.heap.size]? = some (.cells #[.int .u8 0, .int .i64 0, .int .u8 0, .int .u8 0, .int .u8 0, .int .u8 0, .int .u8 0, .int .u8 0, .int .u8 0, .int .u8 0, .slice none 0 0] 25 (0, 0)) := by rw [hW0]; exact heap_alloc_new w _
  have hs0 : W0.heap.size = w.heap.size + 1 := by rw [hW0]; simp
  have HH := Lib.hid ((refReadHead_any W0 (ha.below hb0)).mono (fun e w1 h => And.intro h.1 (show Below W0.heap.size W0 w1 from h.2 ▸ Below.refl _ _)))
  have h1 := ha.le; have h2 := ha.max
  have HE : Hid (rdE l = 0 ∧ rdD l = 12 ∧ rdN l = 4) := Lib.hid ⟨by rw [rdE, if_pos hh], by rw [rdD, if_pos hh, hd], by rw [rdN, if_pos hh]⟩
  have HI := Lib.hid (And.intro hh hd)
  have h4 : 4 ≤ n := by have := hh.1; omega
  clear hh hd
  rw [HE.out.1, HE.out.2.1, HE.out.2.2] at HH
  go_enter Try.func9, Try.ntmps9
  go_wp2_with (rw [← hW0])
  clear hW0
  refine HH.out.mono ?_
  rintro e w1 ⟨rfl, hb1⟩
  have z1 := heap_below z0 hb1
  have hb01 := Lib.hid (bthen hb0 hb1)
  have HA := Lib.hid ((ha.below hb0).below hb1)
  obtain ⟨l4, hl4⟩ : ∃ l4, l4 = l.drop 4 := ⟨_, rfl⟩
  obtain ⟨X1, a1, f1, hd1⟩ : ∃ x a f, d1 l4 0 = (x, a, f) := ⟨_, _, _, rfl⟩
  obtain ⟨X2, a2, f2, hd2⟩ : ∃ x a f, d2 l4 0 = (x, a, f) := ⟨_, _, _, rfl⟩
  obtain ⟨B3, a3, f3, hd3⟩ : ∃ x a f, d3 l4 0 = (x, a, f) := ⟨_, _, _, rfl⟩
  obtain ⟨B4, a4, f4, hd4⟩ : ∃ x a f, d4 l4 0 = (x, a, f) := ⟨_, _, _, rfl⟩
  have hx1 : X1 < 256 := by have := d1_lt l4 0; rwa [hd1] at this
  have hx2 : X2 < 256 := by have := d2_lt l4 0; rwa [hd2] at this
  have hcv : IntKind.i64.wrap (X2 : Int) = (X2 : Int) := by rw [IntKind.wrap_i64]; omega
  have HLB := Lib.hid (show (B3.length = 8 ∨ B3 = []) ∧ B4.length ≤ 64 by have h3 := d3_len l4 0; have h4 := d4_len l4 0; rw [hd3] at h3; rw [hd4] at h4; exact ⟨h3, h4⟩)
  have HD1 := Lib.hid hd1
  have HD2 := Lib.hid (show d2r l4 a1 f1 = (X2, a2, f2) by rw [← hd2, d2_r, hd1])
  have HD3 := Lib.hid (show d3r l4 a2 f2 = (B3, a3, f3) by rw [← hd3, d3_r, hd2])
  have HD4 := Lib.hid (show d4r l4 a3 f3 = (B4, a4, f4) by rw [← hd4, d4_r, hd3])
  have HDD := Lib.hid (show (decS l ↔ doneR l4 a4 f4 = 0 ∧ rgP X1 X2 B4.length) ∧ (decS l → decX l = X1 ∧ decN l = X2 ∧ decT l = bt B3 ∧ decB l = B4) ∧ decE l = if doneR l4 a4 f4 = 0 ∧ rgP X1 X2 B4.length then 0 else 90 by
    have hk : okD (l.drop 4) 0 ↔ doneR l4 a4 f4 = 0 ∧ rgP X1 X2 B4.length := by unfold okD dD; rw [← hl4, hd1, hd2, hd4]
    have hi := HI.out
    refine ⟨⟨fun h => hk.1 h.2.2, fun h => ⟨hi.1, hi.2, hk.2 h⟩⟩, fun h => ?_, ?_⟩
    · refine ⟨?_, ?_, ?_, ?_⟩
      · rw [decX, if_pos h, ← hl4, hd1]
      · rw [decN, if_pos h, ← hl4, hd2]
      · rw [decT, if_pos h, ← hl4, hd3]
      · rw [decB, if_pos h, ← hl4, hd4]
    · rw [decE, if_neg (fun k => k hi.1), if_neg (fun k => k hi.2)]
      by_cases h : doneR l4 a4 f4 = 0 ∧ rgP X1 X2 B4.length
      · rw [if_pos h, if_pos (hk.2 h)]
      · rw [if_neg h, if_neg (fun k => h (hk.1 k))])
  have SH := Lib.hid (show d1 l 4 = (X1, a1 + 4, f1) ∧ d2r l (a1 + 4) f1 = (X2, a2 + 4, f2) ∧ d3r l (a2 + 4) f2 = (B3, a3 + 4, f3) ∧ d4r l (a3 + 4) f3 = (B4, a4 + 4, f4) ∧ doneR l (a4 + 4) f4 = doneR l4 a4 f4 by
    obtain ⟨g1, g2, g3, g4, g5⟩ := d_sh4 (l := l) (by omega)
    rw [← hl4] at g1 g2 g3 g4 g5
    rw [hd1] at g1; rw [hd2] at g2; rw [hd3] at g3; rw [hd4] at g4
    refine ⟨g1, ?_, ?_, ?_, ?_⟩
    · rw [d2_r, g1] at g2; exact g2
    · rw [d3_r, g2] at g3; exact g3
    · rw [d4_r, g3] at g4; exact g4
    · have e1 : dD l 4 = doneR l (a4 + 4) f4 := by unfold dD; rw [g4]; rfl
      have e2 : dD l4 0 = doneR l4 a4 f4 := by unfold dD; rw [hd4]
      rw [← e1, ← e2]; exact g5)
  have HZ1 := Lib.hid z1
  obtain ⟨w2, hw2⟩ : ∃ w2, w2 = w1.alloc (.cells #[.slice A n c, .int .i64 4, .int .i64 0] 67) := ⟨_, rfl⟩
  have o2 : Ri w1 (w1.heap.size + 1) w2 w1.heap.size l 4 0 := by rw [hw2]; exact ri_new (Below.refl _ w1) HA.out (by omega) 4 h4
  have s2 : w2.heap.size = w1.heap.size + 1 := by rw [hw2]; simp
  obtain ⟨w3, hw3⟩ : ∃ w3, w3 = w2.alloc (.cells #[.int .u8 0, .int .i64 0, .int .u8 0, .int .u8 0, .int .u8 0, .int .u8 0, .int .u8 0, .int .u8 0, .int .u8 0, .int .u8 0, .slice none 0 0] 25) := ⟨_, rfl⟩
  have z3 : w3.heap[w2.heap.size]? = some (.cells #[.int .u8 0, .int .i64 0, .int .u8 0, .int .u8 0, .int .u8 0, .int .u8 0, .int .u8 0, .int .u8 0, .int .u8 0, .int .u8 0, .slice none 0 0] 25 (0, 0)) := by rw [hw3]; exact heap_alloc_new w2 _
  have k3 : Below (w1.heap.size + 1) w2 w3 := by rw [hw3]; exact (Below.refl _ w2).alloc (by omega) _
  have o3 := o2.at k3 (Nat.le_refl _)
  rw [← s2] at o3
  obtain ⟨q, hq⟩ : ∃ q, q = w2.heap.size := ⟨_, rfl⟩
  obtain ⟨p, hp⟩ : ∃ p, p = w1.heap.size := ⟨_, rfl⟩
  have hq1 : w.heap.size < q := by
    have e2 := (Array.getElem?_eq_some_iff.1 HZ1.out).1; omega
  have hqp : p ≠ q := by omega
  have HQP := Lib.hid (And.intro hq1 hqp)
  have HW := Lib.hid (And.intro hw2 hw3)
  have hqh := Lib.hid (And.intro hp hq)
  rw [← hq] at z3 o3
  rw [← hp] at o3
  clear HH z0 ha hb0 z1 hb1 hl4 hd1 hd2 hd3 hd4 hx1 hx2 hw2 hw3 HE hs0 HA hp hq hq1 hqp k3 o2 s2
  go_wp2_with (first | rw [← HW.out.1] | rw [← HW.out.2])
  rw [← hqh.out.1, ← hqh.out.2]
  clear HW hqh
  refine (ri_Byte1 o3 SH.out.1).mono ?_
  rintro e w4 ⟨rfl, o4, k4⟩
  have z4 : w4.heap[q]? = _ := k4.heap z3 (by simpa using fun h => HQP.out.2 h.symm)
  clear z3 o3 k4
  have c0 : w4.cell? ⟨q, 0, none⟩ = some (.int .u8 0) := box_cell z4 0 _ rfl
  have f0 := box_free z4 0
  obtain ⟨w5, hw5⟩ : ∃ w5, w5 = w4.setCell ⟨q, 0, none⟩ (.int .u8 (X1 : Int)) := ⟨_, rfl⟩
  have z5 : w5.heap[q]? = some (.cells (pcA X1 0 (fun _ => 0) none 0 0) 25 (0, 0)) := by rw [hw5]; exact heap_setCell_same _ q 0 _ _ _ z4
  have b5 : Below q w4 w5 := by rw [hw5]; exact ((Keep.refl [q] w4).setCell (p := ⟨q, 0, none⟩) (.inl (by simp)) _).below (Below.refl _ _) (by have := (Array.getElem?_eq_some_iff.1 z4).1; omega) (by simp)
  have o5 := o4.at b5 (Nat.le_refl _)
  have HW5 := Lib.hid hw5
  have HZ5 := Lib.hid z5
  clear z4 b5 o4 z5 hw5
  go_wp2_with (rw [← HW5.out])
  clear c0 f0 HW5
  refine (ri_Byte2 o5 SH.out.2.1).mono ?_
  rintro e w6 ⟨rfl, o6, k6⟩
  have z6 : w6.heap[q]? = some (.cells (pcA X1 0 (fun _ => 0) none 0 0) 25 (0, 0)) := k6.heap HZ5.out (by simpa using fun h => HQP.out.2 h.symm)
  clear HZ5 o5 k6
  have c1 : w6.cell? ⟨q, 1, none⟩ = some (.int .i64 0) := box_cell z6 1 _ rfl
  have f1' := box_free z6 1
  obtain ⟨w7, hw7⟩ : ∃ w7, w7 = w6.setCell ⟨q, 1, none⟩ (.int .i64 (X2 : Int)) := ⟨_, rfl⟩
  have z7 : w7.heap[q]? = some (.cells (pcA X1 (X2 : Int) (fun _ => 0) none 0 0) 25 (0, 0)) := by rw [hw7]; exact heap_setCell_same _ q 1 _ _ _ z6
  have b7 : Below q w6 w7 := by rw [hw7]; exact ((Keep.refl [q] w6).setCell (p := ⟨q, 1, none⟩) (.inl (by simp)) _).below (Below.refl _ _) (by have := (Array.getElem?_eq_some_iff.1 z6).1; omega) (by simp)
  have o7 := o6.at b7 (Nat.le_refl _)
  have HW7 := Lib.hid hw7
  have HZ7 := Lib.hid z7
  clear z6 b7 o6 z7 hw7
  go_wp2_with (rw [← HW7.out])
  clear c1 f1' HW7
  refine (ri_Fixed3 o7 SH.out.2.2.1).mono ?_
  rintro e w8 ⟨v8, rfl, t8, o8, k8⟩
  have z8 : w8.heap[q]? = some (.cells (pcA X1 (X2 : Int) (updT B3 0) none 0 0) 25 (0, 0)) := k8.heap HZ7.out (by simpa using fun h => HQP.out.2 h.symm)
  have t8' := own_mono t8 (show q + 1 ≤ w7.heap.size from (Array.getElem?_eq_some_iff.1 HZ7.out).1)
  obtain ⟨B8, c8, rfl, s8, hB8⟩ := own_sl t8'
  have HS8 := Lib.hid (And.intro s8 hB8)
  have HZ8 := Lib.hid z8
  have HQ8 := Lib.hid (show q < w8.heap.size from (Array.getElem?_eq_some_iff.1 z8).1)
  clear HZ7 o7 k8 t8 t8' s8 hB8 z8
  go_wp2_with fail
  go_loopw [10] (fun i wr => ∃ k : Nat, k ≤ B3.length ∧ i = .int .i64 k ∧ wr.heap[q]? = some (.cells (pcA X1 (X2 : Int) (updT B3 k) none 0 0) 25 (0, 0)) ∧ Keep [q] w8 wr) (fun i _ => B3.length - (intOf i).toNat)
  case atStart => exact ⟨0, Nat.zero_le _, rfl, HZ8.out, Keep.refl _ _⟩
  case round =>
    clear HZ8
    obtain ⟨k, hk, rfl, hz, hkp⟩ := hrel
    by_cases hlt : k < B3.length
    · have hk8 : k < 8 := by rcases HLB.out.1 with h | h; omega; rw [h] at hlt; simp at hlt
      obtain ⟨zn, cz⟩ := upd_set X1 (X2 : Int) B3 none 0 0 k hk8 hz
      have fz := box_free hz (2 + k)
      have sl := HS8.out.1.keep hkp (fun ad e hm => by have := (HS8.out.2 ad e).1; simp at hm; omega)
      obtain ⟨b, off, hB⟩ := sl.form (by omega)
      have HB := Lib.hid hB
      rw [hB] at sl
      have ga := sl.byte k hlt
      obtain ⟨x, hx⟩ : ∃ x, x = bt B3 k := ⟨_, rfl⟩
      rw [← hx] at ga zn
      obtain ⟨wn, hwn⟩ : ∃ wn, wn = wr.setCell ⟨q, 2 + k, none⟩ (.int .u8 (x : Int)) := ⟨_, rfl⟩
      have HN := Lib.hid (show wn.heap[q]? = some (.cells (pcA X1 (X2 : Int) (updT B3 (k + 1)) none 0 0) 25 (0, 0)) ∧ Keep [q] w8 wn from ⟨by rw [hwn]; exact zn, by rw [hwn]; exact hkp.setCell (p := ⟨q, 2 + k, none⟩) (.inl (by simp)) _⟩)
      have HWN := Lib.hid hwn
      have hk0 : (0 : Int) ≤ (k : Int) := Int.natCast_nonneg _
      have hk1 : (k : Int) < (B3.length : Int) := by omega
      have hk2 : (k : Int) < 8 := by omega
      clear hx hwn zn hz hkp sl
      subst hB
      go_wp2_with (rw [← HWN.out])
      clear HWN cz fz ga
      first | go_roundw | refine ⟨?rel, ?measure⟩
      case rel => exact ⟨k + 1, by omega, by go_num, HN.out.1, HN.out.2⟩
      case measure => simp [intOf]; omega
    · obtain rfl : k = B3.length := by omega
      rw [upd_m X1 (X2 : Int) HLB.out.1] at hz
      have oR := o8.at (hkp.below (Below.refl q w8) (by have := HQ8.out; omega) (by simp)) (Nat.le_refl _)
      have HZR := Lib.hid hz
      clear hz hkp hlt HS8
      go_wp2_with fail
      refine (ri_Bytes4 oR SH.out.2.2.2.1).mono ?_
      rintro e w18 ⟨v18, rfl, t18, o18, k18⟩
      obtain ⟨B18, c18, rfl, -, -⟩ := own_sl t18
      have z18 : w18.heap[q]? = some (.cells (pcA X1 X2 (bt B3) none 0 0) 25 (0, 0)) := k18.heap HZR.out (by simpa using fun h => HQP.out.2 h.symm)
      have c20 : w18.cell? ⟨q, 10, none⟩ = some (.slice none 0 0) := box_cell z18 10 _ rfl
      have f10 := box_free z18 10
      have s7q : q < wr.heap.size := (Array.getElem?_eq_some_iff.1 HZR.out).1
      obtain ⟨w19, hw9⟩ : ∃ w19, w19 = w18.setCell ⟨q, 10, none⟩ (.slice B18 B4.length c18) := ⟨_, rfl⟩
      have z19 : w19.heap[q]? = some (.cells (pcA X1 X2 (bt B3) B18 B4.length c18) 25 (0, 0)) := by rw [hw9]; exact heap_setCell_same _ q 10 _ _ _ z18
      have kq : Keep [q] w18 w19 := by rw [hw9]; exact (Keep.refl [q] w18).setCell (p := ⟨q, 10, none⟩) (.inl (by simp)) _
      have bq : Below q w18 w19 := kq.below (Below.refl _ _) (by have := (Array.getElem?_eq_some_iff.1 z18).1; omega) (by simp)
      have t19 := own_mono (kq.own t18 (fun b hb hm => by have := (t18.lt b hb).1; simp at hm; omega)) (show w.heap.size + 1 ≤ wr.heap.size by have := HQP.out.1; omega)
      have o19 := o18.at bq (Nat.le_refl _)
      have HW9 := Lib.hid hw9
      have HT9 := Lib.hid t19
      have HZ9 := Lib.hid z19
      clear hw9 z18 t18 k18 kq bq t19 z19 o18 oR HZR s7q
      go_wp2_with (rw [← HW9.out])
      clear HW9 c20 f10
      refine (ri_Done o19).mono ?_
      rintro e w20 ⟨rfl, o20, hd10⟩
      have z20 := heap_below HZ9.out hd10.below
      have HT10 := Lib.hid (own_below HT9.out hd10.below)
      rw [SH.out.2.2.2.2]
      obtain ⟨dR, hdR⟩ : ∃ d, d = doneR l4 a4 f4 := ⟨_, rfl⟩
      rw [← hdR] at HDD ⊢
      clear HZ9 HT9 o19 hd10 hdR
      by_cases hd0 : dR = 0
      · have q0 : ((dR : Int) != 0) = false := by simp [hd0]
        have g0 : w20.cell? ⟨q, 0, none⟩ = some (.int .u8 (X1 : Int)) := box_cell z20 0 _ rfl
        have g1 : w20.cell? ⟨q, 1, none⟩ = some (.int .i64 (X2 : Int)) := box_cell z20 1 _ rfl
        have g2 : w20.cell? ⟨q, 2, none⟩ = some (.int .u8 (bt B3 0 : Int)) := box_cell z20 2 _ rfl
        have g3 : w20.cell? ⟨q, 3, none⟩ = some (.int .u8 (bt B3 1 : Int)) := box_cell z20 3 _ rfl
        have g4 : w20.cell? ⟨q, 4, none⟩ = some (.int .u8 (bt B3 2 : Int)) := box_cell z20 4 _ rfl
        have g5 : w20.cell? ⟨q, 5, none⟩ = some (.int .u8 (bt B3 3 : Int)) := box_cell z20 5 _ rfl
        have g6 : w20.cell? ⟨q, 6, none⟩ = some (.int .u8 (bt B3 4 : Int)) := box_cell z20 6 _ rfl
        have g7 : w20.cell? ⟨q, 7, none⟩ = some (.int .u8 (bt B3 5 : Int)) := box_cell z20 7 _ rfl
        have g8 : w20.cell? ⟨q, 8, none⟩ = some (.int .u8 (bt B3 6 : Int)) := box_cell z20 8 _ rfl
        have g9 : w20.cell? ⟨q, 9, none⟩ = some (.int .u8 (bt B3 7 : Int)) := box_cell z20 9 _ rfl
        have g10 : w20.cell? ⟨q, 10, none⟩ = some (.slice B18 B4.length c18) := box_cell z20 10 _ rfl
        have HZ10 := Lib.hid z20
        clear z20
        by_cases hr : rgP X1 X2 B4.length
        · have hDS := Lib.hid (HDD.out.1.2 ⟨hd0, hr⟩)
          have hE := Lib.hid (show decE l = 0 by rw [HDD.out.2.2, if_pos ⟨hd0, hr⟩])
          have HRG := Lib.hid (refRanged_any w20 X1 X2 (bt B3) B18 B4.length c18)
          rw [decide_eq_true hr] at HRG
          clear hd0 hr
          go_wp2_with fail
          refine HRG.out.mono ?_
          rintro e w21 ⟨rfl, hb11⟩
          clear HRG g0 g1 g2 g3 g4 g5 g6 g7 g8 g9 g10
          have z21 := heap_below HZ10.out hb11
          have o21 := o20.below hb11
          have e11 : w21.heap[w.heap.size]? = some (.cells #[.int .u8 0, .int .i64 0, .int .u8 0, .int .u8 0, .int .u8 0, .int .u8 0, .int .u8 0, .int .u8 0, .int .u8 0, .int .u8 0, .slice none 0 0] 25 (0, 0)) := heap_below HZ1.out o21.bel
          have zz := set11 (.int .u8 (X1 : Int)) (.int .i64 (X2 : Int)) (.int .u8 (bt B3 0 : Int)) (.int .u8 (bt B3 1 : Int)) (.int .u8 (bt B3 2 : Int)) (.int .u8 (bt B3 3 : Int)) (.int .u8 (bt B3 4 : Int)) (.int .u8 (bt B3 5 : Int)) (.int .u8 (bt B3 6 : Int)) (.int .u8 (bt B3 7 : Int)) (.slice B18 B4.length c18) e11
          have h0 : w21.cell? ⟨q, 0, none⟩ = some (.int .u8 (X1 : Int)) := box_cell z21 0 _ rfl
          have h1 : w21.cell? ⟨q, 1, none⟩ = some (.int .i64 (X2 : Int)) := box_cell z21 1 _ rfl
          have h2 : w21.cell? ⟨q, 2, none⟩ = some (.int .u8 (bt B3 0 : Int)) := box_cell z21 2 _ rfl
          have h3 : w21.cell? ⟨q, 3, none⟩ = some (.int .u8 (bt B3 1 : Int)) := box_cell z21 3 _ rfl
          have h4 : w21.cell? ⟨q, 4, none⟩ = some (.int .u8 (bt B3 2 : Int)) := box_cell z21 4 _ rfl
          have h5 : w21.cell? ⟨q, 5, none⟩ = some (.int .u8 (bt B3 3 : Int)) := box_cell z21 5 _ rfl
          have h6 : w21.cell? ⟨q, 6, none⟩ = some (.int .u8 (bt B3 4 : Int)) := box_cell z21 6 _ rfl
          have h7 : w21.cell? ⟨q, 7, none⟩ = some (.int .u8 (bt B3 5 : Int)) := box_cell z21 7 _ rfl
          have h8 : w21.cell? ⟨q, 8, none⟩ = some (.int .u8 (bt B3 6 : Int)) := box_cell z21 8 _ rfl
          have h9 : w21.cell? ⟨q, 9, none⟩ = some (.int .u8 (bt B3 7 : Int)) := box_cell z21 9 _ rfl
          have h10 : w21.cell? ⟨q, 10, none⟩ = some (.slice B18 B4.length c18) := box_cell z21 10 _ rfl
          have y0 : w21.cell? ⟨w.heap.size, 0, none⟩ = some (.int .u8 0) := box_cell e11 0 _ rfl
          have yf0 := box_free e11 0
          have y1 : w21.cell? ⟨w.heap.size, 1, none⟩ = some (.int .i64 0) := box_cell e11 1 _ rfl
          have yf1 := box_free e11 1
          have y2 : w21.cell? ⟨w.heap.size, 2, none⟩ = some (.int .u8 0) := box_cell e11 2 _ rfl
          have yf2 := box_free e11 2
          have y3 : w21.cell? ⟨w.heap.size, 3, none⟩ = some (.int .u8 0) := box_cell e11 3 _ rfl
          have yf3 := box_free e11 3
          have y4 : w21.cell? ⟨w.heap.size, 4, none⟩ = some (.int .u8 0) := box_cell e11 4 _ rfl
          have yf4 := box_free e11 4
          have y5 : w21.cell? ⟨w.heap.size, 5, none⟩ = some (.int .u8 0) := box_cell e11 5 _ rfl
          have yf5 := box_free e11 5
          have y6 : w21.cell? ⟨w.heap.size, 6, none⟩ = some (.int .u8 0) := box_cell e11 6 _ rfl
          have yf6 := box_free e11 6
          have y7 : w21.cell? ⟨w.heap.size, 7, none⟩ = some (.int .u8 0) := box_cell e11 7 _ rfl
          have yf7 := box_free e11 7
          have y8 : w21.cell? ⟨w.heap.size, 8, none⟩ = some (.int .u8 0) := box_cell e11 8 _ rfl
          have yf8 := box_free e11 8
          have y9 : w21.cell? ⟨w.heap.size, 9, none⟩ = some (.int .u8 0) := box_cell e11 9 _ rfl
          have yf9 := box_free e11 9
          have y10 : w21.cell? ⟨w.heap.size, 10, none⟩ = some (.slice none 0 0) := box_cell e11 10 _ rfl
          have yf10 := box_free e11 10
          have HE11 := Lib.hid e11
          have HZ11 := Lib.hid z21
          clear e11 z21
          go_wp2
          refine bodyPost_ret (results_c2 (P := Try.prog) rfl _ _ _ _ _ _ _ (by rfl) zz.1 Try.underlying25 rfl (by kernel_rfl)) rfl ?_
          have hv := HDD.out.2.1 hDS.out
          refine ⟨B18, B4.length, c18, by rw [hE.out, hv.1, hv.2.1, hv.2.2.1]; rfl, ?_, zz.2.below (hb01.out.trans (o21.bel.mono (by have := hb01.out.size; omega))) (by have := hb01.out.size; have := o21.bel.size; omega) (by simp)⟩
          rw [hv.2.2.2]
          have t21 := own_below HT10.out hb11
          exact own_mono (zz.2.own t21 (fun b hb hm => by have := (t21.lt b hb).1; simp at hm; omega)) (Nat.le_succ _)
        · have hDS := Lib.hid (fun h => hr (HDD.out.1.1 h).2)
          have hE := Lib.hid (show decE l = 90 by rw [HDD.out.2.2, if_neg (fun h => hr h.2)])
          have HRG := Lib.hid (refRanged_any w20 X1 X2 (bt B3) B18 B4.length c18)
          rw [decide_eq_false hr] at HRG
          clear hd0 hr
          go_wp2_with fail
          refine HRG.out.mono ?_
          rintro e w21 ⟨rfl, hb11⟩
          clear HRG g0 g1 g2 g3 g4 g5 g6 g7 g8 g9 g10
          have o21 := o20.below hb11
          have e11 : w21.heap[w.heap.size]? = some (.cells #[.int .u8 0, .int .i64 0, .int .u8 0, .int .u8 0, .int .u8 0, .int .u8 0, .int .u8 0, .int .u8 0, .int .u8 0, .int .u8 0, .slice none 0 0] 25 (0, 0)) := heap_below HZ1.out o21.bel
          have zz := set11 (.int .u8 0) (.int .i64 0) (.int .u8 0) (.int .u8 0) (.int .u8 0) (.int .u8 0) (.int .u8 0) (.int .u8 0) (.int .u8 0) (.int .u8 0) (.slice none 0 0) e11
          have y0 : w21.cell? ⟨w.heap.size, 0, none⟩ = some (.int .u8 0) := box_cell e11 0 _ rfl
          have yf0 := box_free e11 0
          have y1 : w21.cell? ⟨w.heap.size, 1, none⟩ = some (.int .i64 0) := box_cell e11 1 _ rfl
          have yf1 := box_free e11 1
          have y2 : w21.cell? ⟨w.heap.size, 2, none⟩ = some (.int .u8 0) := box_cell e11 2 _ rfl
          have yf2 := box_free e11 2
          have y3 : w21.cell? ⟨w.heap.size, 3, none⟩ = some (.int .u8 0) := box_cell e11 3 _ rfl
          have yf3 := box_free e11 3
          have y4 : w21.cell? ⟨w.heap.size, 4, none⟩ = some (.int .u8 0) := box_cell e11 4 _ rfl
          have yf4 := box_free e11 4
          have y5 : w21.cell? ⟨w.heap.size, 5, none⟩ = some (.int .u8 0) := box_cell e11 5 _ rfl
          have yf5 := box_free e11 5
          have y6 : w21.cell? ⟨w.heap.size, 6, none⟩ = some (.int .u8 0) := box_cell e11 6 _ rfl
          have yf6 := box_free e11 6
          have y7 : w21.cell? ⟨w.heap.size, 7, none⟩ = some (.int .u8 0) := box_cell e11 7 _ rfl
          have yf7 := box_free e11 7
          have y8 : w21.cell? ⟨w.heap.size, 8, none⟩ = some (.int .u8 0) := box_cell e11 8 _ rfl
          have yf8 := box_free e11 8
          have y9 : w21.cell? ⟨w.heap.size, 9, none⟩ = some (.int .u8 0) := box_cell e11 9 _ rfl
          have yf9 := box_free e11 9
          have y10 : w21.cell? ⟨w.heap.size, 10, none⟩ = some (.slice none 0 0) := box_cell e11 10 _ rfl
          have yf10 := box_free e11 10
          have HE11 := Lib.hid e11
          clear e11
          go_wp2
          refine bodyPost_ret (results_c2 (P := Try.prog) rfl _ _ _ _ _ _ _ (by rfl) zz.1 Try.underlying25 rfl (by kernel_rfl)) rfl ?_
          exact DecP.no hDS.out hE.out (zz.2.below (hb01.out.trans (o21.bel.mono (by have := hb01.out.size; omega))) (by have := hb01.out.size; have := o21.bel.size; omega) (by simp))
      · have q0 : ((dR : Int) != 0) = true := by simp; omega
        have hDS := Lib.hid (fun h => hd0 (HDD.out.1.1 h).1)
        have hE := Lib.hid (show decE l = 90 by rw [HDD.out.2.2, if_neg (fun h => hd0 h.1)])
        have e11 : w20.heap[w.heap.size]? = some (.cells #[.int .u8 0, .int .i64 0, .int .u8 0, .int .u8 0, .int .u8 0, .int .u8 0, .int .u8 0, .int .u8 0, .int .u8 0, .int .u8 0, .slice none 0 0] 25 (0, 0)) := heap_below HZ1.out o20.bel
        have zz := set11 (.int .u8 0) (.int .i64 0) (.int .u8 0) (.int .u8 0) (.int .u8 0) (.int .u8 0) (.int .u8 0) (.int .u8 0) (.int .u8 0) (.int .u8 0) (.slice none 0 0) e11
        have y0 : w20.cell? ⟨w.heap.size, 0, none⟩ = some (.int .u8 0) := box_cell e11 0 _ rfl
        have yf0 := box_free e11 0
        have y1 : w20.cell? ⟨w.heap.size, 1, none⟩ = some (.int .i64 0) := box_cell e11 1 _ rfl
        have yf1 := box_free e11 1
        have y2 : w20.cell? ⟨w.heap.size, 2, none⟩ = some (.int .u8 0) := box_cell e11 2 _ rfl
        have yf2 := box_free e11 2
        have y3 : w20.cell? ⟨w.heap.size, 3, none⟩ = some (.int .u8 0) := box_cell e11 3 _ rfl
        have yf3 := box_free e11 3
        have y4 : w20.cell? ⟨w.heap.size, 4, none⟩ = some (.int .u8 0) := box_cell e11 4 _ rfl
        have yf4 := box_free e11 4
        have y5 : w20.cell? ⟨w.heap.size, 5, none⟩ = some (.int .u8 0) := box_cell e11 5 _ rfl
        have yf5 := box_free e11 5
        have y6 : w20.cell? ⟨w.heap.size, 6, none⟩ = some (.int .u8 0) := box_cell e11 6 _ rfl
        have yf6 := box_free e11 6
        have y7 : w20.cell? ⟨w.heap.size, 7, none⟩ = some (.int .u8 0) := box_cell e11 7 _ rfl
        have yf7 := box_free e11 7
        have y8 : w20.cell? ⟨w.heap.size, 8, none⟩ = some (.int .u8 0) := box_cell e11 8 _ rfl
        have yf8 := box_free e11 8
        have y9 : w20.cell? ⟨w.heap.size, 9, none⟩ = some (.int .u8 0) := box_cell e11 9 _ rfl
        have yf9 := box_free e11 9
        have y10 : w20.cell? ⟨w.heap.size, 10, none⟩ = some (.slice none 0 0) := box_cell e11 10 _ rfl
        have yf10 := box_free e11 10
        have HE11 := Lib.hid e11
        clear e11 z20 hd0
        go_wp2
        refine bodyPost_ret (results_c2 (P := Try.prog) rfl _ _ _ _ _ _ _ (by rfl) zz.1 Try.underlying25 rfl (by kernel_rfl)) rfl ?_
        exact DecP.no hDS.out hE.out (zz.2.below (hb01.out.trans (o20.bel.mono (by have := hb01.out.size; omega))) (by have := hb01.out.size; have := o20.bel.size; omega) (by simp))
theorem refDec33 (w : World) {A : Option Addr} {n c : Nat} {l : List UInt8} (ha : Sl w 1 A n c (l.map by8)) (hn : n ≤ 100000000) : Calls Try.prog 9 #[.slice A n c] w (DecP w l) := by
  by_cases hh : IsHead l
  · by_cases hd : bt l 3 = 12
    · exact refDec33_0 w ha hn hh hd
    · exact refDec33_91 w ha hh hd
  · exact refDec33_90 w ha hh
end Go.Proofs.Ytikjhandhgfohaa
