import Derived.Test.YtpjmbhhfpoamnaaRef13c
import Derived.Test.YtpjmbhhfpoamnaaShelfPut
import Derived.Test.YtpjmbhhfpoamnaaFrWhole
set_option linter.unusedVariables false
set_option linter.unusedSimpArgs false
namespace Go.Proofs.Ytpjmbhhfpoamnaa
open Go.RowKit
theorem be4_bt (s k : Nat) (hs : s < 4294967296) (hk : k < 4) : bt (be4 s) (3 - k) = s / 256 ^ k % 256 := by
  rcases (show k = 0 ∨ k = 1 ∨ k = 2 ∨ k = 3 by omega) with rfl | rfl | rfl | rfl <;> simp [be4, bt]
theorem le4_bt (s k : Nat) (hs : s < 4294967296) (hk : k < 4) : bt (le4 s) k = s / 256 ^ k % 256 := by
  rcases (show k = 0 ∨ k = 1 ∨ k = 2 ∨ k = 3 by omega) with rfl | rfl | rfl | rfl <;> simp [le4, bt]
theorem le_bytes (l : List UInt8) (d s : Nat) (hd : d + 4 ≤ l.length) (hs : s < 4294967296) : le ((l.drop d).take 4) = s ↔ ∀ k, k < 4 → bt l (d + k) = s / 256 ^ k % 256 := by
  have hlen : ((l.drop d).take 4).length = 4 := by rw [List.length_take, List.length_drop]; omega
  have hbt : ∀ k, k < 4 → bt ((l.drop d).take 4) k = bt l (d + k) := fun k hk => by
    unfold bt
    rw [List.getElem?_take_of_lt hk, List.getElem?_drop]
  constructor
  · intro e k hk
    have h1 := le_inj _ (le4 s) (by rw [hlen]; simp [le4]) (by rw [e, le_le4 s hs])
    rw [← hbt k hk, h1, le4_bt s k hs hk]
  · intro h
    rw [bt_ext (l := (l.drop d).take 4) (m := le4 s) (by rw [hlen]; simp [le4]) (fun k hk => by rw [hlen] at hk; rw [hbt k hk, h k hk, le4_bt s k hs hk]), le_le4 s hs]
/-- how the document tells a frame: its payload in memory of its own, or none -/
def RPost (w : World) (R : UInt8 × List UInt8 × Int × Nat) (e : Ending) (w' : World) : Prop :=
  ∃ P pc, e = .returned (.tuple #[.agg #[.int .u8 (R.1.toNat : Int), .slice P R.2.1.length pc], .int .i64 R.2.2.1, .int .i64 (R.2.2.2 : Nat)]) ∧ w'.ownsRow w.heap.size 5 1 (.slice P R.2.1.length pc) R.2.1.length (R.2.1.map by8) ∧ Below w.heap.size w w'
theorem RPost.no {w w' : World} {at_ : Int} {t : Nat} (h : Below w.heap.size w w') : RPost w (0, [], at_, t) (.returned (.tuple #[.agg #[.int .u8 0, .slice none 0 0], .int .i64 at_, .int .i64 (t : Int)])) w' :=
  ⟨none, 0, rfl, World.ownsRow_nil .., h⟩
theorem fr_put {w w3 : World} {u v : Value} (hb : w3.heap[w.heap.size]? = some (.cells #[u, v] 70 (0, 0))) (hB : Below w.heap.size w w3) (x y : Value) :
    ((w3.setCell ⟨w.heap.size, 0, none⟩ x).setCell ⟨w.heap.size, 1, none⟩ y).heap[w.heap.size]? = some (.cells #[x, y] 70 (0, 0)) ∧ Below w.heap.size w ((w3.setCell ⟨w.heap.size, 0, none⟩ x).setCell ⟨w.heap.size, 1, none⟩ y) := by
  have k : Keep [w.heap.size] w3 ((w3.setCell ⟨w.heap.size, 0, none⟩ x).setCell ⟨w.heap.size, 1, none⟩ y) := ((Keep.refl _ _).setCell (.inl (by simp)) _).setCell (.inl (by simp)) _
  exact ⟨heap_setCell_same _ w.heap.size 1 _ _ y (heap_setCell_same w3 w.heap.size 0 _ _ x hb), k.below hB hB.size (fun z hz => by simp at hz; omega)⟩
set_option maxRecDepth 100000 in
set_option maxHeartbeats 1600000 in
theorem RefDecode (w : World) {A : Option Addr} {n c : Nat} {l : List UInt8} (h : Sl w 1 A n c (l.map by8)) (at_ : Int) (hn : n ≤ 140737488351232) :
    Calls Try.prog 98 #[.slice A n c, .int .i64 at_] w (RPost w (wholeF l at_)) := by
  have hl : l.length = n := by simpa using h.len
  have hc := h.le; have hcm := h.max
  have hbw : ∀ o o2 : Obj, Below w.heap.size w ((w.alloc o).alloc o2) := fun o o2 => ((Below.refl _ _).alloc (Nat.le_refl _) o).alloc (by simp) o2
  by_cases h0 : at_ < 0
  · have HR : Hid (wholeF l at_ = (0, [], at_, 1)) := Lib.hid (by rw [wholeF, if_pos (.inl h0)])
    rw [HR.out]
    clear HR h hl
    go_enter Try.func98, Try.ntmps98
    go_wp2
    refine bodyPost_ret (results_k3 (P := Try.prog) rfl _ _ _ _ _ _ _ (by rfl) (heap_new1 _ _ _) Try.underlying70 rfl (by kernel_rfl)) rfl ?_
    exact RPost.no (hbw _ _)
  have d0 : decide (at_ < 0) = false := decide_eq_false h0
  by_cases h1 : (n : Int) < at_
  · have HR : Hid (wholeF l at_ = (0, [], at_, 1)) := Lib.hid (by rw [wholeF, if_pos (.inr (by omega))])
    rw [HR.out]
    clear HR h hl h0
    go_enter Try.func98, Try.ntmps98
    go_wp2
    refine bodyPost_ret (results_k3 (P := Try.prog) rfl _ _ _ _ _ _ _ (by rfl) (heap_new1 _ _ _) Try.underlying70 rfl (by kernel_rfl)) rfl ?_
    exact RPost.no (hbw _ _)
  obtain ⟨a, rfl⟩ : ∃ a : Nat, at_ = a := ⟨at_.toNat, by omega⟩
  have d1 : decide ((n : Int) < (a : Int)) = false := decide_eq_false h1
  have han : a ≤ n := by omega
  clear h0 h1 d0
  have hdl : (l.drop a).length = n - a := by rw [List.length_drop, hl]
  by_cases h2 : a = n
  · have HR : Hid (wholeF l a = (0, [], (a : Int), 0)) := Lib.hid (wholeF_no l a 0 (by omega) (by unfold wholeD; rw [if_pos (by omega)]))
    rw [HR.out]
    subst h2
    clear HR h hl hdl
    go_enter Try.func98, Try.ntmps98
    go_wp2
    refine bodyPost_ret (results_k3 (P := Try.prog) rfl _ _ _ _ _ _ _ (by rfl) (heap_new1 _ _ _) Try.underlying70 rfl (by kernel_rfl)) rfl ?_
    exact RPost.no (hbw _ _)
  have d2 : ((n : Int) - (a : Int) == 0) = false := by simp; omega
  have i2 : (a : Int) < (n : Int) := by omega
  have i0 : (0 : Int) ≤ (a : Int) := by omega
  obtain ⟨b, off, rfl⟩ := h.form (by omega)
  have gm := h.byte a (by omega)
  have hD0 : (l.drop a).getD 0 0 = UInt8.ofNat (bt l a) := by
    rw [List.getD_eq_getElem?_getD, List.getElem?_drop, Nat.add_zero]
    unfold bt
    rw [List.getElem?_eq_getElem (show a < l.length by omega)]
    simp
  have hbt := bt_lt l a
  obtain ⟨m, hm⟩ : ∃ m, m = bt l a := ⟨_, rfl⟩
  rw [← hm] at gm hD0 hbt
  clear hm
  have HD := Lib.hid (And.intro hdl (And.intro hl (And.intro hD0 h)))
  clear hdl hl hD0 h
  have gm' := cell_below gm (hbw (.cells #[.int .u8 0, .slice none 0 0] 70) (.cells #[.int .u8 0, .slice none 0 0] 70))
  by_cases h3 : m ≠ 165
  · have HR : Hid (wholeF l a = (0, [], (a : Int), 4)) := Lib.hid (wholeF_no l a 4 (by rw [HD.out.2.1]; omega) (by
      unfold wholeD
      rw [HD.out.1, if_neg (by omega), HD.out.2.2.1, if_pos (fun e => h3 (by have := congrArg UInt8.toNat e; simp at this; omega))]))
    rw [HR.out]
    have i3 : ((m : Int) != 165) = true := by simp; omega
    clear HR HD h3 h2
    go_enter Try.func98, Try.ntmps98
    go_wp2
    refine bodyPost_ret (results_k3 (P := Try.prog) rfl _ _ _ _ _ _ _ (by rfl) (heap_new1 _ _ _) Try.underlying70 rfl (by kernel_rfl)) rfl ?_
    exact RPost.no (hbw _ _)
  obtain rfl : m = 165 := by omega
  have HM : Hid ((l.drop a).getD 0 0 = 0xa5) := Lib.hid (by rw [HD.out.2.2.1]; rfl)
  clear hbt gm h3
  by_cases h4 : n < a + 6
  · have HR : Hid (wholeF l a = (0, [], (a : Int), 1)) := Lib.hid (wholeF_no l a 1 (by rw [HD.out.2.1]; omega) (by
      unfold wholeD
      rw [HD.out.1, if_neg (by omega), HM.out, if_neg (by simp), if_pos (by omega)]))
    rw [HR.out]
    have i4 : (n : Int) - (a : Int) < 6 := by omega
    clear HR h2
    go_enter Try.func98, Try.ntmps98
    go_wp2
    refine bodyPost_ret (results_k3 (P := Try.prog) rfl _ _ _ _ _ _ _ (by rfl) (heap_new1 _ _ _) Try.underlying70 rfl (by kernel_rfl)) rfl ?_
    exact RPost.no (hbw _ _)
  have i4 : (6 : Int) ≤ (n : Int) - (a : Int) := by omega
  obtain ⟨W2, hW2⟩ : ∃ W2, W2 = (w.alloc (.cells #[.int .u8 0, .slice none 0 0] 70)).alloc (.cells #[.int .u8 0, .slice none 0 0] 70) := ⟨_, rfl⟩
  have hb2 := hbw (.cells #[.int .u8 0, .slice none 0 0] 70) (.cells #[.int .u8 0, .slice none 0 0] 70)
  have q4 := heap_new1 w (.cells #[.int .u8 0, .slice none 0 0] 70) (.cells #[.int .u8 0, .slice none 0 0] 70)
  have q7 := heap_new2 w (.cells #[.int .u8 0, .slice none 0 0] 70) (.cells #[.int .u8 0, .slice none 0 0] 70)
  rw [← hW2] at hb2 q4 q7
  have HN0 := number13 W2 (HD.out.2.2.2.below hb2) (a + 2) (by omega)
  rw [show ((a + 2 : Nat) : Int) = (a : Int) + 2 by omega, ← List.drop_drop] at HN0
  have hnb : be (((l.drop a).drop 2).take 4) < 4294967296 := by
    have := be_lt (((l.drop a).drop 2).take 4)
    have h5 : (((l.drop a).drop 2).take 4).length = 4 := by rw [List.length_take, List.length_drop, HD.out.1]; omega
    rw [h5] at this
    exact this
  obtain ⟨R, hR⟩ : ∃ R, R = wholeF l (a : Int) := ⟨_, rfl⟩
  obtain ⟨q, hq⟩ : ∃ q, q = be (((l.drop a).drop 2).take 4) := ⟨_, rfl⟩
  rw [← hq] at HN0 hnb
  have HQ := Lib.hid (And.intro hq hR)
  have HNum := Lib.hid HN0
  have HW := Lib.hid (And.intro hb2 (And.intro q4 q7))
  rw [← hR]
  have ia1 : IntKind.i64.wrap ((a : Int) + 2) = (a : Int) + 2 := by rw [IntKind.wrap_i64]; omega
  clear hq hR HN0 hb2 q4 q7 hbw h2 h4
  go_enter Try.func98, Try.ntmps98
  go_wp2_with (rw [← hW2])
  refine HNum.out.mono ?_
  rintro e w3 ⟨rfl, hd3⟩
  have b4 := (hd3.keep []).heap HW.out.2.1 (by simp)
  have b7 := (hd3.keep []).heap HW.out.2.2 (by simp)
  have c0 := box_cell b7 0 _ rfl
  have c1 := box_cell b7 1 _ rfl
  have e0 := box_cell b4 0 _ rfl
  have e1 := box_cell b4 1 _ rfl
  have f0 := box_free b4 0
  have f1 := box_free b4 1
  have H3 := Lib.hid (And.intro b4 (And.intro b7 (bthen HW.out.1 hd3.below)))
  clear hd3 b4 b7 hW2 gm'
  by_cases h5 : 262144 < q
  · have HR : Hid (R = (0, [], (a : Int), 2)) := Lib.hid (by rw [HQ.out.2]; exact wholeF_no l a 2 (by rw [HD.out.2.1]; omega) (by
      unfold wholeD
      rw [HD.out.1, if_neg (by omega), HM.out, if_neg (by simp), if_neg (by omega), ← HQ.out.1, if_pos h5]))
    have i5 : (262144 : Int) < (q : Int) := by omega
    go_wp2
    refine bodyPost_ret (results_k3 (P := Try.prog) rfl _ _ _ _ _ _ _ (by rfl) (fr_put H3.out.1 H3.out.2.2 _ _).1 Try.underlying70 rfl (by kernel_rfl)) rfl ?_
    rw [HR.out]
    exact RPost.no (fr_put H3.out.1 H3.out.2.2 _ _).2
  have i5 : decide ((262144 : Int) < (q : Int)) = false := decide_eq_false (by omega)
  by_cases h6 : n < a + 10 + q
  · have HR : Hid (R = (0, [], (a : Int), 1)) := Lib.hid (by rw [HQ.out.2]; exact wholeF_no l a 1 (by rw [HD.out.2.1]; omega) (by
      unfold wholeD
      rw [HD.out.1, if_neg (by omega), HM.out, if_neg (by simp), if_neg (by omega), ← HQ.out.1, if_neg h5, if_pos (by omega)]))
    have i6 : (n : Int) - (a : Int) < (q : Int) + 10 := by omega
    go_wp2
    refine bodyPost_ret (results_k3 (P := Try.prog) rfl _ _ _ _ _ _ _ (by rfl) (fr_put H3.out.1 H3.out.2.2 _ _).1 Try.underlying70 rfl (by kernel_rfl)) rfl ?_
    rw [HR.out]
    exact RPost.no (fr_put H3.out.1 H3.out.2.2 _ _).2
  have i6 : (q : Int) + 10 ≤ (n : Int) - (a : Int) := by omega
  have HPC := (HD.out.2.2.2.below H3.out.2.2).piece (a + 1) (5 + q) (by omega)
  have ea6 : ((a : Int) + 6 + (q : Int) - ((a : Int) + 1)).toNat = 5 + q := by omega
  have ic1 : ¬ c = a + 1 := by omega
  have HSM := RefSum _ HPC
  obtain ⟨s, hs⟩ : ∃ s, s = (crcSum ((l.drop (a + 1)).take (5 + q))).toNat := ⟨_, rfl⟩
  have hsl : s < 4294967296 := by rw [hs]; exact (crcSum ((l.drop (a + 1)).take (5 + q))).isLt
  rw [← hs] at HSM
  have HS := Lib.hid (And.intro hs HSM)
  clear HPC hs HSM
  go_wp2_with (first | (at_builtin; refine Stopped.out ?_) | (at_make; refine Stopped.out ?_))
  rw [show a + 6 + q - (a + 1) = 5 + q by omega]
  refine HS.out.2.mono ?_
  rintro e w' ⟨rfl, rfl⟩
  go_wp2_with (first | (at_builtin; refine Stopped.out ?_) | (at_make; refine Stopped.out ?_))
  refine (four13 _ s hsl).mono ?_
  rintro e w4 ⟨rfl, o4, hb4⟩
  have b4 := heap_below H3.out.1 hb4
  have b7 := heap_below H3.out.2.1 hb4
  have HB4 := bthen H3.out.2.2 hb4
  have s4 := (own_sl' o4).2.1
  have H4 := Lib.hid (And.intro b4 (And.intro b7 (And.intro HB4 s4)))
  have HLE := Lib.hid (le_bytes l (a + 6 + q) s (by rw [HD.out.2.1]; omega) hsl)
  have HX : Hid (((l.drop a).drop (6 + q)).take 4 = (l.drop (a + 6 + q)).take 4 ∧ ((l.drop a).drop 1).take (5 + q) = (l.drop (a + 1)).take (5 + q) ∧ ((l.drop a).drop 6).take q = (l.drop (a + 6)).take q ∧ ((l.drop (a + 6)).take q).length = q) := Lib.hid ⟨by rw [List.drop_drop, Nat.add_assoc], by rw [List.drop_drop], by rw [List.drop_drop], by rw [List.length_take, List.length_drop, HD.out.2.1]; omega⟩
  have HV : Hid (le ((l.drop (a + 6 + q)).take 4) ≠ s → R = (0, [], (a : Int), 3)) := Lib.hid (fun h7 => by
    rw [HQ.out.2]
    exact wholeF_no l a 3 (by rw [HD.out.2.1]; omega) (by
      unfold wholeD
      rw [HD.out.1, if_neg (by omega), HM.out, if_neg (by simp), if_neg (by omega), ← HQ.out.1, if_neg h5, if_neg (by omega), HX.out.1, HX.out.2.1, ← HS.out.1, if_pos h7]))
  have hbk := bt_lt l (a + 1)
  have HK : Hid ((l.drop a).getD 1 0 = UInt8.ofNat (bt l (a + 1))) := Lib.hid (by
      rw [List.getD_eq_getElem?_getD, List.getElem?_drop]
      unfold bt
      rw [List.getElem?_eq_getElem (show a + 1 < l.length by rw [HD.out.2.1]; omega)]
      simp)
  obtain ⟨kk, hkk⟩ : ∃ k, k = bt l (a + 1) := ⟨_, rfl⟩
  have HKK := Lib.hid hkk
  rw [← hkk] at HK hbk
  have HR0 : Hid (le ((l.drop (a + 6 + q)).take 4) = s → R = (UInt8.ofNat kk, (l.drop (a + 6)).take q, (a : Int) + 10 + (q : Int), 0)) := Lib.hid (fun h7 => by
      rw [HQ.out.2]
      unfold wholeF
      rw [if_neg (by rw [HD.out.2.1]; omega), show ((a : Int)).toNat = a by omega]
      unfold wholeD
      rw [HD.out.1, if_neg (by omega), HM.out, if_neg (by simp), if_neg (by omega), ← HQ.out.1, if_neg h5, if_neg (by omega), HX.out.1, HX.out.2.1, ← HS.out.1, if_neg (by simp [h7]), HX.out.2.2.1, HK.out]
      simp only [Prod.mk.injEq, true_and, and_true]
      omega)
  clear c0 c1 e0 e1 f0 f1 b4 b7 HB4 s4 o4 hb4 hkk ea6 ic1 h6 h5 i5
  have v6 : IntKind.i64.wrap ((a : Int) + 6) = (a : Int) + 6 := by rw [IntKind.wrap_i64]; omega
  have v7 : IntKind.i64.wrap ((a : Int) + 6 + (q : Int)) = (a : Int) + 6 + (q : Int) := by rw [IntKind.wrap_i64]; omega
  go_wp2
  go_loopw [11] (fun i wr => ∃ (k : Nat), k ≤ 4 ∧ i = .int .i64 k ∧ Drawn w4 wr ∧ ∀ t, t < k → bt l (a + 6 + q + t) = s / 256 ^ t % 256) (fun i _ => 4 - (intOf i).toNat)
  case atStart => exact ⟨0, by omega, rfl, Drawn.refl _, fun t ht => by omega⟩
  case round =>
    obtain ⟨k, hk, rfl, hd, hP⟩ := hrel
    have b4 := (hd.keep []).heap H4.out.1 (by simp)
    have b7 := (hd.keep []).heap H4.out.2.1 (by simp)
    have hB := bthen H4.out.2.2.1 hd.below
    have c0 := box_cell b7 0 _ rfl
    have c1 := box_cell b7 1 _ rfl
    have e0 := box_cell b4 0 _ rfl
    have e1 := box_cell b4 1 _ rfl
    have f0 := box_free b4 0
    have f1 := box_free b4 1
    have HPk := Lib.hid (And.intro hP (And.intro b4 hB))
    clear hP b4 b7 
    by_cases hkl : k < 4
    · have g0 := (HD.out.2.2.2.below hB).byte (a + 6 + q + k) (by omega)
      have g1 := (H4.out.2.2.2.below hd.below).byte (3 - k) (by omega)
      rw [be4_bt s k hsl hkl, Nat.zero_add] at g1
      have hx := bt_lt l (a + 6 + q + k)
      have hy : s / 256 ^ k % 256 < 256 := Nat.mod_lt _ (by decide)
      obtain ⟨x, ex⟩ : ∃ x, x = bt l (a + 6 + q + k) := ⟨_, rfl⟩
      obtain ⟨y, ey⟩ : ∃ y, y = s / 256 ^ k % 256 := ⟨_, rfl⟩
      rw [← ex] at g0 hx; rw [← ey] at g1 hy
      have HE := Lib.hid (And.intro ex ey)
      clear ex ey hB
      have r0 : (0 : Int) ≤ (k : Int) := Int.natCast_nonneg _
      have r1 : (k : Int) < 4 := by omega
      have r2 : (a : Int) + 6 + (q : Int) + (k : Int) < (n : Int) := by omega
      have r3 : (0 : Int) ≤ (a : Int) + 6 + (q : Int) + (k : Int) := by omega
      have v8 : IntKind.i64.wrap ((a : Int) + 6 + (q : Int) + (k : Int)) = (a : Int) + 6 + (q : Int) + (k : Int) := by rw [IntKind.wrap_i64]; omega
      have v9 : IntKind.i64.wrap (3 - (k : Int)) = 3 - (k : Int) := by rw [IntKind.wrap_i64]; omega
      have t8 : ((a : Int) + 6 + (q : Int) + (k : Int)).toNat = a + 6 + q + k := by omega
      have t9 : (3 - (k : Int)).toNat = 3 - k := by omega
      have r4 : (0 : Int) ≤ 3 - (k : Int) := by omega
      have r5 : 3 - (k : Int) < 4 := by omega
      have r6 : (k : Int) ≤ 3 := by omega
      have r7 : (3 : Int) < 4 + (k : Int) := by omega
      have r8 : k ≤ 3 := by omega
      by_cases hxy : x = y
      · subst hxy
        have hxx : ((x : Int) != x) = false := by simp
        have HD2 := Lib.hid hd
        clear hd
        go_wp2_with fail
        go_quiet (fail)
        go_wp2
        first | go_roundw | refine ⟨?rel, ?measure⟩
        case rel => exact ⟨k + 1, by omega, by go_num, HD2.out.step _, fun t ht => by
          by_cases htk : t = k
          · subst htk; rw [← HE.out.1, HE.out.2]
          · exact HPk.out.1 t (by omega)⟩
        case measure => simp [intOf]; omega
      · have hxx : ((x : Int) != y) = true := by simp; omega
        have HR := HV.out (fun e => hxy (by rw [HE.out.1, HE.out.2]; exact HLE.out.1 e k hkl))
        clear hd hxy
        go_wp2_with fail
        go_quiet (fail)
        go_wp2_with fail
        refine bodyPost_ret (results_k3 (P := Try.prog) rfl _ _ _ _ _ _ _ (by rfl) (fr_put (w3 := wr.drewN nq) HPk.out.2.1 (below_drewN HPk.out.2.2 nq) _ _).1 Try.underlying70 rfl (by kernel_rfl)) rfl ?_
        rw [HR]
        exact RPost.no (fr_put (w3 := wr.drewN nq) HPk.out.2.1 (below_drewN HPk.out.2.2 nq) _ _).2
    · obtain rfl : k = 4 := by omega
      have HR := Lib.hid (HR0.out (HLE.out.2 HPk.out.1))
      have gk := (HD.out.2.2.2.below hB).byte (a + 1) (by omega)
      rw [← HKK.out] at gk
      have v1 : IntKind.i64.wrap ((a : Int) + 1) = (a : Int) + 1 := by rw [IntKind.wrap_i64]; omega
      obtain ⟨W5, hW5⟩ : ∃ W5, W5 = wr.alloc (.cells #[.int .u8 (kk : Int), .slice none 0 0] 70) := ⟨_, rfl⟩
      have hb5 : Below wr.heap.size wr W5 := by rw [hW5]; exact (Below.refl _ _).alloc (Nat.le_refl _) _
      have b5 : W5.heap[wr.heap.size]? = some (.cells #[.int .u8 (kk : Int), .slice none 0 0] 70 (0, 0)) := by rw [hW5]; exact heap_alloc_new _ _
      have b4 := heap_below HPk.out.2.1 hb5
      have HB5 := bthen hB hb5
      have HPP := (HD.out.2.2.2.below HB5).piece (a + 6) q (by omega)
      have hlt4 : w.heap.size < wr.heap.size := lt_of_block HPk.out.2.1
      have H5 := Lib.hid (And.intro b5 (And.intro b4 (And.intro HB5 (And.intro HPP hlt4))))
      have m0 := box_cell b5 0 _ rfl
      have m1 := box_cell b5 1 _ rfl
      have m2 := box_free b5 1
      have hsz5 : w.heap.size ≤ W5.heap.size := HB5.size
      clear hd hB c0 c1 e0 e1 f0 f1 b5 b4 hb5 HPP hlt4 HB5
      have iq1 : ((a : Int) + 6 + (q : Int) - ((a : Int) + 6)).toNat = q := by omega
      have iq2 : (0 : Int) ≤ (a : Int) + 6 + (q : Int) := by omega
      have iq3 : (a : Int) + 6 + (q : Int) ≤ (c : Int) := by omega
      have iq8 : (0 : Int) ≤ (a : Int) + 6 := by omega
      have iq9 : (a : Int) + 6 ≤ (a : Int) + 6 + (q : Int) := by omega
      have iqb : ((a : Int) + 6).toNat = a + 6 := by omega
      have iqc : ((a : Int) + 6 + (q : Int)).toNat - (a + 6) = q := by omega
      have ic6 : ¬ c = a + 6 := by omega
      have ne1 : ¬ w.heap.size = wr.heap.size := by have := H5.out.2.2.2.2; omega
      have ne2 : ¬ wr.heap.size = w.heap.size := by have := H5.out.2.2.2.2; omega
      go_wp2_with (rw [← hW5])
      clear hW5 gk
      go_region_law (
        refine apk_step EBj rfl (.tmp 94) (.tmp 102) rfl (base := w.heap.size) (v := .slice none 0 0) rfl (World.ownsRow_nil _ _ _ _) rfl (A := some ⟨b, off + (a + 6), none⟩) (m := q) (c := c - (a + 6)) H5.out.2.2.2.1.drew (u8_one _) (by simp only [maxLen]; omega) (by omega) hsz5 ?_
        intro v6 w6 o6 hg6 hloc
        have k6 : Keep [] W5 w6 := (Keep.refl _ W5).drew.grown hg6 (fun b e => by cases e)
        have n0 := box_cell (k6.heap H5.out.1 (by simp)) 0 _ rfl
        have n1 := box_cell (k6.heap H5.out.1 (by simp)) 1 _ rfl
        have n2 := box_free (k6.heap H5.out.1 (by simp)) 1
        have n3 := box_cell (k6.heap H5.out.2.1 (by simp)) 0 _ rfl
        have n4 := box_cell (k6.heap H5.out.2.1 (by simp)) 1 _ rfl
        have n5 := box_free (k6.heap H5.out.2.1 (by simp)) 0
        have n6 := box_free (k6.heap H5.out.2.1 (by simp)) 1
        obtain ⟨A6, c6, rfl, s6, _⟩ := own_sl o6
        have H6 := Lib.hid (And.intro o6 (And.intro k6 (show ∀ k, (Value.slice A6 (0 + q) c6).ownBlock = some k → k = W5.heap.size from fun k hk => (hloc k hk).elim (fun e => by cases e) id)))
        clear o6 hg6 k6 s6 hloc)
      all_goals go_wp2_with fail
      all_goals
        have k7 : Keep [wr.heap.size] W5 (w6.setCell ⟨wr.heap.size, 1, none⟩ (.slice A6 q c6)) := (H6.out.2.1.mono (by simp)).setCell (.inl (by simp)) _
        have b7 := k7.heap H5.out.2.1 (by simpa using ne1)
        have hB7 := k7.below H5.out.2.2.1 hsz5 (fun x hx => by simp at hx; have := H5.out.2.2.2.2; omega)
        refine bodyPost_ret (results_k3 (P := Try.prog) rfl _ _ _ _ _ _ _ (by rfl) (fr_put b7 hB7 _ _).1 Try.underlying70 rfl (by kernel_rfl)) rfl ?_
        rw [HR.out]
        refine ⟨A6, c6, ?_, ?_, (fr_put b7 hB7 _ _).2⟩
        · simp only [HX.out.2.2.2]
          rw [show (UInt8.ofNat kk).toNat = kk by simp; omega]
          rfl
        · rw [HX.out.2.2.2]
          have h5lt := lt_of_block H5.out.1
          have h4lt := lt_of_block H5.out.2.1
          have kk2 : Keep [wr.heap.size, w.heap.size] w6 (((w6.setCell ⟨wr.heap.size, 1, none⟩ (.slice A6 q c6)).setCell ⟨w.heap.size, 0, none⟩ (.int .u8 (kk : Int))).setCell ⟨w.heap.size, 1, none⟩ (.slice A6 q c6)) := (((Keep.refl _ w6).setCell (.inl (by simp)) _).setCell (.inl (by simp)) _).setCell (.inl (by simp)) _
          have o9 := kk2.own H6.out.1 (fun k hk hx => by have := H6.out.2.2 k hk; simp at hx; omega)
          simpa using o9
end Go.Proofs.Ytpjmbhhfpoamnaa
