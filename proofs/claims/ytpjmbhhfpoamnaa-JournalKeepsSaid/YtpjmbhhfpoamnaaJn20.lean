import Derived.Test.YtpjmbhhfpoamnaaSame14
import Derived.Test.YtpjmbhhfpoamnaaFrDec
set_option linter.unusedVariables false
set_option linter.unusedSimpArgs false
namespace Go.Proofs.Ytpjmbhhfpoamnaa
open Go.RowKit
theorem Sls.getR {w : World} {b off n c : Nat} {vs : List Value} {ll : List (List UInt8)} (h : Sls w (some ⟨b, off, none⟩) n c vs ll) (k : Nat) (hk : k < n) :
    ∃ a m c2 l, ll[k]? = some l ∧ w.cell? ⟨b, off + k, none⟩ = some (.slice a m c2) ∧ Sl w 1 a m c2 (l.map by8) ∧ m ≤ 140737488351232 := by
  have hl : k < ll.length := by rw [h.len]; exact hk
  have e : ll[k]? = some ll[k] := List.getElem?_eq_getElem hl
  obtain ⟨a, m, c2, h1, h2, h3⟩ := h.at_ k _ e
  obtain ⟨h6, h7⟩ := List.getElem?_eq_some_iff.1 h1
  have h8 := h.sl.cell k h6
  rw [h7] at h8
  exact ⟨a, m, c2, _, e, h8, h2, h3⟩
set_option maxRecDepth 100000 in
set_option maxHeartbeats 3200000 in
/-- two answers of Open of the same epoch and cut -/
theorem sameFound_any (w : World) (ep cut : Int) {A B Av Bv : Option Addr} {n c m d na ca nb cb : Nat} {sa sb : List UInt8} {va vb : List Value} {la lb : List (List UInt8)}
    (ha : Sl w 1 A n c (sa.map by8)) (hb : Sl w 1 B m d (sb.map by8)) (ra : Sls w Av na ca va la) (rb : Sls w Bv nb cb vb lb) :
    Calls Try.prog 72 #[.agg #[.int .i64 ep, .slice A n c, .slice Av na ca, .int .i64 cut], .agg #[.int .i64 ep, .slice B m d, .slice Bv nb cb, .int .i64 cut]] w fun e w' => e = .returned (.bool (decide (sa = sb ∧ la = lb))) ∧ Below w.heap.size w w' := by
  have hna := ra.len; have hnb := rb.len
  have hma := ra.sl.max; have hmb := rb.sl.max
  have hla := ra.sl.le; have hlb := rb.sl.le
  obtain ⟨W2, hW2⟩ : ∃ W2, W2 = (w.alloc (.cells #[.int .i64 ep, .slice A n c, .slice Av na ca, .int .i64 cut] 100)).alloc (.cells #[.int .i64 ep, .slice B m d, .slice Bv nb cb, .int .i64 cut] 100) := ⟨_, rfl⟩
  have hb2 : Below w.heap.size w W2 := by rw [hW2]; exact ((Below.refl _ _).alloc (Nat.le_refl _) _).alloc (by simp) _
  have x0 : W2.heap[w.heap.size]? = some (.cells #[.int .i64 ep, .slice A n c, .slice Av na ca, .int .i64 cut] 100 (0, 0)) := by rw [hW2]; exact heap_new1 _ _ _
  have x1 : W2.heap[w.heap.size + 1]? = some (.cells #[.int .i64 ep, .slice B m d, .slice Bv nb cb, .int .i64 cut] 100 (0, 0)) := by rw [hW2]; exact heap_new2 _ _ _
  have HS := Lib.hid (And.intro (ra.below hb2) (And.intro (rb.below hb2) hb2))
  have HX := Lib.hid (And.intro x0 x1)
  have HC := Lib.hid (same14 W2 (ha.below hb2) (hb.below hb2))
  clear ha hb ra rb hb2 x0 x1
  have e1 : (ep != ep) = false := by simp
  have e2 : (cut != cut) = false := by simp
  by_cases hs : sa = sb
  · rw [decide_eq_true hs] at HC
    by_cases hl : na = nb
    · have q1 : ((na : Int) != nb) = false := by simp; omega
      have HR : Hid (decide (sa = sb ∧ la = lb) = decide (la = lb)) := Lib.hid (by simp [hs])
      rw [HR.out]
      have HN := Lib.hid hna; have HNb := Lib.hid hnb
      clear hs HR hna hnb
      subst hl
      go_enter Try.func72, Try.ntmps72
      go_wp2_with fail
      rw [← hW2]
      refine HC.out.mono ?_
      rintro e w3 ⟨rfl, hd3⟩
      have hs2 : w.heap.size + 2 ≤ W2.heap.size := by rw [hW2]; simp
      have y0 := heap_below HX.out.1 hd3.below
      have y1 := heap_below HX.out.2 hd3.below
      have HB3 := Lib.hid (And.intro (HS.out.1.below hd3.below) (And.intro (HS.out.2.1.below hd3.below) (bthen HS.out.2.2 hd3.below)))
      clear hd3 hW2 hs2 HC HX HS
      obtain ⟨B0, hB0⟩ : ∃ B0, B0 = w.heap.size := ⟨_, rfl⟩
      rw [← hB0] at y0 y1 ⊢
      have HBz := Lib.hid hB0
      clear hB0
      have m0 : w3.cell? ⟨B0, 0, none⟩ = some (.int .i64 ep) := box_cell y0 0 _ rfl
      have m1 : w3.cell? ⟨B0, 1, none⟩ = some (.slice A n c) := box_cell y0 1 _ rfl
      have m2 : w3.cell? ⟨B0, 2, none⟩ = some (.slice Av na ca) := box_cell y0 2 _ rfl
      have m3 : w3.cell? ⟨B0, 3, none⟩ = some (.int .i64 cut) := box_cell y0 3 _ rfl
      have o0 : w3.cell? ⟨(B0+1), 0, none⟩ = some (.int .i64 ep) := box_cell y1 0 _ rfl
      have o1 : w3.cell? ⟨(B0+1), 1, none⟩ = some (.slice B m d) := box_cell y1 1 _ rfl
      have o2 : w3.cell? ⟨(B0+1), 2, none⟩ = some (.slice Bv na cb) := box_cell y1 2 _ rfl
      have o3 : w3.cell? ⟨(B0+1), 3, none⟩ = some (.int .i64 cut) := box_cell y1 3 _ rfl
      clear y0 y1 m0 m1 m3 o0 o1 o3
      go_wp2_with fail
      go_loopw [5] (fun i wr => ∃ k : Nat, k ≤ na ∧ i = .int .i64 k ∧ Hid (la.take k = lb.take k) ∧ Below w3.heap.size w3 wr) (fun i _ => na - (intOf i).toNat)
      case atStart => exact ⟨0, by omega, rfl, Lib.hid (by simp), Below.refl _ _⟩
      case round =>
        obtain ⟨k, hk, rfl, heq, hw⟩ := hrel
        have n2 := cell_below m2 hw
        have p2 := cell_below o2 hw
        by_cases hlt : k < na
        · obtain ⟨b, off, rfl⟩ := HB3.out.1.sl.form (by omega)
          obtain ⟨b2, off2, rfl⟩ := HB3.out.2.1.sl.form (by omega)
          obtain ⟨a1, m1, c1, l1, f1, f2, f3, f4⟩ := HB3.out.1.getR k hlt
          obtain ⟨a2, m2', c2, l2, g1, g2, g3, g4⟩ := HB3.out.2.1.getR k hlt
          have f2 := cell_below f2 hw
          have g2 := cell_below g2 hw
          have hk0 : (0 : Int) ≤ (k : Int) := Int.natCast_nonneg _
          have hk1 : (k : Int) < (na : Int) := by omega
          have HCk := fun q => same14 (wr.drewN q) ((f3.below hw).drewN q) ((g3.below hw).drewN q)
          have HG := Lib.hid (And.intro f1 g1)
          clear f1 g1 f3 g3
          by_cases hx : l1 = l2
          · rw [decide_eq_true hx] at HCk
            have HCk := Lib.hid HCk
            have HT : Hid (la.take (k + 1) = lb.take (k + 1)) := Lib.hid (by rw [List.take_add_one, List.take_add_one, heq.out, HG.out.1, HG.out.2, hx])
            clear hx
            go_wp2_with fail
            go_quiet ((go_at_call 71; with_reducible exact quiet_dr (HCk.out _)))
            go_wp2_with fail
            first | go_roundw | refine ⟨?rel, ?measure⟩
            case rel => exact ⟨k + 1, by omega, by go_num, HT, hw.trans (below_drewN (Below.refl _ _) _)⟩
            case measure => simp [intOf]; omega
          · rw [decide_eq_false hx] at HCk
            have HCk := Lib.hid HCk
            have HD : Hid (decide (la = lb) = false) := Lib.hid (decide_eq_false (by
              rintro rfl
              have := HG.out.1.symm.trans HG.out.2
              exact hx (Option.some.inj this)))
            clear hx
            go_wp2_with fail
            go_quiet ((go_at_call 71; with_reducible exact quiet_dr (HCk.out _)))
            go_wp2_with fail
            go_ret
            exact ⟨by (rw [HD.out]) <;> rfl, bthen HB3.out.2.2 (hw.trans (below_drewN (Below.refl _ _) _))⟩
        · obtain rfl : k = na := by omega
          have HD : Hid (decide (la = lb) = true) := Lib.hid (decide_eq_true (by rw [← List.take_of_length_le (l := la) (Nat.le_of_eq HN.out), ← List.take_of_length_le (l := lb) (Nat.le_of_eq HNb.out)]; exact heq.out))
          go_wp2_with fail
          go_ret
          exact ⟨by (rw [HD.out]) <;> rfl, bthen HB3.out.2.2 hw⟩
    · have q1 : ((na : Int) != nb) = true := by simp; omega
      have HR : Hid (decide (sa = sb ∧ la = lb) = false) := Lib.hid (decide_eq_false (fun h => hl (by rw [← hna, ← hnb, h.2])))
      rw [HR.out]
      clear hs hl HR hna hnb
      go_enter Try.func72, Try.ntmps72
      go_wp2_with fail
      rw [← hW2]
      refine HC.out.mono ?_
      rintro e w3 ⟨rfl, hd3⟩
      have y0 := heap_below HX.out.1 hd3.below
      have y1 := heap_below HX.out.2 hd3.below
      have HB3 := Lib.hid (bthen HS.out.2.2 hd3.below)
      clear hd3 hW2 HC HX HS
      obtain ⟨B0, hB0⟩ : ∃ B0, B0 = w.heap.size := ⟨_, rfl⟩
      rw [← hB0] at y0 y1 ⊢
      clear hB0
      have m0 : w3.cell? ⟨B0, 0, none⟩ = some (.int .i64 ep) := box_cell y0 0 _ rfl
      have m1 : w3.cell? ⟨B0, 1, none⟩ = some (.slice A n c) := box_cell y0 1 _ rfl
      have m2 : w3.cell? ⟨B0, 2, none⟩ = some (.slice Av na ca) := box_cell y0 2 _ rfl
      have m3 : w3.cell? ⟨B0, 3, none⟩ = some (.int .i64 cut) := box_cell y0 3 _ rfl
      have o0 : w3.cell? ⟨(B0+1), 0, none⟩ = some (.int .i64 ep) := box_cell y1 0 _ rfl
      have o1 : w3.cell? ⟨(B0+1), 1, none⟩ = some (.slice B m d) := box_cell y1 1 _ rfl
      have o2 : w3.cell? ⟨(B0+1), 2, none⟩ = some (.slice Bv nb cb) := box_cell y1 2 _ rfl
      have o3 : w3.cell? ⟨(B0+1), 3, none⟩ = some (.int .i64 cut) := box_cell y1 3 _ rfl
      clear y0 y1 m0 m1 m3 o0 o1 o3
      go_wp2_with fail
      go_ret
      exact ⟨rfl, HB3.out⟩
  · rw [decide_eq_false hs] at HC
    have HR : Hid (decide (sa = sb ∧ la = lb) = false) := Lib.hid (decide_eq_false (fun h => hs h.1))
    rw [HR.out]
    clear hs HR hna hnb
    go_enter Try.func72, Try.ntmps72
    go_wp2_with fail
    rw [← hW2]
    refine HC.out.mono ?_
    rintro e w3 ⟨rfl, hd3⟩
    have HB3 := Lib.hid (bthen HS.out.2.2 hd3.below)
    clear hd3 hW2 HC HX HS
    go_wp2_with fail
    go_ret
    exact ⟨rfl, HB3.out⟩
end Go.Proofs.Ytpjmbhhfpoamnaa
