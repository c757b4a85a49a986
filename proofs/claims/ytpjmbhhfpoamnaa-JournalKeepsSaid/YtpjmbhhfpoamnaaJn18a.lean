import Derived.Test.YtpjmbhhfpoamnaaJn17
import Derived.BigRegion
set_option linter.unusedVariables false
set_option linter.unusedSimpArgs false
namespace Go.Proofs.Ytpjmbhhfpoamnaa
open Go.RowKit
set_option maxRecDepth 100000 in
set_option maxHeartbeats 6400000 in
theorem Open_nn (w : World) {p : Nat} {G : List Nat} {s : FSt} {N : Nat} (h : Fl w p G s) (hN : FOkN N s) (hNN : N ≤ 4611686018427387900) (hd : s.down = false) (r0 : readB s.b0 = none) (r1 : readB s.b1 = none) :
    Calls Try.prog 57 #[.pointer (some ⟨p, 0, none⟩)] w (OpenP w p G s) := by
  have hk : FOk s := hN.ok (by omega)
  have HN := Lib.hid (And.intro hN hNN)
  clear hN hNN
  have mR := mRead p
  obtain ⟨W, hW⟩ : ∃ W, W = ((((w.alloc (.cells #[.int .i64 0, .slice none 0 0, .slice none 0 0, .int .i64 0] 100)).alloc (.cells #[.int .i64 0, .slice none 0 0, .slice none 0 0, .int .i64 0, .int .i64 0, .slice none 0 0, .slice none 0 0, .int .i64 0] 163)).alloc (.cells #[.bool false, .bool false] 164)).alloc (.cells #[.int .i64 0, .int .i64 0] 165)) := ⟨_, rfl⟩
  have hWz : W.heap.size = w.heap.size + 1 + 1 + 1 + 1 := by rw [hW]; simp
  have hWb : Below w.heap.size w W := by rw [hW]; exact ((((Below.refl _ w).alloc (Nat.le_refl _) _).alloc (by simp) _).alloc (by simp; omega) _).alloc (by simp; omega) _
  have hW0 : OpB W w.heap.size (w.heap.size + 1) (w.heap.size + 1 + 1) (w.heap.size + 1 + 1 + 1) (.int .i64 0) (.slice none 0 0) (.slice none 0 0) (.int .i64 0) (.int .i64 0) (.slice none 0 0) (.slice none 0 0) (.int .i64 0) (.bool false) (.bool false) (.int .i64 0) (.int .i64 0) := by
    rw [hW]
    obtain ⟨e0, e1, e2, e3⟩ := alloc4 w (.cells #[.int .i64 0, .slice none 0 0, .slice none 0 0, .int .i64 0] 100) (.cells #[.int .i64 0, .slice none 0 0, .slice none 0 0, .int .i64 0, .int .i64 0, .slice none 0 0, .slice none 0 0, .int .i64 0] 163) (.cells #[.bool false, .bool false] 164) (.cells #[.int .i64 0, .int .i64 0] 165)
    exact ⟨e0, e1, e2, e3⟩
  have HFW := Lib.hid (And.intro (h.below hWb) (show ∀ x ∈ G, x ∉ [w.heap.size + 1, w.heap.size + 1 + 1, w.heap.size + 1 + 1 + 1] from fun x hx hm => by have := h.lts x hx; simp at hm; omega))
  have HF0 := Lib.hid h
  have HOK := Lib.hid hk
  have HD := Lib.hid hd
  have HWb := Lib.hid (And.intro hWb hWz)
  have HW0 := Lib.hid hW0
  have HW := Lib.hid hW
  obtain ⟨B0, hB0⟩ : ∃ x, x = w.heap.size := ⟨_, rfl⟩
  obtain ⟨B1, hB1⟩ : ∃ x, x = w.heap.size + 1 := ⟨_, rfl⟩
  obtain ⟨B2, hB2⟩ : ∃ x, x = w.heap.size + 1 + 1 := ⟨_, rfl⟩
  obtain ⟨B3, hB3⟩ : ∃ x, x = w.heap.size + 1 + 1 + 1 := ⟨_, rfl⟩
  have HNE : Hid (B0 < B1 ∧ B1 < B2 ∧ B2 < B3) := Lib.hid ⟨by omega, by omega, by omega⟩
  have HNEs : Hid (B1 ≠ B2 ∧ B1 ≠ B3 ∧ B2 ≠ B1 ∧ B2 ≠ B3 ∧ B3 ≠ B1 ∧ B3 ≠ B2) := Lib.hid ⟨by omega, by omega, by omega, by omega, by omega, by omega⟩
  have HLT : Hid (∀ x ∈ [B1, B2, B3], x < W.heap.size) := Lib.hid (fun x hx => by simp at hx; omega)
  have HBQ := Lib.hid (And.intro hB0 (And.intro hB1 (And.intro hB2 hB3)))
  rw [← hB3, ← hB2, ← hB1] at HFW
  rw [← hB3, ← hB2, ← hB1, ← hB0] at HW0
  clear h hk hd hWb hWz hW0 hW hB0 hB1 hB2 hB3
  go_enter Try.func57, Try.ntmps57
  go_wp2_with fail
  rw [← HW.out, ← HBQ.out.2.2.2, ← HBQ.out.2.2.1, ← HBQ.out.2.1, ← HBQ.out.1]
  clear HW
  go_loopw [19] (fun i wr => ∃ (k : Nat), k ≤ 2 ∧ i = .int .i64 k ∧ ∃ (a0 a1 a2 a3 b0 b1 b2 b3 h0 h1 l0 l1 : Value), OpI W wr s B0 B1 B2 B3 k a0 a1 a2 a3 b0 b1 b2 b3 h0 h1 l0 l1) (fun i _ => 2 - (intOf i).toNat)
  case atStart => exact ⟨0, by omega, rfl, _, _, _, _, _, _, _, _, _, _, _, _, HW0.out, Keep.refl _ _, fun _ => ⟨rfl, rfl, rfl, rfl, rfl, rfl⟩, fun _ => ⟨rfl, rfl, rfl, rfl, rfl, rfl⟩, fun h => by omega, fun h => by omega⟩
  case round =>
    obtain ⟨k, hk, rfl, a0, a1, a2, a3, b0, b1, b2, b3, h0, h1, l0, l1, hI⟩ := hrel
    obtain rfl | rfl | rfl : k = 0 ∨ k = 1 ∨ k = 2 := by omega
    · obtain ⟨rfl, rfl, rfl, rfl, rfl, rfl⟩ := hI.za (by omega)
      have hFr := HFW.out.1.keep hI.keep HFW.out.2
      have HRd := Lib.hid (flash_Read_yes wr hFr 0 (by omega) HD.out (by have := HOK.out.bank 0; omega))
      have hbn := HOK.out.bank 0
      obtain ⟨bb, hbb⟩ : ∃ bb, bb = bankF s 0 := ⟨_, rfl⟩
      rw [← hbb] at HRd hbn
      obtain ⟨n, hn⟩ : ∃ n, n = bb.length := ⟨_, rfl⟩
      rw [← hn] at HRd hbn
      have HI := Lib.hid hI
      have HNB := Lib.hid (And.intro hn hbb)
      clear hI hFr hn hbb
      go_wp2_with fail
      refine HRd.out.mono ?_
      rintro e wa ⟨rfl, o1, hb1⟩
      clear HRd
      have HR1 := Lib.hid (read_any wa (own_sl' o1).2.1 hbn)
      clear o1
      go_wp2_with fail
      refine HR1.out.mono ?_
      rintro e wb ⟨ep, gd, sv, v, rfl, hb2, ⟨A, n1, c1, rfl⟩, ⟨A2, n2, c2, rfl⟩, hct⟩
      clear HR1
      have hb12 := bthen hb1 hb2
      have bx := HI.out.bx.below hb12
      obtain ⟨X, hX⟩ : ∃ X, X = (readB bb).isSome := ⟨_, rfl⟩
      rw [← hX]
      have y0 : wb.cell? ⟨B1, 0, none⟩ = some (.int .i64 0) := box_cell bx.all 0 _ rfl
      have yf0 := box_free bx.all 0
      have y1 : wb.cell? ⟨B1, 1, none⟩ = some (.slice none 0 0) := box_cell bx.all 1 _ rfl
      have yf1 := box_free bx.all 1
      have y2 : wb.cell? ⟨B1, 2, none⟩ = some (.slice none 0 0) := box_cell bx.all 2 _ rfl
      have yf2 := box_free bx.all 2
      have y3 : wb.cell? ⟨B1, 3, none⟩ = some (.int .i64 0) := box_cell bx.all 3 _ rfl
      have yf3 := box_free bx.all 3
      have y4 : wb.cell? ⟨B2, 0, none⟩ = some (.bool false) := box_cell bx.hd 0 _ rfl
      have yf4 := box_free bx.hd 0
      have y5 : wb.cell? ⟨B3, 0, none⟩ = some (.int .i64 0) := box_cell bx.ln 0 _ rfl
      have yf5 := box_free bx.ln 0
      have HS := Lib.hid (bx.set0 HNE.out (.int .i64 ep) (.slice A n1 c1) (.slice A2 n2 c2) (.int .i64 gd) (.bool X) (.int .i64 n))
      have HK : Hid (Keep [B1, B2, B3] W wb) := Lib.hid (HI.out.keep.trans (Keep.of_below hb12 _))
      have hWa : W.heap.size ≤ wa.heap.size := Nat.le_trans HI.out.keep.size hb1.size
      have hlM : ∀ x ∈ [B1, B2, B3], x < W.heap.size := HLT.out
      have HRV : Hid (RV W _ s.b0 (.int .i64 ep) (.slice A n1 c1) (.slice A2 n2 c2) (.int .i64 gd) (.bool X) (.int .i64 n)) := Lib.hid ⟨ep, gd, A, n1, c1, A2, n2, c2, rfl, rfl, rfl, rfl, by rw [hX, HNB.out.2]; rfl, by rw [HNB.out.1, HNB.out.2]; rfl, fun ct hc => by
        obtain ⟨t1, t2, t3⟩ := hct ct (by rw [HNB.out.2]; exact hc)
        exact ⟨t1, t2, (t3.base hWa).keep HS.out.2 hlM⟩⟩
      have HZb := Lib.hid (HI.out.zb (by omega))
      obtain ⟨d1, d2, d3, d4, d5, d6⟩ := HNEs.out
      clear hb1 hb2 hb12 bx hX hct hWa hlM
      go_wp2
      first | go_roundw | refine ⟨?rel, ?measure⟩
      case rel => exact ⟨1, by omega, by go_num, _, _, _, _, _, _, _, _, _, _, _, _, ⟨HS.out.1, HK.out.trans HS.out.2, fun h => by omega, fun _ => HZb.out, fun _ => HRV.out, fun h => by omega⟩⟩
      case measure => simp [intOf]
    · obtain ⟨rfl, rfl, rfl, rfl, rfl, rfl⟩ := hI.zb (by omega)
      have hFr := HFW.out.1.keep hI.keep HFW.out.2
      have HRd := Lib.hid (flash_Read_yes wr hFr 1 (by omega) HD.out (by have := HOK.out.bank 1; omega))
      have hbn := HOK.out.bank 1
      obtain ⟨bb, hbb⟩ : ∃ bb, bb = bankF s 1 := ⟨_, rfl⟩
      rw [← hbb] at HRd hbn
      obtain ⟨n, hn⟩ : ∃ n, n = bb.length := ⟨_, rfl⟩
      rw [← hn] at HRd hbn
      have HI := Lib.hid hI
      have HNB := Lib.hid (And.intro hn hbb)
      clear hI hFr hn hbb
      go_wp2_with fail
      refine HRd.out.mono ?_
      rintro e wa ⟨rfl, o1, hb1⟩
      clear HRd
      have HR1 := Lib.hid (read_any wa (own_sl' o1).2.1 hbn)
      clear o1
      go_wp2_with fail
      refine HR1.out.mono ?_
      rintro e wb ⟨ep, gd, sv, v, rfl, hb2, ⟨A, n1, c1, rfl⟩, ⟨A2, n2, c2, rfl⟩, hct⟩
      clear HR1
      have hb12 := bthen hb1 hb2
      have bx := HI.out.bx.below hb12
      obtain ⟨X, hX⟩ : ∃ X, X = (readB bb).isSome := ⟨_, rfl⟩
      rw [← hX]
      have y0 : wb.cell? ⟨B1, 4, none⟩ = some (.int .i64 0) := box_cell bx.all 4 _ rfl
      have yf0 := box_free bx.all 4
      have y1 : wb.cell? ⟨B1, 5, none⟩ = some (.slice none 0 0) := box_cell bx.all 5 _ rfl
      have yf1 := box_free bx.all 5
      have y2 : wb.cell? ⟨B1, 6, none⟩ = some (.slice none 0 0) := box_cell bx.all 6 _ rfl
      have yf2 := box_free bx.all 6
      have y3 : wb.cell? ⟨B1, 7, none⟩ = some (.int .i64 0) := box_cell bx.all 7 _ rfl
      have yf3 := box_free bx.all 7
      have y4 : wb.cell? ⟨B2, 1, none⟩ = some (.bool false) := box_cell bx.hd 1 _ rfl
      have yf4 := box_free bx.hd 1
      have y5 : wb.cell? ⟨B3, 1, none⟩ = some (.int .i64 0) := box_cell bx.ln 1 _ rfl
      have yf5 := box_free bx.ln 1
      have HS := Lib.hid (bx.set1 HNE.out (.int .i64 ep) (.slice A n1 c1) (.slice A2 n2 c2) (.int .i64 gd) (.bool X) (.int .i64 n))
      have HK : Hid (Keep [B1, B2, B3] W wb) := Lib.hid (HI.out.keep.trans (Keep.of_below hb12 _))
      have hWa : W.heap.size ≤ wa.heap.size := Nat.le_trans HI.out.keep.size hb1.size
      have hlM : ∀ x ∈ [B1, B2, B3], x < W.heap.size := HLT.out
      have HRV : Hid (RV W _ s.b1 (.int .i64 ep) (.slice A n1 c1) (.slice A2 n2 c2) (.int .i64 gd) (.bool X) (.int .i64 n)) := Lib.hid ⟨ep, gd, A, n1, c1, A2, n2, c2, rfl, rfl, rfl, rfl, by rw [hX, HNB.out.2]; rfl, by rw [HNB.out.1, HNB.out.2]; rfl, fun ct hc => by
        obtain ⟨t1, t2, t3⟩ := hct ct (by rw [HNB.out.2]; exact hc)
        exact ⟨t1, t2, (t3.base hWa).keep HS.out.2 hlM⟩⟩
      have HRA := Lib.hid (((HI.out.ra (by omega)).keep (Keep.of_below hb12 []) (by simp)).keep HS.out.2 hlM)
      obtain ⟨d1, d2, d3, d4, d5, d6⟩ := HNEs.out
      clear hb1 hb2 hb12 bx hX hct hWa hlM
      go_wp2
      first | go_roundw | refine ⟨?rel, ?measure⟩
      case rel => exact ⟨2, by omega, by go_num, _, _, _, _, _, _, _, _, _, _, _, _, ⟨HS.out.1, HK.out.trans HS.out.2, fun h => by omega, fun h => by omega, fun _ => HRA.out, fun _ => HRV.out⟩⟩
      case measure => simp [intOf]
    · obtain ⟨e0, g0, A0, n0, k0, D0, m0, j0, rfl, rfl, rfl, rfl, rfl, rfl, -⟩ := (hI.ra (by omega)).out
      obtain ⟨e1, g1, A1, n1, k1, D1, m1, j1, rfl, rfl, rfl, rfl, rfl, rfl, -⟩ := (hI.rb (by omega)).out
      have bx := hI.bx
      rw [r0, r1] at bx
      have x0 : wr.cell? ⟨B2, 0, none⟩ = some (.bool false) := box_cell bx.hd 0 _ rfl
      have x1 : wr.cell? ⟨B2, 1, none⟩ = some (.bool false) := box_cell bx.hd 1 _ rfl
      have zz := bx.z
      have z0 : wr.cell? ⟨B0, 0, none⟩ = some (.int .i64 0) := box_cell zz 0 _ rfl
      have zf0 := box_free zz 0
      have z1 : wr.cell? ⟨B0, 1, none⟩ = some (.slice none 0 0) := box_cell zz 1 _ rfl
      have zf1 := box_free zz 1
      have z2 : wr.cell? ⟨B0, 2, none⟩ = some (.slice none 0 0) := box_cell zz 2 _ rfl
      have zf2 := box_free zz 2
      have z3 : wr.cell? ⟨B0, 3, none⟩ = some (.int .i64 0) := box_cell zz 3 _ rfl
      have zf3 := box_free zz 3
      have HZ := Lib.hid zz
      have HKP := Lib.hid hI.keep
      have HO : Hid (openF s = (none, s, 140)) := Lib.hid (by rw [openF, if_neg (by rw [HD.out]; simp), r0, r1]; rfl)
      clear bx zz hI r0 r1
      go_wp2
      have z9 := set4 (.int .i64 0) (.slice none 0 0) (.slice none 0 0) (.int .i64 0) HZ.out
      refine bodyPost_ret (results_tct (P := Try.prog) rfl _ _ _ _ _ _ _ (by rfl) z9.1 Try.underlying100 rfl (by kernel_rfl)) rfl ?_
      have hlw : ∀ x ∈ [B1, B2, B3], w.heap.size ≤ x := fun x hx => by have h1 := HBQ.out; simp at hx; omega
      have hww : Below w.heap.size w wr := HKP.out.below HWb.out.1 HWb.out.1.size hlw
      refine .inl ⟨by rw [HO.out], by rw [HO.out]; rfl, ?_⟩
      rw [HO.out]
      exact FStep.of_below HF0.out (z9.2.below hww hww.size (fun x hx => by have h1 := HBQ.out.1; simp at hx; omega))
end Go.Proofs.Ytpjmbhhfpoamnaa
