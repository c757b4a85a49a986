import Derived.Test.YtpjmbhhfpoamnaaJn17
import Derived.BigRegion
set_option linter.unusedVariables false
set_option linter.unusedSimpArgs false
namespace Go.Proofs.Ytpjmbhhfpoamnaa
open Go.RowKit
set_option maxRecDepth 100000 in
set_option maxHeartbeats 6400000 in
theorem Open_1b (w : World) {p : Nat} {G : List Nat} {s : FSt} {N : Nat} (h : Fl w p G s) (hN : FOkN N s) (hNN : N ≤ 4611686018427387900) (hd : s.down = false) {c c2 : Ct} (r0 : readB s.b0 = some c2) (r1 : readB s.b1 = some c) (hep : c2.epoch < c.epoch) :
    Calls Try.prog 57 #[.pointer (some ⟨p, 0, none⟩)] w (OpenP w p G s) := by
  have hk : FOk s := hN.ok (by omega)
  have HN := Lib.hid (And.intro hN hNN)
  clear hN hNN
  have mR := mRead p
  obtain ⟨W, hW⟩ : ∃ W, W = ((((w.alloc (.cells #[.int .i64 0, .slice none 0 0, .slice none 0 0, .int .i64 0] 100)).alloc (.cells #[.int .i64 0, .slice none 0 0, .slice none 0 0, .int .i64 0, .int .i64 0, .slice none 0 0, .slice none 0 0, .int .i64 0] 163)).alloc (.cells #[.bool false, .bool false] 164)).alloc (.cells #[.int .i64 0, .int .i64 0] 165)) := ⟨_, rfl⟩
  have hWz : W.heap.size = w.heap.size + 1 + 1 + 1 + 1 := by rw [hW]; simp
  have hWb : Below w.heap.size w W := by rw [hW]; exact ((((Below.refl _ w).alloc (Nat.le_refl _) _).alloc (by simp) _).alloc (by simp; omega) _).alloc (by simp; omega) _
  have hW0 : OpB W w.heap.size (w.heap.size + 1) (w.heap.size + 1 + 1) (w.heap.size + 1 + 1 + 1) (.int .i64 0) (.slice none 0 0) (.slice none 0 0) (.int .i64 0) (.int .i64 0) (.slice none 0 0) (.slice none 0 0) (.int .i64 0) (.bool false) (.bool false) (.int .i64 0) (.int .i64 0) := by
    rw [hW]
    obtain ⟨e0, e1, e2, e3⟩ := alloc4 w (.cells #[.int .i64 0, .slice none 0 0, .slice none 0 0, .int .i64 0] 100) (.cells #[.int .i64 0, .slice none 0 0, .slice none 0 0, .int .i64 0, .int .i64 0, .slice none 0 0, .slice none 0 0, .int .i64 0] 163) (.cells #[.bool false, .bool false] 164) (.cells #[.int .i64 0, .int .i64 0] 165)
    exact ⟨e0, e1, e2, e3⟩
  have HFW := Lib.hid (And.intro (h.below hWb) (show ∀ x ∈ G, x ∉ [w.heap.size + 1, w.heap.size + 1 + 1, w.heap.size + 1 + 1 + 1] from fun x hx hm => by have := h.lts x hx; simp at hm; omega))
  have HF0 := Lib.hid h
  have HOK := Lib.hid hk
  have HD := Lib.hid hd
  have HWb := Lib.hid (And.intro hWb hWz)
  have HW0 := Lib.hid hW0
  have HW := Lib.hid hW
  obtain ⟨B0, hB0⟩ : ∃ x, x = w.heap.size := ⟨_, rfl⟩
  obtain ⟨B1, hB1⟩ : ∃ x, x = w.heap.size + 1 := ⟨_, rfl⟩
  obtain ⟨B2, hB2⟩ : ∃ x, x = w.heap.size + 1 + 1 := ⟨_, rfl⟩
  obtain ⟨B3, hB3⟩ : ∃ x, x = w.heap.size + 1 + 1 + 1 := ⟨_, rfl⟩
  have HNE : Hid (B0 < B1 ∧ B1 < B2 ∧ B2 < B3) := Lib.hid ⟨by omega, by omega, by omega⟩
  have HNEs : Hid (B1 ≠ B2 ∧ B1 ≠ B3 ∧ B2 ≠ B1 ∧ B2 ≠ B3 ∧ B3 ≠ B1 ∧ B3 ≠ B2) := Lib.hid ⟨by omega, by omega, by omega, by omega, by omega, by omega⟩
  have HLT : Hid (∀ x ∈ [B1, B2, B3], x < W.heap.size) := Lib.hid (fun x hx => by simp at hx; omega)
  have HBQ := Lib.hid (And.intro hB0 (And.intro hB1 (And.intro hB2 hB3)))
  rw [← hB3, ← hB2, ← hB1] at HFW
  rw [← hB3, ← hB2, ← hB1, ← hB0] at HW0
  clear h hk hd hWb hWz hW0 hW hB0 hB1 hB2 hB3
  go_enter Try.func57, Try.ntmps57
  go_wp2_with fail
  rw [← HW.out, ← HBQ.out.2.2.2, ← HBQ.out.2.2.1, ← HBQ.out.2.1, ← HBQ.out.1]
  clear HW
  go_loopw [19] (fun i wr => ∃ (k : Nat), k ≤ 2 ∧ i = .int .i64 k ∧ ∃ (a0 a1 a2 a3 b0 b1 b2 b3 h0 h1 l0 l1 : Value), OpI W wr s B0 B1 B2 B3 k a0 a1 a2 a3 b0 b1 b2 b3 h0 h1 l0 l1) (fun i _ => 2 - (intOf i).toNat)
  case atStart => exact ⟨0, by omega, rfl, _, _, _, _, _, _, _, _, _, _, _, _, HW0.out, Keep.refl _ _, fun _ => ⟨rfl, rfl, rfl, rfl, rfl, rfl⟩, fun _ => ⟨rfl, rfl, rfl, rfl, rfl, rfl⟩, fun h => by omega, fun h => by omega⟩
  case round =>
    obtain ⟨k, hk, rfl, a0, a1, a2, a3, b0, b1, b2, b3, h0, h1, l0, l1, hI⟩ := hrel
    obtain rfl | rfl | rfl : k = 0 ∨ k = 1 ∨ k = 2 := by omega
    · obtain ⟨rfl, rfl, rfl, rfl, rfl, rfl⟩ := hI.za (by omega)
      have hFr := HFW.out.1.keep hI.keep HFW.out.2
      have HRd := Lib.hid (flash_Read_yes wr hFr 0 (by omega) HD.out (by have := HOK.out.bank 0; omega))
      have hbn := HOK.out.bank 0
      obtain ⟨bb, hbb⟩ : ∃ bb, bb = bankF s 0 := ⟨_, rfl⟩
      rw [← hbb] at HRd hbn
      obtain ⟨n, hn⟩ : ∃ n, n = bb.length := ⟨_, rfl⟩
      rw [← hn] at HRd hbn
      have HI := Lib.hid hI
      have HNB := Lib.hid (And.intro hn hbb)
      clear hI hFr hn hbb
      go_wp2_with fail
      refine HRd.out.mono ?_
      rintro e wa ⟨rfl, o1, hb1⟩
      clear HRd
      have HR1 := Lib.hid (read_any wa (own_sl' o1).2.1 hbn)
      clear o1
      go_wp2_with fail
      refine HR1.out.mono ?_
      rintro e wb ⟨ep, gd, sv, v, rfl, hb2, ⟨A, n1, c1, rfl⟩, ⟨A2, n2, c2, rfl⟩, hct⟩
      clear HR1
      have hb12 := bthen hb1 hb2
      have bx := HI.out.bx.below hb12
      obtain ⟨X, hX⟩ : ∃ X, X = (readB bb).isSome := ⟨_, rfl⟩
      rw [← hX]
      have y0 : wb.cell? ⟨B1, 0, none⟩ = some (.int .i64 0) := box_cell bx.all 0 _ rfl
      have yf0 := box_free bx.all 0
      have y1 : wb.cell? ⟨B1, 1, none⟩ = some (.slice none 0 0) := box_cell bx.all 1 _ rfl
      have yf1 := box_free bx.all 1
      have y2 : wb.cell? ⟨B1, 2, none⟩ = some (.slice none 0 0) := box_cell bx.all 2 _ rfl
      have yf2 := box_free bx.all 2
      have y3 : wb.cell? ⟨B1, 3, none⟩ = some (.int .i64 0) := box_cell bx.all 3 _ rfl
      have yf3 := box_free bx.all 3
      have y4 : wb.cell? ⟨B2, 0, none⟩ = some (.bool false) := box_cell bx.hd 0 _ rfl
      have yf4 := box_free bx.hd 0
      have y5 : wb.cell? ⟨B3, 0, none⟩ = some (.int .i64 0) := box_cell bx.ln 0 _ rfl
      have yf5 := box_free bx.ln 0
      have HS := Lib.hid (bx.set0 HNE.out (.int .i64 ep) (.slice A n1 c1) (.slice A2 n2 c2) (.int .i64 gd) (.bool X) (.int .i64 n))
      have HK : Hid (Keep [B1, B2, B3] W wb) := Lib.hid (HI.out.keep.trans (Keep.of_below hb12 _))
      have hWa : W.heap.size ≤ wa.heap.size := Nat.le_trans HI.out.keep.size hb1.size
      have hlM : ∀ x ∈ [B1, B2, B3], x < W.heap.size := HLT.out
      have HRV : Hid (RV W _ s.b0 (.int .i64 ep) (.slice A n1 c1) (.slice A2 n2 c2) (.int .i64 gd) (.bool X) (.int .i64 n)) := Lib.hid ⟨ep, gd, A, n1, c1, A2, n2, c2, rfl, rfl, rfl, rfl, by rw [hX, HNB.out.2]; rfl, by rw [HNB.out.1, HNB.out.2]; rfl, fun ct hc => by
        obtain ⟨t1, t2, t3⟩ := hct ct (by rw [HNB.out.2]; exact hc)
        exact ⟨t1, t2, (t3.base hWa).keep HS.out.2 hlM⟩⟩
      have HZb := Lib.hid (HI.out.zb (by omega))
      obtain ⟨d1, d2, d3, d4, d5, d6⟩ := HNEs.out
      clear hb1 hb2 hb12 bx hX hct hWa hlM
      go_wp2
      first | go_roundw | refine ⟨?rel, ?measure⟩
      case rel => exact ⟨1, by omega, by go_num, _, _, _, _, _, _, _, _, _, _, _, _, ⟨HS.out.1, HK.out.trans HS.out.2, fun h => by omega, fun _ => HZb.out, fun _ => HRV.out, fun h => by omega⟩⟩
      case measure => simp [intOf]
    · obtain ⟨rfl, rfl, rfl, rfl, rfl, rfl⟩ := hI.zb (by omega)
      have hFr := HFW.out.1.keep hI.keep HFW.out.2
      have HRd := Lib.hid (flash_Read_yes wr hFr 1 (by omega) HD.out (by have := HOK.out.bank 1; omega))
      have hbn := HOK.out.bank 1
      obtain ⟨bb, hbb⟩ : ∃ bb, bb = bankF s 1 := ⟨_, rfl⟩
      rw [← hbb] at HRd hbn
      obtain ⟨n, hn⟩ : ∃ n, n = bb.length := ⟨_, rfl⟩
      rw [← hn] at HRd hbn
      have HI := Lib.hid hI
      have HNB := Lib.hid (And.intro hn hbb)
      clear hI hFr hn hbb
      go_wp2_with fail
      refine HRd.out.mono ?_
      rintro e wa ⟨rfl, o1, hb1⟩
      clear HRd
      have HR1 := Lib.hid (read_any wa (own_sl' o1).2.1 hbn)
      clear o1
      go_wp2_with fail
      refine HR1.out.mono ?_
      rintro e wb ⟨ep, gd, sv, v, rfl, hb2, ⟨A, n1, c1, rfl⟩, ⟨A2, n2, c2, rfl⟩, hct⟩
      clear HR1
      have hb12 := bthen hb1 hb2
      have bx := HI.out.bx.below hb12
      obtain ⟨X, hX⟩ : ∃ X, X = (readB bb).isSome := ⟨_, rfl⟩
      rw [← hX]
      have y0 : wb.cell? ⟨B1, 4, none⟩ = some (.int .i64 0) := box_cell bx.all 4 _ rfl
      have yf0 := box_free bx.all 4
      have y1 : wb.cell? ⟨B1, 5, none⟩ = some (.slice none 0 0) := box_cell bx.all 5 _ rfl
      have yf1 := box_free bx.all 5
      have y2 : wb.cell? ⟨B1, 6, none⟩ = some (.slice none 0 0) := box_cell bx.all 6 _ rfl
      have yf2 := box_free bx.all 6
      have y3 : wb.cell? ⟨B1, 7, none⟩ = some (.int .i64 0) := box_cell bx.all 7 _ rfl
      have yf3 := box_free bx.all 7
      have y4 : wb.cell? ⟨B2, 1, none⟩ = some (.bool false) := box_cell bx.hd 1 _ rfl
      have yf4 := box_free bx.hd 1
      have y5 : wb.cell? ⟨B3, 1, none⟩ = some (.int .i64 0) := box_cell bx.ln 1 _ rfl
      have yf5 := box_free bx.ln 1
      have HS := Lib.hid (bx.set1 HNE.out (.int .i64 ep) (.slice A n1 c1) (.slice A2 n2 c2) (.int .i64 gd) (.bool X) (.int .i64 n))
      have HK : Hid (Keep [B1, B2, B3] W wb) := Lib.hid (HI.out.keep.trans (Keep.of_below hb12 _))
      have hWa : W.heap.size ≤ wa.heap.size := Nat.le_trans HI.out.keep.size hb1.size
      have hlM : ∀ x ∈ [B1, B2, B3], x < W.heap.size := HLT.out
      have HRV : Hid (RV W _ s.b1 (.int .i64 ep) (.slice A n1 c1) (.slice A2 n2 c2) (.int .i64 gd) (.bool X) (.int .i64 n)) := Lib.hid ⟨ep, gd, A, n1, c1, A2, n2, c2, rfl, rfl, rfl, rfl, by rw [hX, HNB.out.2]; rfl, by rw [HNB.out.1, HNB.out.2]; rfl, fun ct hc => by
        obtain ⟨t1, t2, t3⟩ := hct ct (by rw [HNB.out.2]; exact hc)
        exact ⟨t1, t2, (t3.base hWa).keep HS.out.2 hlM⟩⟩
      have HRA := Lib.hid (((HI.out.ra (by omega)).keep (Keep.of_below hb12 []) (by simp)).keep HS.out.2 hlM)
      obtain ⟨d1, d2, d3, d4, d5, d6⟩ := HNEs.out
      clear hb1 hb2 hb12 bx hX hct hWa hlM
      go_wp2
      first | go_roundw | refine ⟨?rel, ?measure⟩
      case rel => exact ⟨2, by omega, by go_num, _, _, _, _, _, _, _, _, _, _, _, _, ⟨HS.out.1, HK.out.trans HS.out.2, fun h => by omega, fun h => by omega, fun _ => HRA.out, fun _ => HRV.out⟩⟩
      case measure => simp [intOf]
    · obtain ⟨e1, g1, A1, n1, k1, D1, m1, j1, rfl, rfl, rfl, rfl, rfl, rfl, hct⟩ := (hI.rb (by omega)).out
      obtain ⟨e0, g0, A0, n0, k0, D0, m0, j0, rfl, rfl, rfl, rfl, rfl, rfl, hcto⟩ := (hI.ra (by omega)).out
      obtain ⟨rfl, rfl, hcr⟩ := hct c r1
      obtain ⟨A, Av, n, cp, cv, vs, hA1, hA2, hCI⟩ := hcr.in_
      injection hA1 with hA1a hA1b hA1c
      injection hA2 with hA2a hA2b hA2c
      subst hA1a hA1b hA1c hA2a hA2b hA2c
      have bx := hI.bx
      rw [r1, r0] at bx
      obtain ⟨rfl, -, -⟩ := hcto c2 r0
      have hepi : (c2.epoch : Int) < (c.epoch : Int) := by omega
      have x0 : wr.cell? ⟨B2, 0, none⟩ = some (.bool true) := box_cell bx.hd 0 _ rfl
      have x1 : wr.cell? ⟨B2, 1, none⟩ = some (.bool true) := box_cell bx.hd 1 _ rfl
      have x2 : wr.cell? ⟨B1, 4, none⟩ = some (.int .i64 c.epoch) := box_cell bx.all 4 _ rfl
      have x3 : wr.cell? ⟨B1, 5, none⟩ = some (.slice A1 n1 k1) := box_cell bx.all 5 _ rfl
      have x4 : wr.cell? ⟨B1, 6, none⟩ = some (.slice D1 c.recs.length j1) := box_cell bx.all 6 _ rfl
      have x5 : wr.cell? ⟨B1, 7, none⟩ = some (.int .i64 c.good) := box_cell bx.all 7 _ rfl
      have x6 : wr.cell? ⟨B1, 0, none⟩ = some (.int .i64 c2.epoch) := box_cell bx.all 0 _ rfl
      obtain ⟨wj, hwj⟩ : ∃ wj, wj = ((wr.alloc (.cells #[.int .i64 c.epoch, .slice A1 n1 k1, .slice D1 c.recs.length j1, .int .i64 c.good] 162)).alloc (.cells #[.iface 23 (.pointer (some ⟨p, 0, none⟩)), .int .i64 1, .int .i64 c.epoch, .int .i64 c.recs.length, .int .i64 c.good, .bool false] 169)) := ⟨_, rfl⟩
      have hbj : Below wr.heap.size wr wj := by rw [hwj]; exact ((Below.refl _ wr).alloc (Nat.le_refl _) _).alloc (by simp) _
      have zc : wj.heap[wr.heap.size]? = some (.cells #[.int .i64 c.epoch, .slice A1 n1 k1, .slice D1 c.recs.length j1, .int .i64 c.good] 162 (0, 0)) := by rw [hwj]; exact heap_new1 wr _ _
      have JO : Jo wj (wr.heap.size + 1) p (jOf 1 c) := by rw [hwj]; exact heap_new2 wr _ _
      have hszj : wj.heap.size = wr.heap.size + 2 := by rw [hwj]; simp
      obtain ⟨LN, hLN⟩ : ∃ LN, LN = s.b1.length := ⟨_, rfl⟩
      rw [← hLN] at bx
      have ok := readB_ok r1
      have HLG : Hid (c.good ≤ LN) := Lib.hid (by rw [hLN]; exact ok.good)
      have hLN2 : LN ≤ 1048576 := by have h1 := HOK.out.bank 1; rw [show bankF s 1 = s.b1 from rfl, ← hLN] at h1; exact h1
      have HCH : Hid (chosenF (readB s.b0) (readB s.b1) = some (1, c)) := Lib.hid (by rw [r0, r1]; simp only [chosenF]; rw [if_pos (by omega)])
      have HO1 : Hid (openF s = if (openC s 1 c).2.2 ≠ 0 then (none, (openC s 1 c).2) else (some ((openC s 1 c).1, c, LN - c.good), (openC s 1 c).2)) := Lib.hid (by rw [openF, if_neg (by rw [HD.out]; simp), HCH.out, hLN]; rfl)
      have HOC : Hid (openC s 1 c = if c.good < LN then (if (mvF (jOf 1 c) s c).2.2 ≠ 0 then mvF (jOf 1 c) s c else ((mvF (jOf 1 c) s c).1, clrF (mvF (jOf 1 c) s c).2.1 (1 - (mvF (jOf 1 c) s c).1.bank))) else (jOf 1 c, clrF s (1 - 1))) := Lib.hid (by rw [openC, hLN]; rfl)
      have hww : Below w.heap.size w wr := hI.keep.below HWb.out.1 HWb.out.1.size (fun x hx => by have h1 := HBQ.out; simp at hx; omega)
      have hWr := hI.keep.size
      have l0 : wj.cell? ⟨B3, 1, none⟩ = some (.int .i64 LN) := cell_below (box_cell bx.ln 1 _ rfl) hbj
      have l1 : wj.cell? ⟨wr.heap.size, 3, none⟩ = some (.int .i64 c.good) := box_cell zc 3 _ rfl
      have HFj := (HFW.out.1.keep hI.keep HFW.out.2).below hbj
      obtain ⟨q, hq⟩ : ∃ q, q = wr.heap.size + 1 := ⟨_, rfl⟩
      obtain ⟨bc, hbc⟩ : ∃ bc, bc = wr.heap.size := ⟨_, rfl⟩
      have hqG : q ∉ G := fun hx => by have h1 := HF0.out.lts q hx; have h2 := HWb.out.2; omega
      rw [← hq] at JO
      have J0 := JF.start HFj JO hqG
      rw [← hbc] at l1 zc
      have HZJ := Lib.hid (heap_below bx.z hbj)
      have HCJ := Lib.hid zc
      have HB0q : Hid (B0 ∉ q :: G) := Lib.hid (fun hx => by
        rcases List.mem_cons.1 hx with h | h
        · have h1 := HBQ.out.1; have h2 := HWb.out.2; omega
        · have h1 := HBQ.out.1; have h2 := HF0.out.lts _ h; omega)
      have HBC : Hid (B0 < q ∧ B0 < bc ∧ bc ∉ q :: G) := Lib.hid ⟨by have h1 := HBQ.out.1; have h2 := HWb.out.2; omega, by have h1 := HBQ.out.1; have h2 := HWb.out.2; omega, fun hx => by
        rcases List.mem_cons.1 hx with h | h
        · omega
        · have h2 := HF0.out.lts _ h; have h3 := HWb.out.2; omega⟩
      have HWJ : Hid (Below w.heap.size w wj ∧ w.heap.size ≤ q ∧ B0 < wj.heap.size) := Lib.hid ⟨bthen hww hbj, by have h2 := HWb.out.2; omega, by have h1 := HBQ.out.1; have h2 := HWb.out.2; omega⟩
      have HWRJ : Hid (wr.heap.size < wj.heap.size ∧ wr.heap.size < q ∧ wr.heap.size = bc) := Lib.hid ⟨by omega, by omega, by omega⟩
      have HCA : Hid (∀ x, W.heap.size ≤ x ∧ x < wr.heap.size → x ∉ q :: G) := Lib.hid (fun x hx hm => by
        rcases List.mem_cons.1 hm with h | h
        · omega
        · have h2 := HF0.out.lts _ h; have h3 := HWb.out.2; omega)
      have HCI := Lib.hid (hCI.below hbj)
      have HOKc := Lib.hid ok
      have HJ0 := Lib.hid J0
      have HWj := Lib.hid hwj
      have HQ := Lib.hid (And.intro hq hbc)
      have hqB : bc ≠ q := by omega
      clear bx hI hct hcto hcr hCI r0 r1 hbj zc JO hszj ok hww HFj hqG J0 hwj hLN hWr
      go_wp2_with fail
      rw [← HWj.out, ← HQ.out.1, ← HQ.out.2]
      clear x0 x1 x2 x3 x4 x5 x6 hq hbc HQ HWj
      have hlg2 := HLG.out
      refine wp_region_held_drew (S := (fun w' => w'.cell? ⟨B3, 1, none⟩ = some (.int .i64 LN) ∧ w'.cell? ⟨bc, 3, none⟩ = some (.int .i64 c.good))) (by kernel_rfl) (by exact ⟨l0, l1⟩) (fun hHeld => ?_)
      refine wpAnyH_take (i := 0) (v := ?_) (by simp only [List.getElem?_toArray, List.getElem?_cons_succ, List.getElem?_cons_zero]; rfl) (by kernel_rfl) (by kernel_rfl) (by kernel_rfl) (by exact fun _ _ _ h => h) (Or.inl ⟨by rfl, ?_⟩) (by assumption) ?_
      rotate_left
      · (intro w hSw; (try dsimp only at hSw); go_simp; try with_reducible rfl)
      try simp only [Act.put, List.setIfInBounds_toArray, List.set_cons_zero, List.set_cons_succ]
      refine wpAnyH_take (i := 1) (v := ?_) (by simp only [List.getElem?_toArray, List.getElem?_cons_succ, List.getElem?_cons_zero]; rfl) (by kernel_rfl) (by kernel_rfl) (by kernel_rfl) (by exact fun _ _ _ h => h) (Or.inl ⟨by rfl, ?_⟩) (by assumption) ?_
      rotate_left
      · (intro w hSw; (try dsimp only at hSw); go_simp; try with_reducible rfl)
      try simp only [Act.put, List.setIfInBounds_toArray, List.set_cons_zero, List.set_cons_succ]
      refine wpAnyH_take (i := 2) (v := ?_) (by simp only [List.getElem?_toArray, List.getElem?_cons_succ, List.getElem?_cons_zero]; rfl) (by kernel_rfl) (by kernel_rfl) (by kernel_rfl) (by exact fun _ _ _ h => h) (Or.inl ⟨by rfl, ?_⟩) (by assumption) ?_
      rotate_left
      · (intro w hSw; (try dsimp only at hSw); go_simp; try with_reducible rfl)
      try simp only [Act.put, List.setIfInBounds_toArray, List.set_cons_zero, List.set_cons_succ]
      refine wpAnyH_take (i := 3) (v := ?_) (by simp only [List.getElem?_toArray, List.getElem?_cons_succ, List.getElem?_cons_zero]; rfl) (by kernel_rfl) (by kernel_rfl) (by kernel_rfl) (by exact fun _ _ _ h => h) (Or.inl ⟨by rfl, ?_⟩) (by assumption) ?_
      rotate_left
      · (intro w hSw; (try dsimp only at hSw); go_simp; try with_reducible rfl)
      try simp only [Act.put, List.setIfInBounds_toArray, List.set_cons_zero, List.set_cons_succ]
      refine wpAnyH_take (i := 4) (v := ?_) (by simp only [List.getElem?_toArray, List.getElem?_cons_succ, List.getElem?_cons_zero]; rfl) (by kernel_rfl) (by kernel_rfl) (by kernel_rfl) (by exact fun _ _ _ h => h) (Or.inl ⟨by rfl, ?_⟩) (by assumption) ?_
      rotate_left
      · (intro w hSw; (try dsimp only at hSw); go_simp; try with_reducible rfl)
      try simp only [Act.put, List.setIfInBounds_toArray, List.set_cons_zero, List.set_cons_succ]
      refine wpAnyH_take (i := 5) (v := ?_) (by simp only [List.getElem?_toArray, List.getElem?_cons_succ, List.getElem?_cons_zero]; rfl) (by kernel_rfl) (by kernel_rfl) (by kernel_rfl) (by exact fun _ _ _ h => h) (Or.inl ⟨by rfl, ?_⟩) (by assumption) ?_
      rotate_left
      · (intro w hSw; (try dsimp only at hSw); go_simp; try with_reducible rfl)
      try simp only [Act.put, List.setIfInBounds_toArray, List.set_cons_zero, List.set_cons_succ]
      refine wpAnyH_take (i := 6) (v := ?_) (by simp only [List.getElem?_toArray, List.getElem?_cons_succ, List.getElem?_cons_zero]; rfl) (by kernel_rfl) (by kernel_rfl) (by kernel_rfl) (by exact fun _ _ _ h => h) (Or.inl ⟨by rfl, ?_⟩) (by assumption) ?_
      rotate_left
      · (intro w hSw; (try dsimp only at hSw); go_simp; try with_reducible rfl)
      try simp only [Act.put, List.setIfInBounds_toArray, List.set_cons_zero, List.set_cons_succ]
      refine wpAnyH_done (by kernel_rfl) ?_ _
      clear l0 l1
      by_cases ht : c.good < LN
      rotate_left
      · have q1 : (LN : Int) - (c.good : Int) ≤ 0 := by omega
        obtain ⟨j5, hj5⟩ : ∃ j5, j5 = jOf 1 c := ⟨_, rfl⟩
        obtain ⟨s5, hs5⟩ : ∃ s5, s5 = s := ⟨_, rfl⟩
        obtain ⟨G5, hG5⟩ : ∃ G5, G5 = G := ⟨_, rfl⟩
        have HJ5 : Hid (JF wj wj.drew q p G G5 j5 s5) := Lib.hid (by rw [hj5, hs5, hG5]; exact HJ0.out.below (Below.refl _ _).drew)
        have hb5 : j5.bank ≤ 1 := by rw [hj5]; simp [jOf]
        have HOK5 : Hid (FOk s5) := Lib.hid (by rw [hs5]; exact HOK.out)
        have HO5 : Hid (openF s = if (clrF s5 (1 - j5.bank)).2 ≠ 0 then (none, (clrF s5 (1 - j5.bank)).1, (clrF s5 (1 - j5.bank)).2) else (some (j5, c, LN - c.good), (clrF s5 (1 - j5.bank)).1, (clrF s5 (1 - j5.bank)).2)) := Lib.hid (by
          rw [HO1.out, HOC.out, if_neg ht, hj5, hs5]; rfl)
        clear hj5 hs5 hG5 ht HJ0
        have J5 := HJ5.out
        have hj5 := J5.jo
        unfold Jo jCells fI at hj5
        have c1 : wj.drew.cell? ⟨q, 1, none⟩ = some (.int .i64 j5.bank) := box_cell hj5 1 _ rfl
        have hsub : (1 : Int) - (j5.bank : Int) = ((1 - j5.bank : Nat) : Int) := by omega
        obtain ⟨E3, hE3⟩ : ∃ E3, E3 = (clrF s5 (1 - j5.bank)).2 := ⟨_, rfl⟩
        obtain ⟨s6, hs6⟩ : ∃ s6, s6 = (clrF s5 (1 - j5.bank)).1 := ⟨_, rfl⟩
        have HCl : Hid (∀ w3, Below wj.drew.heap.size wj.drew w3 → Calls Try.prog 105 #[.iface 23 (.pointer (some ⟨p, 0, none⟩)), .int .i64 ((1 : Int) - (j5.bank : Int))] w3 fun e w' => e = .returned (.int .i64 (E3 : Nat)) ∧ FStep w3 w' p G5 s6) := Lib.hid fun w3 k => by rw [hsub, hE3, hs6]; exact cleared_any w3 (J5.fl.below k) HOK5.out (1 - j5.bank) (by omega)
        have HO6 : Hid (openF s = if E3 ≠ 0 then (none, s6, E3) else (some (j5, c, LN - c.good), s6, E3)) := Lib.hid (by rw [HO5.out, hE3, hs6])
        clear J5 hj5 hsub hE3 hs6
        go_wp2_with fail
        refine (HCl.out _ (Below.refl _ _)).mono ?_
        rintro e w6 ⟨rfl, k6⟩
        obtain ⟨G6, J6⟩ := HJ5.out.step k6
        have hB0q : B0 ∉ q :: G := HB0q.out
        have zz := J6.keep.heap HZJ.out hB0q
        have zc6 := J6.keep.heap HCJ.out (by have := HBC.out.2.2; exact this)
        have HZ6 := Lib.hid zz
        have H6 := Lib.hid J6
        have z0 : w6.cell? ⟨B0, 0, none⟩ = some (.int .i64 0) := box_cell zz 0 _ rfl
        have zf0 := box_free zz 0
        have z1 : w6.cell? ⟨B0, 1, none⟩ = some (.slice none 0 0) := box_cell zz 1 _ rfl
        have zf1 := box_free zz 1
        have z2 : w6.cell? ⟨B0, 2, none⟩ = some (.slice none 0 0) := box_cell zz 2 _ rfl
        have zf2 := box_free zz 2
        have z3 : w6.cell? ⟨B0, 3, none⟩ = some (.int .i64 0) := box_cell zz 3 _ rfl
        have zf3 := box_free zz 3
        have hj6 := J6.jo
        unfold Jo jCells fI at hj6
        have S6 : w6.cell? ⟨q, 2, none⟩ = some (.int .i64 j5.epoch) ∧ w6.cell? ⟨bc, 1, none⟩ = some (.slice A1 n1 k1) ∧ w6.cell? ⟨bc, 2, none⟩ = some (.slice D1 c.recs.length j1) := ⟨box_cell hj6 2 _ rfl, box_cell zc6 1 _ rfl, box_cell zc6 2 _ rfl⟩
        clear zz zc6 J6 hj6 k6 HCl c1 hB0q
        by_cases h3 : E3 = 0
        rotate_left
        · have q3 : ((E3 : Int) != 0) = true := by simp; omega
          have HX3 := Lib.hid h3
          clear h3
          go_wp2
          have z9 := set4 (.int .i64 0) (.slice none 0 0) (.slice none 0 0) (.int .i64 0) HZ6.out
          refine bodyPost_ret (results_tct (P := Try.prog) rfl _ _ _ _ _ _ _ (by rfl) z9.1 Try.underlying100 rfl (by kernel_rfl)) rfl ?_
          obtain ⟨o1, o2, o3, o4⟩ := H6.out.opened HWJ.out.1 HWJ.out.2.1 z9.2 HBQ.out.1 HWJ.out.2.2 HF0.out.lts
          have hO := HO6.out
          rw [if_pos HX3.out] at hO
          refine .inl ⟨by rw [hO], by rw [hO]; rfl, ?_⟩
          rw [hO]
          exact ⟨G6, o1, o2, o3⟩
        have q3 : ((E3 : Int) != 0) = false := by simp [h3]
        have HX3 := Lib.hid h3
        have z9 := set4 (.int .i64 j5.epoch) (.slice A1 n1 k1) (.slice D1 c.recs.length j1) (.int .i64 ((LN : Int) - (c.good : Int))) HZ6.out
        have S9 : ∀ {V : World}, Keep [B0] w6 V → V.cell? ⟨q, 2, none⟩ = some (.int .i64 j5.epoch) ∧ V.cell? ⟨bc, 1, none⟩ = some (.slice A1 n1 k1) ∧ V.cell? ⟨bc, 2, none⟩ = some (.slice D1 c.recs.length j1) := fun {V} k => ⟨k.cell S6.1 (by have := HBC.out.1; simp; omega), k.cell S6.2.1 (by have := HBC.out.2.1; simp; omega), k.cell S6.2.2 (by have := HBC.out.2.1; simp; omega)⟩
        have H9 := Lib.hid (And.intro z9 (S9 z9.2))
        clear h3 z9 S9
        go_wp2_with fail
        refine wp_region_held_drew (S := (fun w' => w'.cell? ⟨q, 2, none⟩ = some (.int .i64 j5.epoch) ∧ w'.cell? ⟨bc, 1, none⟩ = some (.slice A1 n1 k1) ∧ w'.cell? ⟨bc, 2, none⟩ = some (.slice D1 c.recs.length j1))) (by kernel_rfl) (by (first | exact S6 | exact H9.out.2)) (fun hHeld => ?_)
        refine wpAnyH_take (i := 0) (v := ?_) (by simp only [List.getElem?_toArray, List.getElem?_cons_succ, List.getElem?_cons_zero]; rfl) (by kernel_rfl) (by kernel_rfl) (by kernel_rfl) (by exact fun _ _ _ h => h) (Or.inl ⟨by rfl, ?_⟩) (by assumption) ?_
        rotate_left
        · (intro w hSw; (try dsimp only at hSw); go_simp; try with_reducible rfl)
        try simp only [Act.put, List.setIfInBounds_toArray, List.set_cons_zero, List.set_cons_succ]
        refine wpAnyH_take (i := 1) (v := ?_) (by simp only [List.getElem?_toArray, List.getElem?_cons_succ, List.getElem?_cons_zero]; rfl) (by kernel_rfl) (by kernel_rfl) (by kernel_rfl) (by exact fun _ _ _ h => h) (Or.inl ⟨by rfl, ?_⟩) (by assumption) ?_
        rotate_left
        · (intro w hSw; (try dsimp only at hSw); go_simp; try with_reducible rfl)
        try simp only [Act.put, List.setIfInBounds_toArray, List.set_cons_zero, List.set_cons_succ]
        refine wpAnyH_take (i := 2) (v := ?_) (by simp only [List.getElem?_toArray, List.getElem?_cons_succ, List.getElem?_cons_zero]; rfl) (by kernel_rfl) (by kernel_rfl) (by kernel_rfl) (by exact fun _ _ _ h => h) (Or.inl ⟨by rfl, ?_⟩) (by assumption) ?_
        rotate_left
        · (intro w hSw; (try dsimp only at hSw); go_simp; try with_reducible rfl)
        try simp only [Act.put, List.setIfInBounds_toArray, List.set_cons_zero, List.set_cons_succ]
        refine wpAnyH_take (i := 3) (v := ?_) (by simp only [List.getElem?_toArray, List.getElem?_cons_succ, List.getElem?_cons_zero]; rfl) (by kernel_rfl) (by kernel_rfl) (by kernel_rfl) (by exact fun _ _ _ h => h) (Or.inl ⟨by rfl, ?_⟩) (by assumption) ?_
        rotate_left
        · (intro w hSw; (try dsimp only at hSw); go_simp; try with_reducible rfl)
        try simp only [Act.put, List.setIfInBounds_toArray, List.set_cons_zero, List.set_cons_succ]
        refine wpAnyH_take (i := 4) (v := ?_) (by simp only [List.getElem?_toArray, List.getElem?_cons_succ, List.getElem?_cons_zero]; rfl) (by kernel_rfl) (by kernel_rfl) (by kernel_rfl) (by exact fun _ _ _ h => h) (Or.inl ⟨by rfl, ?_⟩) (by assumption) ?_
        rotate_left
        · (intro w hSw; (try dsimp only at hSw); go_simp; try with_reducible rfl)
        try simp only [Act.put, List.setIfInBounds_toArray, List.set_cons_zero, List.set_cons_succ]
        refine wpAnyH_take (i := 5) (v := ?_) (by simp only [List.getElem?_toArray, List.getElem?_cons_succ, List.getElem?_cons_zero]; rfl) (by kernel_rfl) (by kernel_rfl) (by kernel_rfl) (by exact fun _ _ _ h => h) (Or.inl ⟨by rfl, ?_⟩) (by assumption) ?_
        rotate_left
        · (intro w hSw; (try dsimp only at hSw); go_simp; try with_reducible rfl)
        try simp only [Act.put, List.setIfInBounds_toArray, List.set_cons_zero, List.set_cons_succ]
        refine wpAnyH_take (i := 6) (v := ?_) (by simp only [List.getElem?_toArray, List.getElem?_cons_succ, List.getElem?_cons_zero]; rfl) (by kernel_rfl) (by kernel_rfl) (by kernel_rfl) (by exact fun _ _ _ h => h) (Or.inl ⟨by rfl, ?_⟩) (by assumption) ?_
        rotate_left
        · (intro w hSw; (try dsimp only at hSw); go_simp; try with_reducible rfl)
        try simp only [Act.put, List.setIfInBounds_toArray, List.set_cons_zero, List.set_cons_succ]
        refine wpAnyH_take (i := 7) (v := ?_) (by simp only [List.getElem?_toArray, List.getElem?_cons_succ, List.getElem?_cons_zero]; rfl) (by kernel_rfl) (by kernel_rfl) (by kernel_rfl) (by exact fun _ _ _ h => h) (Or.inl ⟨by rfl, ?_⟩) (by assumption) ?_
        rotate_left
        · (intro w hSw; (try dsimp only at hSw); go_simp; try with_reducible rfl)
        try simp only [Act.put, List.setIfInBounds_toArray, List.set_cons_zero, List.set_cons_succ]
        refine wpAnyH_take (i := 8) (v := ?_) (by simp only [List.getElem?_toArray, List.getElem?_cons_succ, List.getElem?_cons_zero]; rfl) (by kernel_rfl) (by kernel_rfl) (by kernel_rfl) (by exact fun _ _ _ h => h) (Or.inl ⟨by rfl, ?_⟩) (by assumption) ?_
        rotate_left
        · (intro w hSw; (try dsimp only at hSw); go_simp; try with_reducible rfl)
        try simp only [Act.put, List.setIfInBounds_toArray, List.set_cons_zero, List.set_cons_succ]
        refine wpAnyH_take (i := 9) (v := ?_) (by simp only [List.getElem?_toArray, List.getElem?_cons_succ, List.getElem?_cons_zero]; rfl) (by kernel_rfl) (by kernel_rfl) (by kernel_rfl) (by exact fun _ _ _ h => h) (Or.inl ⟨by rfl, ?_⟩) (by assumption) ?_
        rotate_left
        · (intro w hSw; (try dsimp only at hSw); go_simp; try with_reducible rfl)
        try simp only [Act.put, List.setIfInBounds_toArray, List.set_cons_zero, List.set_cons_succ]
        refine wpAnyH_take (i := 10) (v := ?_) (by simp only [List.getElem?_toArray, List.getElem?_cons_succ, List.getElem?_cons_zero]; rfl) (by kernel_rfl) (by kernel_rfl) (by kernel_rfl) (by exact fun _ _ _ h => h) (Or.inl ⟨by rfl, ?_⟩) (by assumption) ?_
        rotate_left
        · (intro w hSw; (try dsimp only at hSw); go_simp; try with_reducible rfl)
        try simp only [Act.put, List.setIfInBounds_toArray, List.set_cons_zero, List.set_cons_succ]
        refine wpAnyH_take (i := 11) (v := ?_) (by simp only [List.getElem?_toArray, List.getElem?_cons_succ, List.getElem?_cons_zero]; rfl) (by kernel_rfl) (by kernel_rfl) (by kernel_rfl) (by exact fun _ _ _ h => h) (Or.inl ⟨by rfl, ?_⟩) (by assumption) ?_
        rotate_left
        · (intro w hSw; (try dsimp only at hSw); go_simp; try with_reducible rfl)
        try simp only [Act.put, List.setIfInBounds_toArray, List.set_cons_zero, List.set_cons_succ]
        refine wpAnyH_ready (rs := [12]) (by kernel_rfl) (by simp) ?_
        refine AllReadyH.cons rfl (fun K hK => ?_) AllReadyH.nil
        rw [if_pos (by rfl)]
        (go_wp2_with fail)
        refine hK.out _ _ (by (first | exact S6 | exact H9.out.2)) (fun hHeld => ?_)
        clear hK K
        try simp only [Act.put, List.setIfInBounds_toArray, List.set_cons_zero, List.set_cons_succ]
        refine wpAnyH_take (i := 13) (v := ?_) (by simp only [List.getElem?_toArray, List.getElem?_cons_succ, List.getElem?_cons_zero]; rfl) (by kernel_rfl) (by kernel_rfl) (by kernel_rfl) (by exact fun _ _ _ h => h) (Or.inl ⟨by rfl, ?_⟩) (by assumption) ?_
        rotate_left
        · (intro w hSw; (try dsimp only at hSw); go_simp; try with_reducible rfl)
        try simp only [Act.put, List.setIfInBounds_toArray, List.set_cons_zero, List.set_cons_succ]
        refine wpAnyH_done (by kernel_rfl) ?_ _
        go_wp2
        refine bodyPost_ret (results_tct (P := Try.prog) rfl _ _ _ _ _ _ _ (by rfl) H9.out.1.1 Try.underlying100 rfl (by kernel_rfl)) rfl ?_
        obtain ⟨o1, o2, o3, o4⟩ := H6.out.opened HWJ.out.1 HWJ.out.2.1 H9.out.1.2.drew HBQ.out.1 HWJ.out.2.2 HF0.out.lts
        have hO := HO6.out
        rw [if_neg (by rw [HX3.out]; simp)] at hO
        have hlg := HLG.out
        refine .inr ⟨j5, c, LN - c.good, q, A1, D1, n1, k1, j1, vs, G6, by rw [hO], by rw [hO]; exact HX3.out, ?_, by rw [hO]; exact o1, H6.out.jo.keep H9.out.1.2.drew (by have := HBC.out.1; simp; omega), H6.out.qG, HWJ.out.2.1, o2, o3, ?_⟩
        · rw [show (((LN - c.good : Nat)) : Int) = (LN : Int) - (c.good : Int) by omega]
          rfl
        · refine ((HCI.out.keep H6.out.keep (fun x hx => HCA.out x hx)).keep H9.out.1.2.drew (fun x hx => ?_)).mono (fun x hx => ?_)
          · have h1 := HBQ.out.1; have h2 := HWb.out.2; simp; omega
          · have h1 := HBQ.out.1; have h2 := HWb.out.2
            have h5 := H6.out.keep.size
            have h6 := H9.out.1.2.drew.size
            refine ⟨by omega, by have := HWRJ.out; omega, by have := HWRJ.out; have := HBC.out.2.1; omega, fun hm => ?_⟩
            rcases H6.out.out x hm with h7 | h7
            · have := HF0.out.lts x h7; omega
            · have := HWRJ.out; omega
      · have q1 : (0 : Int) < (LN : Int) - (c.good : Int) := by omega
        have hcj : wj.drew.heap[bc]? = some (.cells #[.int .i64 c.epoch, .slice A1 n1 k1, .slice D1 c.recs.length j1, .int .i64 c.good] 162 (0, 0)) := HCJ.out
        have v0 : wj.drew.cell? ⟨bc, 0, none⟩ = some (.int .i64 c.epoch) := box_cell hcj 0 _ rfl
        have v1 : wj.drew.cell? ⟨bc, 1, none⟩ = some (.slice A1 n1 k1) := box_cell hcj 1 _ rfl
        have v2 : wj.drew.cell? ⟨bc, 2, none⟩ = some (.slice D1 c.recs.length j1) := box_cell hcj 2 _ rfl
        have v3 : wj.drew.cell? ⟨bc, 3, none⟩ = some (.int .i64 c.good) := box_cell hcj 3 _ rfl
        have J1 := HJ0.out.below (Below.refl _ _).drew
        have hok := HOKc.out
        have hlg3 := HLG.out
        have HM := Lib.hid (move_any wj.drew J1.jo J1.fl J1.qG HN.out.1 (by have := HN.out.2; omega) (by simp [jOf]) hok.ep2 ((HCI.out.below (Below.refl _ _).drew).mono HCA.out) rfl hok.snap hok.recs (by rw [hok.tot]; omega) (by have := hok.few; omega) c.good)
        obtain ⟨E2, hE2⟩ : ∃ x, x = (mvF (jOf 1 c) s c).2.2 := ⟨_, rfl⟩
        obtain ⟨s5, hs5⟩ : ∃ x, x = (mvF (jOf 1 c) s c).2.1 := ⟨_, rfl⟩
        obtain ⟨j5, hj5⟩ : ∃ x, x = (mvF (jOf 1 c) s c).1 := ⟨_, rfl⟩
        rw [← hE2, ← hs5, ← hj5] at HM
        have hb5 : j5.bank ≤ 1 := by rw [hj5]; exact mvF_bank _ _ _ (by simp [jOf])
        have HOK5 : Hid (FOk s5) := Lib.hid (by rw [hs5]; exact (mvF_ok (jOf 1 c) c HN.out.1 (by simp [jOf])).ok (by have := HN.out.2; omega))
        have HO4 : Hid (openF s = if (if E2 ≠ 0 then (j5, s5, E2) else (j5, clrF s5 (1 - j5.bank))).2.2 ≠ 0 then (none, (if E2 ≠ 0 then (j5, s5, E2) else (j5, clrF s5 (1 - j5.bank))).2) else (some ((if E2 ≠ 0 then (j5, s5, E2) else (j5, clrF s5 (1 - j5.bank))).1, c, LN - c.good), (if E2 ≠ 0 then (j5, s5, E2) else (j5, clrF s5 (1 - j5.bank))).2)) := Lib.hid (by
          rw [HO1.out, HOC.out, if_pos ht, hE2, hs5, hj5])
        have HQG := Lib.hid (And.intro J1.qG J1.q0)
        clear hcj J1 hok hlg3 hE2 hs5 hj5 ht HJ0
        go_wp2_with fail
        refine HM.out.mono ?_
        rintro e w5 ⟨rfl, hjs⟩
        clear HM v0 v1 v2 v3
        obtain ⟨G5, J5a⟩ := JF.of_step hjs ((Keep.refl (q :: G) wj).drew) rfl HQG.out.1 HQG.out.2
        have HJ5 := Lib.hid J5a
        clear hjs J5a
        by_cases h2 : E2 = 0
        rotate_left
        · have q3 : ((E2 : Int) == 0) = false := by simp; omega
          have q4 : ((E2 : Int) != 0) = true := by simp; omega
          have HX2 := Lib.hid h2
          have HZ6 := Lib.hid (HJ5.out.keep.heap HZJ.out HB0q.out)
          have zz := HZ6.out
          have z0 : w5.cell? ⟨B0, 0, none⟩ = some (.int .i64 0) := box_cell zz 0 _ rfl
          have zf0 := box_free zz 0
          have z1 : w5.cell? ⟨B0, 1, none⟩ = some (.slice none 0 0) := box_cell zz 1 _ rfl
          have zf1 := box_free zz 1
          have z2 : w5.cell? ⟨B0, 2, none⟩ = some (.slice none 0 0) := box_cell zz 2 _ rfl
          have zf2 := box_free zz 2
          have z3 : w5.cell? ⟨B0, 3, none⟩ = some (.int .i64 0) := box_cell zz 3 _ rfl
          have zf3 := box_free zz 3
          clear zz h2
          go_wp2
          have z9 := set4 (.int .i64 0) (.slice none 0 0) (.slice none 0 0) (.int .i64 0) HZ6.out
          refine bodyPost_ret (results_tct (P := Try.prog) rfl _ _ _ _ _ _ _ (by rfl) z9.1 Try.underlying100 rfl (by kernel_rfl)) rfl ?_
          obtain ⟨o1, o2, o3, o4⟩ := HJ5.out.opened HWJ.out.1 HWJ.out.2.1 z9.2 HBQ.out.1 HWJ.out.2.2 HF0.out.lts
          have hO := HO4.out
          rw [if_pos HX2.out, if_pos HX2.out] at hO
          refine .inl ⟨by rw [hO], by rw [hO]; rfl, ?_⟩
          rw [hO]
          exact ⟨G5, o1, o2, o3⟩
        have q3 : ((E2 : Int) == 0) = true := by simp [h2]
        have HO5 : Hid (openF s = if (clrF s5 (1 - j5.bank)).2 ≠ 0 then (none, (clrF s5 (1 - j5.bank)).1, (clrF s5 (1 - j5.bank)).2) else (some (j5, c, LN - c.good), (clrF s5 (1 - j5.bank)).1, (clrF s5 (1 - j5.bank)).2)) := Lib.hid (by
          have h9 := HO4.out
          rw [if_neg (show ¬ (E2 ≠ 0) from fun h => h h2)] at h9
          exact h9)
        clear h2
        have J5 := HJ5.out
        have hj5 := J5.jo
        unfold Jo jCells fI at hj5
        have c1 : w5.cell? ⟨q, 1, none⟩ = some (.int .i64 j5.bank) := box_cell hj5 1 _ rfl
        have hsub : (1 : Int) - (j5.bank : Int) = ((1 - j5.bank : Nat) : Int) := by omega
        obtain ⟨E3, hE3⟩ : ∃ E3, E3 = (clrF s5 (1 - j5.bank)).2 := ⟨_, rfl⟩
        obtain ⟨s6, hs6⟩ : ∃ s6, s6 = (clrF s5 (1 - j5.bank)).1 := ⟨_, rfl⟩
        have HCl : Hid (∀ w3, Below w5.heap.size w5 w3 → Calls Try.prog 105 #[.iface 23 (.pointer (some ⟨p, 0, none⟩)), .int .i64 ((1 : Int) - (j5.bank : Int))] w3 fun e w' => e = .returned (.int .i64 (E3 : Nat)) ∧ FStep w3 w' p G5 s6) := Lib.hid fun w3 k => by rw [hsub, hE3, hs6]; exact cleared_any w3 (J5.fl.below k) HOK5.out (1 - j5.bank) (by omega)
        have HO6 : Hid (openF s = if E3 ≠ 0 then (none, s6, E3) else (some (j5, c, LN - c.good), s6, E3)) := Lib.hid (by rw [HO5.out, hE3, hs6])
        clear J5 hj5 hsub hE3 hs6
        go_wp2_with fail
        refine (HCl.out _ (Below.refl _ _)).mono ?_
        rintro e w6 ⟨rfl, k6⟩
        obtain ⟨G6, J6⟩ := HJ5.out.step k6
        have hB0q : B0 ∉ q :: G := HB0q.out
        have zz := J6.keep.heap HZJ.out hB0q
        have zc6 := J6.keep.heap HCJ.out (by have := HBC.out.2.2; exact this)
        have HZ6 := Lib.hid zz
        have H6 := Lib.hid J6
        have z0 : w6.cell? ⟨B0, 0, none⟩ = some (.int .i64 0) := box_cell zz 0 _ rfl
        have zf0 := box_free zz 0
        have z1 : w6.cell? ⟨B0, 1, none⟩ = some (.slice none 0 0) := box_cell zz 1 _ rfl
        have zf1 := box_free zz 1
        have z2 : w6.cell? ⟨B0, 2, none⟩ = some (.slice none 0 0) := box_cell zz 2 _ rfl
        have zf2 := box_free zz 2
        have z3 : w6.cell? ⟨B0, 3, none⟩ = some (.int .i64 0) := box_cell zz 3 _ rfl
        have zf3 := box_free zz 3
        have hj6 := J6.jo
        unfold Jo jCells fI at hj6
        have S6 : w6.cell? ⟨q, 2, none⟩ = some (.int .i64 j5.epoch) ∧ w6.cell? ⟨bc, 1, none⟩ = some (.slice A1 n1 k1) ∧ w6.cell? ⟨bc, 2, none⟩ = some (.slice D1 c.recs.length j1) := ⟨box_cell hj6 2 _ rfl, box_cell zc6 1 _ rfl, box_cell zc6 2 _ rfl⟩
        clear zz zc6 J6 hj6 k6 HCl c1 hB0q
        by_cases h3 : E3 = 0
        rotate_left
        · have q3 : ((E3 : Int) != 0) = true := by simp; omega
          have HX3 := Lib.hid h3
          clear h3
          go_wp2
          have z9 := set4 (.int .i64 0) (.slice none 0 0) (.slice none 0 0) (.int .i64 0) HZ6.out
          refine bodyPost_ret (results_tct (P := Try.prog) rfl _ _ _ _ _ _ _ (by rfl) z9.1 Try.underlying100 rfl (by kernel_rfl)) rfl ?_
          obtain ⟨o1, o2, o3, o4⟩ := H6.out.opened HWJ.out.1 HWJ.out.2.1 z9.2 HBQ.out.1 HWJ.out.2.2 HF0.out.lts
          have hO := HO6.out
          rw [if_pos HX3.out] at hO
          refine .inl ⟨by rw [hO], by rw [hO]; rfl, ?_⟩
          rw [hO]
          exact ⟨G6, o1, o2, o3⟩
        have q3 : ((E3 : Int) != 0) = false := by simp [h3]
        have HX3 := Lib.hid h3
        have z9 := set4 (.int .i64 j5.epoch) (.slice A1 n1 k1) (.slice D1 c.recs.length j1) (.int .i64 ((LN : Int) - (c.good : Int))) HZ6.out
        have S9 : ∀ {V : World}, Keep [B0] w6 V → V.cell? ⟨q, 2, none⟩ = some (.int .i64 j5.epoch) ∧ V.cell? ⟨bc, 1, none⟩ = some (.slice A1 n1 k1) ∧ V.cell? ⟨bc, 2, none⟩ = some (.slice D1 c.recs.length j1) := fun {V} k => ⟨k.cell S6.1 (by have := HBC.out.1; simp; omega), k.cell S6.2.1 (by have := HBC.out.2.1; simp; omega), k.cell S6.2.2 (by have := HBC.out.2.1; simp; omega)⟩
        have H9 := Lib.hid (And.intro z9 (S9 z9.2))
        clear h3 z9 S9
        go_wp2_with fail
        refine wp_region_held_drew (S := (fun w' => w'.cell? ⟨q, 2, none⟩ = some (.int .i64 j5.epoch) ∧ w'.cell? ⟨bc, 1, none⟩ = some (.slice A1 n1 k1) ∧ w'.cell? ⟨bc, 2, none⟩ = some (.slice D1 c.recs.length j1))) (by kernel_rfl) (by (first | exact S6 | exact H9.out.2)) (fun hHeld => ?_)
        refine wpAnyH_take (i := 0) (v := ?_) (by simp only [List.getElem?_toArray, List.getElem?_cons_succ, List.getElem?_cons_zero]; rfl) (by kernel_rfl) (by kernel_rfl) (by kernel_rfl) (by exact fun _ _ _ h => h) (Or.inl ⟨by rfl, ?_⟩) (by assumption) ?_
        rotate_left
        · (intro w hSw; (try dsimp only at hSw); go_simp; try with_reducible rfl)
        try simp only [Act.put, List.setIfInBounds_toArray, List.set_cons_zero, List.set_cons_succ]
        refine wpAnyH_take (i := 1) (v := ?_) (by simp only [List.getElem?_toArray, List.getElem?_cons_succ, List.getElem?_cons_zero]; rfl) (by kernel_rfl) (by kernel_rfl) (by kernel_rfl) (by exact fun _ _ _ h => h) (Or.inl ⟨by rfl, ?_⟩) (by assumption) ?_
        rotate_left
        · (intro w hSw; (try dsimp only at hSw); go_simp; try with_reducible rfl)
        try simp only [Act.put, List.setIfInBounds_toArray, List.set_cons_zero, List.set_cons_succ]
        refine wpAnyH_take (i := 2) (v := ?_) (by simp only [List.getElem?_toArray, List.getElem?_cons_succ, List.getElem?_cons_zero]; rfl) (by kernel_rfl) (by kernel_rfl) (by kernel_rfl) (by exact fun _ _ _ h => h) (Or.inl ⟨by rfl, ?_⟩) (by assumption) ?_
        rotate_left
        · (intro w hSw; (try dsimp only at hSw); go_simp; try with_reducible rfl)
        try simp only [Act.put, List.setIfInBounds_toArray, List.set_cons_zero, List.set_cons_succ]
        refine wpAnyH_take (i := 3) (v := ?_) (by simp only [List.getElem?_toArray, List.getElem?_cons_succ, List.getElem?_cons_zero]; rfl) (by kernel_rfl) (by kernel_rfl) (by kernel_rfl) (by exact fun _ _ _ h => h) (Or.inl ⟨by rfl, ?_⟩) (by assumption) ?_
        rotate_left
        · (intro w hSw; (try dsimp only at hSw); go_simp; try with_reducible rfl)
        try simp only [Act.put, List.setIfInBounds_toArray, List.set_cons_zero, List.set_cons_succ]
        refine wpAnyH_take (i := 4) (v := ?_) (by simp only [List.getElem?_toArray, List.getElem?_cons_succ, List.getElem?_cons_zero]; rfl) (by kernel_rfl) (by kernel_rfl) (by kernel_rfl) (by exact fun _ _ _ h => h) (Or.inl ⟨by rfl, ?_⟩) (by assumption) ?_
        rotate_left
        · (intro w hSw; (try dsimp only at hSw); go_simp; try with_reducible rfl)
        try simp only [Act.put, List.setIfInBounds_toArray, List.set_cons_zero, List.set_cons_succ]
        refine wpAnyH_take (i := 5) (v := ?_) (by simp only [List.getElem?_toArray, List.getElem?_cons_succ, List.getElem?_cons_zero]; rfl) (by kernel_rfl) (by kernel_rfl) (by kernel_rfl) (by exact fun _ _ _ h => h) (Or.inl ⟨by rfl, ?_⟩) (by assumption) ?_
        rotate_left
        · (intro w hSw; (try dsimp only at hSw); go_simp; try with_reducible rfl)
        try simp only [Act.put, List.setIfInBounds_toArray, List.set_cons_zero, List.set_cons_succ]
        refine wpAnyH_take (i := 6) (v := ?_) (by simp only [List.getElem?_toArray, List.getElem?_cons_succ, List.getElem?_cons_zero]; rfl) (by kernel_rfl) (by kernel_rfl) (by kernel_rfl) (by exact fun _ _ _ h => h) (Or.inl ⟨by rfl, ?_⟩) (by assumption) ?_
        rotate_left
        · (intro w hSw; (try dsimp only at hSw); go_simp; try with_reducible rfl)
        try simp only [Act.put, List.setIfInBounds_toArray, List.set_cons_zero, List.set_cons_succ]
        refine wpAnyH_take (i := 7) (v := ?_) (by simp only [List.getElem?_toArray, List.getElem?_cons_succ, List.getElem?_cons_zero]; rfl) (by kernel_rfl) (by kernel_rfl) (by kernel_rfl) (by exact fun _ _ _ h => h) (Or.inl ⟨by rfl, ?_⟩) (by assumption) ?_
        rotate_left
        · (intro w hSw; (try dsimp only at hSw); go_simp; try with_reducible rfl)
        try simp only [Act.put, List.setIfInBounds_toArray, List.set_cons_zero, List.set_cons_succ]
        refine wpAnyH_take (i := 8) (v := ?_) (by simp only [List.getElem?_toArray, List.getElem?_cons_succ, List.getElem?_cons_zero]; rfl) (by kernel_rfl) (by kernel_rfl) (by kernel_rfl) (by exact fun _ _ _ h => h) (Or.inl ⟨by rfl, ?_⟩) (by assumption) ?_
        rotate_left
        · (intro w hSw; (try dsimp only at hSw); go_simp; try with_reducible rfl)
        try simp only [Act.put, List.setIfInBounds_toArray, List.set_cons_zero, List.set_cons_succ]
        refine wpAnyH_take (i := 9) (v := ?_) (by simp only [List.getElem?_toArray, List.getElem?_cons_succ, List.getElem?_cons_zero]; rfl) (by kernel_rfl) (by kernel_rfl) (by kernel_rfl) (by exact fun _ _ _ h => h) (Or.inl ⟨by rfl, ?_⟩) (by assumption) ?_
        rotate_left
        · (intro w hSw; (try dsimp only at hSw); go_simp; try with_reducible rfl)
        try simp only [Act.put, List.setIfInBounds_toArray, List.set_cons_zero, List.set_cons_succ]
        refine wpAnyH_take (i := 10) (v := ?_) (by simp only [List.getElem?_toArray, List.getElem?_cons_succ, List.getElem?_cons_zero]; rfl) (by kernel_rfl) (by kernel_rfl) (by kernel_rfl) (by exact fun _ _ _ h => h) (Or.inl ⟨by rfl, ?_⟩) (by assumption) ?_
        rotate_left
        · (intro w hSw; (try dsimp only at hSw); go_simp; try with_reducible rfl)
        try simp only [Act.put, List.setIfInBounds_toArray, List.set_cons_zero, List.set_cons_succ]
        refine wpAnyH_take (i := 11) (v := ?_) (by simp only [List.getElem?_toArray, List.getElem?_cons_succ, List.getElem?_cons_zero]; rfl) (by kernel_rfl) (by kernel_rfl) (by kernel_rfl) (by exact fun _ _ _ h => h) (Or.inl ⟨by rfl, ?_⟩) (by assumption) ?_
        rotate_left
        · (intro w hSw; (try dsimp only at hSw); go_simp; try with_reducible rfl)
        try simp only [Act.put, List.setIfInBounds_toArray, List.set_cons_zero, List.set_cons_succ]
        refine wpAnyH_ready (rs := [12]) (by kernel_rfl) (by simp) ?_
        refine AllReadyH.cons rfl (fun K hK => ?_) AllReadyH.nil
        rw [if_pos (by rfl)]
        (go_wp2_with fail)
        refine hK.out _ _ (by (first | exact S6 | exact H9.out.2)) (fun hHeld => ?_)
        clear hK K
        try simp only [Act.put, List.setIfInBounds_toArray, List.set_cons_zero, List.set_cons_succ]
        refine wpAnyH_take (i := 13) (v := ?_) (by simp only [List.getElem?_toArray, List.getElem?_cons_succ, List.getElem?_cons_zero]; rfl) (by kernel_rfl) (by kernel_rfl) (by kernel_rfl) (by exact fun _ _ _ h => h) (Or.inl ⟨by rfl, ?_⟩) (by assumption) ?_
        rotate_left
        · (intro w hSw; (try dsimp only at hSw); go_simp; try with_reducible rfl)
        try simp only [Act.put, List.setIfInBounds_toArray, List.set_cons_zero, List.set_cons_succ]
        refine wpAnyH_done (by kernel_rfl) ?_ _
        go_wp2
        refine bodyPost_ret (results_tct (P := Try.prog) rfl _ _ _ _ _ _ _ (by rfl) H9.out.1.1 Try.underlying100 rfl (by kernel_rfl)) rfl ?_
        obtain ⟨o1, o2, o3, o4⟩ := H6.out.opened HWJ.out.1 HWJ.out.2.1 H9.out.1.2.drew HBQ.out.1 HWJ.out.2.2 HF0.out.lts
        have hO := HO6.out
        rw [if_neg (by rw [HX3.out]; simp)] at hO
        have hlg := HLG.out
        refine .inr ⟨j5, c, LN - c.good, q, A1, D1, n1, k1, j1, vs, G6, by rw [hO], by rw [hO]; exact HX3.out, ?_, by rw [hO]; exact o1, H6.out.jo.keep H9.out.1.2.drew (by have := HBC.out.1; simp; omega), H6.out.qG, HWJ.out.2.1, o2, o3, ?_⟩
        · rw [show (((LN - c.good : Nat)) : Int) = (LN : Int) - (c.good : Int) by omega]
          rfl
        · refine ((HCI.out.keep H6.out.keep (fun x hx => HCA.out x hx)).keep H9.out.1.2.drew (fun x hx => ?_)).mono (fun x hx => ?_)
          · have h1 := HBQ.out.1; have h2 := HWb.out.2; simp; omega
          · have h1 := HBQ.out.1; have h2 := HWb.out.2
            have h5 := H6.out.keep.size
            have h6 := H9.out.1.2.drew.size
            refine ⟨by omega, by have := HWRJ.out; omega, by have := HWRJ.out; have := HBC.out.2.1; omega, fun hm => ?_⟩
            rcases H6.out.out x hm with h7 | h7
            · have := HF0.out.lts x h7; omega
            · have := HWRJ.out; omega
end Go.Proofs.Ytpjmbhhfpoamnaa
