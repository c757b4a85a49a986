import Derived.Test.YtpjmbhhfpoamnaaJnOk
set_option linter.unusedVariables false
set_option linter.unusedSimpArgs false
namespace Go.Proofs.Ytpjmbhhfpoamnaa
open Go.RowKit
/-- Format -/
def fmtF (s : FSt) (snap : List UInt8) : FSt × Nat :=
  if s.down then (s, 121) else if 262132 < snap.length then (s, 1) else if s.size < snap.length + 22 then (s, 122) else
  if (clrF s 1).2 ≠ 0 then clrF s 1 else if (clrF (clrF s 1).1 0).2 ≠ 0 then clrF (clrF s 1).1 0 else appF (clrF (clrF s 1).1 0).1 0 (frB 72 (hdrP 1 0 snap))
set_option maxRecDepth 100000 in
set_option maxHeartbeats 3200000 in
theorem Format_any (w : World) {p : Nat} {G : List Nat} {s : FSt} {N : Nat} (h : Fl w p G s) (hk : FOkN N s) (hN : N ≤ 4611686018427387900) {A : Option Addr} {n c : Nat} {l : List UInt8} (hs : Sl w 1 A n c (l.map by8)) (hn : n ≤ 140737488351232) :
    Calls Try.prog 61 #[.pointer (some ⟨p, 0, none⟩), .slice A n c] w fun e w' => e = .returned (.int .i64 ((fmtF s l).2 : Nat)) ∧ FStep w w' p G (fmtF s l).1 := by
  have hl : l.length = n := by simpa using hs.len
  have mR := mRead p
  have mA := mAppend p
  have HF := Lib.hid h
  have HK := Lib.hid hk
  by_cases hd : s.down = true
  · have HR := Lib.hid (flash_Read_no w h (0 : Nat) (by rw [refused_bank (by omega), hd]; decide))
    rw [refused_bank (by omega), if_pos hd] at HR
    have HC : Hid (fmtF s l = (s, 121)) := Lib.hid (by rw [fmtF, if_pos hd])
    clear hd h hk hs hl
    go_enter Try.func61, Try.ntmps61
    go_wp2_with fail
    refine HR.out.mono ?_
    rintro e w1 ⟨rfl, rfl⟩
    clear HR
    go_wp2
    go_ret
    rw [HC.out]
    exact ⟨rfl, FStep.of_below HF.out (Below.refl _ _)⟩
  · have hd0 : s.down = false := by simpa using hd
    have HD := Lib.hid hd0
    have HR := Lib.hid (flash_Read_yes w h 0 (by omega) hd0 (Nat.le_trans ((hk.ok (by omega)).bank 0) (by omega)))
    have HH := Lib.hid (fun w1 (k : Below w.heap.size w w1) => header_any w1 1 0 (by omega) (by omega) (hs.below k) hn)
    have HL := Lib.hid hl
    clear hd hd0 h hk hs
    obtain ⟨L, hL⟩ : ∃ L, L = (bankF s 0).length := ⟨_, rfl⟩
    rw [← hL] at HR
    clear hL
    go_enter Try.func61, Try.ntmps61
    go_wp2_with fail
    refine HR.out.mono ?_
    rintro e w1 ⟨rfl, -, hb1⟩
    clear HR
    go_wp2_with fail
    refine (HH.out _ hb1).mono ?_
    rintro e w2 ⟨⟨hn1, g, rfl, o2⟩ | ⟨hn1, rfl⟩, hb2⟩
    · have hB2 := bthen hb1 hb2
      have HS := Lib.hid (size_any w2 (HF.out.below hB2) (HK.out.ok (by omega)) HD.out)
      unfold fI at HS
      have lenF : (frB 72 (hdrP 1 0 l)).length = n + 22 := by rw [frB_len, hdrP_len, HL.out]
      have HLF := Lib.hid lenF
      have HB2 := Lib.hid hB2
      have hsz := HK.out.size
      have hg2 := o2.lt g rfl
      have hgG : g ∉ G := fun hx => by have := HF.out.lts g hx; have := hb1.size; omega
      have HG := Lib.hid (And.intro hgG hg2.2)
      have HO := Lib.hid o2
      clear HH hb1 hb2 hB2 lenF o2 hg2 hgG
      by_cases hf : s.size < n + 22
      · have q : (s.size : Int) < (n : Int) + 22 := by omega
        have HC : Hid (fmtF s l = (s, 122)) := Lib.hid (by rw [fmtF, HD.out, if_neg (by simp), if_neg (by rw [HL.out]; omega), if_pos (by rw [HL.out]; omega)])
        clear hf
        go_wp2_with fail
        refine HS.out.mono ?_
        rintro e w3 ⟨rfl, hb3⟩
        clear HS
        go_wp2
        go_ret
        rw [HC.out]
        exact ⟨rfl, FStep.of_below HF.out (bthen HB2.out hb3)⟩
      · have q : decide ((s.size : Int) < (n : Int) + 22) = false := decide_eq_false (by omega)
        have HQ : Hid (fmtF s l = if (clrF s 1).2 ≠ 0 then clrF s 1 else if (clrF (clrF s 1).1 0).2 ≠ 0 then clrF (clrF s 1).1 0 else appF (clrF (clrF s 1).1 0).1 0 (frB 72 (hdrP 1 0 l))) := Lib.hid (by rw [fmtF, HD.out, if_neg (by simp), if_neg (by rw [HL.out]; omega), if_neg (by rw [HL.out]; omega)])
        clear hf
        go_wp2_with fail
        refine HS.out.mono ?_
        rintro e w3 ⟨rfl, hb3⟩
        clear HS
        obtain ⟨WL, hWL⟩ : ∃ WL, WL = w3.alloc (.cells #[.int .i64 1, .int .i64 0] 3) := ⟨_, rfl⟩
        have hbL : Below w3.heap.size w3 WL := by rw [hWL]; exact (Below.refl _ w3).alloc (Nat.le_refl _) _
        have zL : WL.heap[w3.heap.size]? = some (.cells #[.int .i64 1, .int .i64 0] 3 (0, 0)) := by rw [hWL]; exact heap_alloc_new w3 _
        have hBL := bthen HB2.out (bthen hb3 hbL)
        have FL := Lib.hid (HF.out.below hBL)
        have HOL := Lib.hid (own_below HO.out (bthen hb3 hbL))
        have HBL := Lib.hid hBL
        have HWL := Lib.hid hWL
        have hzG : w3.heap.size ∉ G := fun hx => by have := HF.out.lts _ hx; have := HB2.out.size; have := hb3.size; omega
        have HZ := Lib.hid (And.intro zL hzG)
        have HSz := Lib.hid (show w2.heap.size ≤ w3.heap.size ∧ w3.heap.size < WL.heap.size by have := hb3.size; rw [hWL]; simp; omega)
        clear hWL hbL zL hBL hb3 hzG HO
        go_wp2_with (rw [← HWL.out])
        clear HWL
        go_loopw [11, 12, 39] (fun _ _ i wr => ∃ sk, FStep WL wr p G sk ∧ ((i = .int .i64 0 ∧ s = sk) ∨ (i = .int .i64 1 ∧ (clrF s 1).1 = sk ∧ (clrF s 1).2 = 0) ∨ (i = .int .i64 2 ∧ (clrF (clrF s 1).1 0).1 = sk ∧ (clrF s 1).2 = 0 ∧ (clrF (clrF s 1).1 0).2 = 0))) (fun _ _ i _ => 2 - (intOf i).toNat)
        case atStart => exact ⟨s, FStep.of_below FL.out (Below.refl _ _), .inl ⟨rfl, rfl⟩⟩
        case round =>
          obtain ⟨sk, hst, hcase⟩ := hrel
          have z0 : wr.heap[w3.heap.size]? = some (.cells #[.int .i64 1, .int .i64 0] 3 (0, 0)) := hst.keep.heap HZ.out.1 HZ.out.2
          rcases hcase with ⟨rfl, rfl⟩ | ⟨rfl, rfl, e1⟩ | ⟨rfl, rfl, e1, e2⟩
          · have c0 : wr.cell? ⟨w3.heap.size, 0, none⟩ = some (.int .i64 1) := box_cell z0 0 _ rfl
            have HC1 : Hid (Calls Try.prog 105 #[.iface 23 (.pointer (some ⟨p, 0, none⟩)), .int .i64 1] wr fun e w' => e = .returned (.int .i64 ((clrF s 1).2 : Nat)) ∧ FStep WL w' p G (clrF s 1).1) := Lib.hid (cleared_step hst (HK.out.ok (by omega)) 1 (by omega))
            obtain ⟨E1, hE1⟩ : ∃ E1, E1 = (clrF s 1).2 := ⟨_, rfl⟩
            rw [← hE1] at HC1 HQ
            have HE1 := Lib.hid hE1
            clear hst z0 hE1
            by_cases h0 : E1 = 0
            · have q1 : ((E1 : Int) != 0) = false := by simp [h0]
              have H0 := Lib.hid h0
              clear h0
              go_wp2_with fail
              refine HC1.out.mono ?_
              rintro e w5 ⟨rfl, k5⟩
              clear HC1 c0
              go_wp2
              first | go_roundw | refine ⟨?rel, ?measure⟩
              case rel => exact ⟨_, k5, .inr (.inl ⟨by go_num, rfl, by rw [← HE1.out]; exact H0.out⟩)⟩
              case measure => simp [intOf]
            · have q1 : ((E1 : Int) != 0) = true := by simp; omega
              have HX : Hid (fmtF s l = clrF s 1) := Lib.hid (by rw [HQ.out, if_pos h0])
              clear h0
              go_wp2_with fail
              refine HC1.out.mono ?_
              rintro e w5 ⟨rfl, k5⟩
              clear HC1 c0
              go_wp2
              go_ret
              rw [HX.out, ← HE1.out]
              exact ⟨rfl, k5.ahead HBL.out⟩
          · have c0 : wr.cell? ⟨w3.heap.size, 1, none⟩ = some (.int .i64 0) := box_cell z0 1 _ rfl
            have HC1 : Hid (Calls Try.prog 105 #[.iface 23 (.pointer (some ⟨p, 0, none⟩)), .int .i64 0] wr fun e w' => e = .returned (.int .i64 ((clrF (clrF s 1).1 0).2 : Nat)) ∧ FStep WL w' p G (clrF (clrF s 1).1 0).1) := Lib.hid (cleared_step hst ((clrF_ok HK.out 1).1.ok (by omega)) 0 (by omega))
            obtain ⟨E1, hE1⟩ : ∃ E1, E1 = (clrF (clrF s 1).1 0).2 := ⟨_, rfl⟩
            rw [← hE1] at HC1 HQ
            have HE1 := Lib.hid (And.intro hE1 e1)
            clear hst z0 hE1 e1
            by_cases h0 : E1 = 0
            · have q1 : ((E1 : Int) != 0) = false := by simp [h0]
              have H0 := Lib.hid h0
              clear h0
              go_wp2_with fail
              refine HC1.out.mono ?_
              rintro e w5 ⟨rfl, k5⟩
              clear HC1 c0
              go_wp2
              first | go_roundw | refine ⟨?rel, ?measure⟩
              case rel => exact ⟨_, k5, .inr (.inr ⟨by go_num, rfl, HE1.out.2, by rw [← HE1.out.1]; exact H0.out⟩)⟩
              case measure => simp [intOf]
            · have q1 : ((E1 : Int) != 0) = true := by simp; omega
              have HX : Hid (fmtF s l = clrF (clrF s 1).1 0) := Lib.hid (by rw [HQ.out, if_neg (by rw [HE1.out.2]; simp), if_pos h0])
              clear h0
              go_wp2_with fail
              refine HC1.out.mono ?_
              rintro e w5 ⟨rfl, k5⟩
              clear HC1 c0
              go_wp2
              go_ret
              rw [HX.out, ← HE1.out.1]
              exact ⟨rfl, k5.ahead HBL.out⟩
          · have HX : Hid (fmtF s l = appF (clrF (clrF s 1).1 0).1 0 (frB 72 (hdrP 1 0 l))) := Lib.hid (by rw [HQ.out, if_neg (by rw [e1]; simp), if_neg (by rw [e2]; simp)])
            have ok2 := (clrF_ok (clrF_ok HK.out 1).1 0).1.ok (by omega)
            have sF := (own_sl' (hst.keep.own HOL.out (fun b hb hx => by obtain rfl := Option.some.inj hb; exact HG.out.1 hx))).2.1
            have HA : Hid (Calls Try.prog 23 #[.pointer (some ⟨p, 0, none⟩), .int .i64 0, .slice (some ⟨g, 0, none⟩) (n + 22) (n + 22)] wr fun e w' => e = .returned (.int .i64 ((appF (clrF (clrF s 1).1 0).1 0 (frB 72 (hdrP 1 0 l))).2 : Nat)) ∧ FStep WL w' p G (appF (clrF (clrF s 1).1 0).1 0 (frB 72 (hdrP 1 0 l))).1) := Lib.hid (append_step hst ok2 0 sF (fun ad e _ => by obtain rfl := Option.some.inj e; exact ⟨HG.out.1, by have := HG.out.2; have := HSz.out; show g < _; omega⟩) (by omega))
            clear hst z0 sF ok2 e1 e2 HQ
            go_wp2_with fail
            refine HA.out.mono ?_
            rintro e w5 ⟨rfl, k5⟩
            clear HA
            go_wp2
            go_ret
            rw [HX.out]
            exact ⟨rfl, k5.ahead HBL.out⟩
    · have HC : Hid (fmtF s l = (s, 1)) := Lib.hid (by rw [fmtF, HD.out, HL.out]; simp; omega)
      clear HH
      go_wp2
      go_ret
      rw [HC.out]
      exact ⟨rfl, FStep.of_below HF.out (bthen hb1 hb2)⟩
end Go.Proofs.Ytpjmbhhfpoamnaa
