import Derived.Test.YtpjmbhhfpoamnaaHeld13
set_option linter.unusedVariables false
set_option linter.unusedSimpArgs false
namespace Go.Proofs.Ytpjmbhhfpoamnaa
open Go.RowKit
set_option maxRecDepth 100000 in
set_option maxHeartbeats 3200000 in
theorem held13 {W : World} (w : World) {p : Nat} {G : List Nat} {vs ws : List Value} {ls : List (List UInt8)} {N : Nat} (h : Shf W w p G vs ws ls N) (hN : N ≤ 100000000) (hn : vs.length ≤ 1000000000) :
    Calls Try.prog 55 #[.pointer (some ⟨p, 0, none⟩)] w fun e w' => e = .returned (.bool true) ∧ Below W.heap.size W w' := by
  obtain ⟨AL, cL, AW, cW, hb0, hrow, z, hz, hX0⟩ := h.open_
  obtain ⟨n, hn0⟩ : ∃ n, n = vs.length := ⟨_, rfl⟩
  rw [← hn0] at hb0 hrow hz hX0 hn
  obtain ⟨I, hI⟩ : ∃ I : World → Prop, I = fun w => w.heap[p]? = some (.cells #[.slice AL n cL, .slice AW n cW] 90 (0, 0)) := ⟨_, rfl⟩
  rw [← hI] at hX0
  have F : Fr [p] I := ⟨fun M w w' hk hM hw => by rw [hI] at hw ⊢; exact hk.heap hw (fun hx => hM p hx (by simp))⟩
  have HI := Lib.hid (fun (w : World) (hw : I w) => (show w.heap[p]? = some (.cells #[.slice AL n cL, .slice AW n cW] 90 (0, 0)) by rw [hI] at hw; exact hw))
  have H0 := Lib.hid (And.intro hn0 (And.intro hb0 (And.intro hrow (And.intro hz hX0))))
  have HN := Lib.hid hN
  clear h hb0 hrow hz hX0 hI hn0 hN
  go_enter Try.func55, Try.ntmps55
  go_wp2
  go_loopw [3] (fun i wr => ∃ (j : Nat), j ≤ n ∧ i = .int .i64 j ∧ Drawn w wr) (fun i _ => n - (intOf i).toNat)
  case atStart => exact ⟨0, by omega, rfl, Drawn.refl _⟩
  case round =>
    obtain ⟨j, hj, rfl, hd⟩ := hrel
    have hb := (hd.keep []).heap H0.out.2.1 (by simp)
    have d0 := box_cell hb 0 (.slice AL n cL) rfl
    have d1 := box_cell hb 1 (.slice AW n cW) rfl
    by_cases hlt : j < n
    · obtain ⟨z, zw, A, c, A', c', x, rfl, rfl, c1, c2, hx, s1, s2⟩ := H0.out.2.2.1 j hlt
      have c1' := cell_below c1 hd.below
      have c2' := cell_below c2 hd.below
      have HS : Hid (∀ nq : Nat, Calls Try.prog 47 #[.slice A x.length c, .slice A' x.length c'] (wr.drewN nq) fun e w' => e = .returned (.bool true) ∧ Drawn (wr.drewN nq) w') := Lib.hid (fun nq => by have := same13 (wr.drewN nq) ((s1.below hd.below).drewN nq) ((s2.below hd.below).drewN nq); rwa [decide_eq_true rfl] at this)
      have hj0 : (0 : Int) ≤ (j : Int) := Int.natCast_nonneg _
      have hj1 : (j : Int) < (n : Int) := by omega
      have HD := Lib.hid hd
      clear c1 c2 hx s1 s2 hb hd
      go_wp2
      go_quiet ((go_at_call 47; with_reducible exact quiet_dr (HS.out _)))
      go_wp2
      first | go_roundw | refine ⟨?rel, ?measure⟩
      case rel => exact ⟨j + 1, by omega, by go_num, HD.out.step _⟩
      case measure => simp [intOf]; omega
    · have HJ := Lib.hid (show j = n by omega)
      have HX : Hid (AllX W wr 5 [p] I z vs vs ls N) := Lib.hid (H0.out.2.2.2.2.then_ F hd.below)
      have HZ := Lib.hid (And.intro H0.out.1 H0.out.2.2.2.1)
      obtain ⟨w0, rfl⟩ : ∃ x, x = wr := ⟨_, rfl⟩
      have hjn : (n : Int) ≤ (j : Int) := by omega
      clear hb H0 hd d1
      go_wp2
      go_loopw [4] (fun i wr => ∃ (j : Nat), j ≤ n ∧ i = .int .i64 j ∧ AllSt muH W wr 5 [p] I z vs vs N j) (fun i _ => n - (intOf i).toNat)
      case atStart => exact ⟨0, by omega, rfl, ls, HX.out, fun t l h => by omega⟩
      case round =>
        obtain ⟨j, hj, rfl, hA⟩ := hrel
        have d0 := box_cell (HI.out _ (hA.elim fun _ h => h.1.i)) 0 (.slice AL n cL) rfl
        by_cases hlt : j < n
        · have hj0 : (0 : Int) ≤ (j : Int) := Int.natCast_nonneg _
          have hj1 : (j : Int) < (n : Int) := by omega
          obtain rfl := HZ.out.2 (by omega)
          obtain ⟨Av, m2, cv, hv, hm2, g0, hR⟩ := hA.row (j := j) (by have := HZ.out.1; omega)
          have hm2N : m2 ≤ 100000000 := Nat.le_trans hm2 HN.out
          have HR := Lib.hid hR
          have HV := Lib.hid hv
          clear hA hR hv hm2
          go_wp2
          go_loopw [5] (fun i wr => ∃ (k : Nat), k ≤ m2 ∧ i = .int .i64 k ∧ RowSt muH W wr 5 [p] I z vs vs N j k m2) (fun i _ => m2 - (intOf i).toNat)
          case atStart => exact ⟨0, by omega, rfl, HR.out⟩
          case round =>
            clear HR
            obtain ⟨k, hk, rfl, hR⟩ := hrel
            have g0 := hR.cell (by have := HZ.out.1; omega) HV.out
            have d0 := box_cell (HI.out _ (hR.elim fun _ h => h.elim fun _ h => h.1.i)) 0 (.slice (some ⟨z, 0, none⟩) n cL) rfl
            by_cases hkl : k < m2
            · have hk0 : (0 : Int) ≤ (k : Int) := Int.natCast_nonneg _
              have hk1 : (k : Int) < (m2 : Int) := by omega
              obtain ⟨gb, rfl, ⟨v0, hc0⟩, hf0, hN⟩ := hR.store muH_lt F HV.out hkl
              have HN2 := Lib.hid hN
              clear hR hN
              go_wp2
              first | go_roundw | refine ⟨?rel, ?measure⟩
              case rel => exact ⟨k + 1, by omega, by go_num, by have := HN2.out; rwa [show ((muH j : Nat) : Int) = (2 * (j : Int) + 1) % 256 by unfold muH; omega] at this⟩
              case measure => simp [intOf]; omega
            · obtain rfl : k = m2 := by omega
              have HD := Lib.hid hR.done
              clear hR
              go_wp2
              first | go_roundw | refine ⟨?rel, ?measure⟩
              case rel => exact ⟨j + 1, by omega, by go_num, HD.out⟩
              case measure => simp [intOf]; omega
        · have HJ2 := Lib.hid (show j = n by omega)
          have hjn2 : (n : Int) ≤ (j : Int) := by omega
          rw [HJ2.out] at hA
          obtain ⟨lm, hX, hmk⟩ := hA
          have HM := Lib.hid hmk
          have HA := Lib.hid hX
          obtain ⟨B, hB⟩ : ∃ B, B = wr.heap.size := ⟨_, rfl⟩
          have HL0 : Hid (LongSt W wr 5 22 [p] I z vs lm N B [] (.slice none 0 0)) := Lib.hid (by rw [hB]; exact LongSt.start hX (fun h0 => hX.zlt h0))
          clear hX HX hmk hB
          obtain ⟨w1, rfl⟩ : ∃ x, x = wr := ⟨_, rfl⟩
          go_wp2
          go_loopw [6, 7] (fun o i wr => ∃ (j : Nat) (us : List Value) (vt : Value), j ≤ n ∧ i = .int .i64 j ∧ us.length = j ∧ o = vt ∧ LongSt W wr 5 22 [p] I z vs lm N B us vt) (fun _ i _ => n - (intOf i).toNat)
          case atStart => exact ⟨0, [], _, by omega, rfl, rfl, rfl, HL0.out⟩
          case round =>
            clear HL0
            obtain ⟨j, us, vt, hj, rfl, hus, rfl, hL⟩ := hrel
            have d0 := box_cell (HI.out _ hL.x.i) 0 (.slice AL n cL) rfl
            by_cases hlt : j < n
            · have hj0 : (0 : Int) ≤ (j : Int) := Int.natCast_nonneg _
              have hj1 : (j : Int) < (n : Int) := by omega
              obtain rfl := HZ.out.2 (by omega)
              obtain ⟨Av, cv, x, hv, hx, o, g0, hm2⟩ := hL.x.row j (by have := HZ.out.1; omega)
              have HT0 := Lib.hid (TailSt.start (c := 0) hL.x hv hx rfl (hL.x.zlt (by have := HZ.out.1; omega)) rfl)
              obtain ⟨m2, hm2e⟩ : ∃ m2, m2 = x.length := ⟨_, rfl⟩
              rw [← hm2e] at hv g0 hm2 HT0
              have hm2N : m2 ≤ 100000000 := Nat.le_trans hm2 HN.out
              have HL := Lib.hid (And.intro hL (And.intro hv hus))
              clear hL o hx hm2e hv hm2 hus
              obtain ⟨wj, rfl⟩ : ∃ x, x = wr := ⟨_, rfl⟩
              go_wp2
              go_loopw [8, 9] (fun o i w5 => ∃ (q : Nat) (vl : Value), q ≤ 70 ∧ i = .int .i64 q ∧ o = vl ∧ TailSt W w5 5 [p] I z vs vs lm N j m2 wj.heap.size 0 vl q ∧ Keep (Value.slice Av m2 cv).ownBlock.toList wj w5) (fun _ i _ => 70 - (intOf i).toNat)
              case atStart => exact ⟨0, _, by omega, rfl, rfl, HT0.out, Keep.refl _ _⟩
              case round =>
                clear HT0 g0
                obtain ⟨k, vl, hk, rfl, rfl, hT, kT⟩ := hrel
                by_cases hkl : k < 70
                · have hk0 : (0 : Int) ≤ (k : Int) := Int.natCast_nonneg _
                  have hk1 : (k : Int) < 70 := by omega
                  go_wp2_with (first | (at_builtin; refine Stopped.out ?_) | (at_make; refine Stopped.out ?_))
                  have hTa := hT.below F (w' := wr.alloc (.cells #[.int .u8 0] 5)) ((Below.refl _ _).alloc (Nat.le_refl _) _)
                  obtain ⟨xs, ox, hxs⟩ := hTa.own
                  refine Stopped.mk (apx_own EBsh rfl (.tmp 93) (.tmp 94) rfl rfl ox rfl (Sl.fresh wr [.int .u8 0] 5 1 1 rfl (by decide)) (by simp [Value.oneCell']) (by simp only [maxLen]; omega) (by omega) hTa.x.below.size ?_)
                  intro v2 w2 hst2 hg2 hb2 hk2
                  have HN3 := Lib.hid (And.intro (hTa.step F (by rw [← hxs]; exact hst2) hg2 hb2 hk2) (hTa.keep ((Below.refl _ _).alloc (Nat.le_refl _) _) kT HL.out.2.1 hg2))
                  clear hTa hT kT ox hxs hst2 hg2 hb2 hk2
                  go_wp2
                  first | go_roundw | refine ⟨?rel, ?measure⟩
                  case rel => exact ⟨k + 1, v2, by omega, by go_num, rfl, HN3.out.1, HN3.out.2⟩
                  case measure => simp [intOf]; omega
                · have HK := Lib.hid (show k = 70 by omega)
                  rw [HK.out] at hT
                  obtain ⟨gv, cp, rfl, hcp, sv⟩ := hT.done (by decide)
                  have hba : Below wr.heap.size wr (wr.alloc (.cells #[.slice (some ⟨gv, 0, none⟩) (m2 + 70) cp] 22)) := (Below.refl _ _).alloc (Nat.le_refl _) _
                  have HT := Lib.hid (And.intro hT (And.intro kT hba))
                  have HRow := Lib.hid (own_below (HL.out.1.rowAt HL.out.2.2 HL.out.2.1 kT) hba)
                  have HBs := Lib.hid (Nat.le_trans HL.out.1.hB (Nat.le_trans kT.size hba.size))
                  clear hT kT hba sv
                  go_wp2_with (first | (at_builtin; refine Stopped.out ?_) | (at_make; refine Stopped.out ?_))
                  refine Stopped.mk (apk_own EShl rfl (.tmp 96) (.tmp 98) rfl rfl HRow.out rfl (Sl.fresh wr [.slice (some ⟨gv, 0, none⟩) (m2 + 70) cp] 22 1 1 rfl (by decide)) (by simp [Value.oneCell']) (by simp only [maxLen]; omega) (by omega) HBs.out ?_)
                  intro v2 w2 hst2 hg2 _
                  have HN3 := Lib.hid (HL.out.1.step (by decide) F HL.out.2.2 (by have := HZ.out.1; omega) HL.out.2.1 HT.out.1 HT.out.2.1 HT.out.2.2 hst2 hg2)
                  clear hst2 hg2 HBs HRow HT
                  go_wp2
                  first | go_roundw | refine ⟨?rel, ?measure⟩
                  case rel => exact ⟨j + 1, _, v2, by omega, by go_num, by have := HL.out.2.2; simp [this], rfl, HN3.out⟩
                  case measure => simp [intOf]; omega
            · have HJ3 := Lib.hid (show j = n by omega)
              have hjn3 : (n : Int) ≤ (j : Int) := by omega
              have HL := Lib.hid (And.intro hL (show us.length = n by omega))
              clear hL hus
              obtain ⟨w3, rfl⟩ : ∃ x, x = wr := ⟨_, rfl⟩
              go_wp2
              go_loopw [10] (fun i wr => ∃ (j : Nat), j ≤ n ∧ i = .int .i64 j ∧ Drawn w3 wr) (fun i _ => n - (intOf i).toNat)
              case atStart => exact ⟨0, by omega, rfl, Drawn.refl _⟩
              case round =>
                obtain ⟨j, hj, rfl, hd⟩ := hrel
                have d0 := box_cell (HI.out _ (HL.out.1.x.then_ F hd.below).i) 0 (.slice AL n cL) rfl
                by_cases hlt : j < n
                · have hj0 : (0 : Int) ≤ (j : Int) := Int.natCast_nonneg _
                  have hj1 : (j : Int) < (n : Int) := by omega
                  obtain rfl := HZ.out.2 (by omega)
                  obtain ⟨A, c, g, cg, gx, cx, x, hx, c0, rfl, c1, hxN, sA, sU, hbm⟩ := HL.out.1.read HM.out hlt HL.out.2 HZ.out.1
                  obtain ⟨m2, hm2e⟩ : ∃ m2, m2 = x.length := ⟨_, rfl⟩
                  have hm2N : m2 ≤ 100000000 := Nat.le_trans (hm2e ▸ hxN) HN.out
                  have HR := Lib.hid (And.intro hm2e (And.intro c0 (And.intro c1 (And.intro sA (And.intro sU hbm)))))
                  have g0 := cell_below c0 hd.below
                  rw [← hm2e] at c0 c1 sA sU g0
                  have HC := Lib.hid (And.intro c0 (And.intro c1 (And.intro sA sU)))
                  have HD := Lib.hid hd
                  clear hx c0 c1 hxN sA sU hbm hd hm2e
                  go_wp2
                  go_loopw [12] (fun i w5 => ∃ (k : Nat), k ≤ m2 ∧ i = .int .i64 k ∧ Drawn w3 w5) (fun i _ => m2 - (intOf i).toNat)
                  case atStart => exact ⟨0, by omega, rfl, HD.out⟩
                  case round =>
                    clear HD g0
                    obtain ⟨k, hk, rfl, hd⟩ := hrel
                    by_cases hkl : k < m2
                    · have hk0 : (0 : Int) ≤ (k : Int) := Int.natCast_nonneg _
                      have hk1 : (k : Int) < (m2 : Int) := by omega
                      have d0 := box_cell (HI.out _ (HL.out.1.x.then_ F hd.below).i) 0 (.slice (some ⟨z, 0, none⟩) n cL) rfl
                      obtain ⟨ab, ao, rfl⟩ := HC.out.2.2.1.form (by omega)
                      have g0 := cell_below HC.out.1 hd.below
                      have g1 := cell_below HC.out.2.1 hd.below
                      have ga := (HC.out.2.2.1.below hd.below).byte k hkl
                      have gu := (HC.out.2.2.2.below hd.below).byte k (by omega)
                      rw [bt_long, if_pos (by rw [← HR.out.1]; exact hkl), Nat.zero_add] at gu
                      rw [HR.out.2.2.2.2.2 k (by rw [← HR.out.1]; exact hkl), show ((muH j : Nat) : Int) = (2 * (j : Int) + 1) % 256 by unfold muH; omega] at ga gu
                      have HD := Lib.hid hd
                      have r2 : (k : Int) < (m2 : Int) + 70 := by omega
                      clear hd
                      go_wp2
                      first | go_roundw | refine ⟨?rel, ?measure⟩
                      case rel => exact ⟨k + 1, by omega, by go_num, HD.out⟩
                      case measure => simp [intOf]; omega
                    · have hkm : k = m2 := by omega
                      subst hkm
                      have HD := Lib.hid hd
                      clear hd
                      go_wp2
                      go_loopw [13] (fun i w5 => ∃ (q : Nat), q ≤ 70 ∧ i = .int .i64 ((k + q : Nat) : Int) ∧ Drawn w3 w5) (fun i _ => k + 70 - (intOf i).toNat)
                      case atStart => exact ⟨0, by omega, rfl, HD.out⟩
                      case round =>
                        clear HD
                        obtain ⟨q, hq, rfl, hd⟩ := hrel
                        have g1 := cell_below HC.out.2.1 hd.below
                        by_cases hql : q < 70
                        · have hk0 : (0 : Int) ≤ ((k + q : Nat) : Int) := Int.natCast_nonneg _
                          have hk1 : ((k + q : Nat) : Int) < (k : Int) + 70 := by omega
                          have gu := (HC.out.2.2.2.below hd.below).byte (k + q) (by omega)
                          rw [bt_long, if_neg (by rw [← HR.out.1]; omega), Nat.zero_add] at gu
                          have HD := Lib.hid hd
                          clear hd
                          go_wp2
                          first | go_roundw | refine ⟨?rel, ?measure⟩
                          case rel => exact ⟨q + 1, by omega, by go_num, HD.out⟩
                          case measure => simp [intOf]; omega
                        · have hk1 : (k : Int) + 70 ≤ ((k + q : Nat) : Int) := by omega
                          have HD := Lib.hid hd
                          clear hd
                          go_wp2
                          first | go_roundw | refine ⟨?rel, ?measure⟩
                          case rel => exact ⟨j + 1, by omega, by go_num, HD.out⟩
                          case measure => simp [intOf]; omega
                · go_wp2
                  go_ret
                  exact ⟨rfl, bthen HL.out.1.x.below hd.below⟩
end Go.Proofs.Ytpjmbhhfpoamnaa
