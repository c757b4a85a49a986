import Derived.Test.YtikjhandhgfohaaHeld33
import Derived.Test.YtikjhandhgfohaaRoom33
set_option linter.unusedVariables false
set_option linter.unusedSimpArgs false
namespace Go.Proofs.Ytikjhandhgfohaa
open Go.RowKit
theorem EBs33 : ElemT Try.prog 27 23 (.slice none 0 0) 1 24 := ⟨Try.underlying27, by kernel_rfl, rfl, by decide⟩
set_option maxRecDepth 100000 in
set_option maxHeartbeats 3200000 in
theorem apart33 {W : World} (w : World) {z : Nat} {vs : List Value} {ls : List (List UInt8)} {N : Nat} {X : List Nat} {I : World → Prop} (F : Fr X I) (hX0 : AllX W w 5 X I z vs vs ls N) (hN : N ≤ 100000000) {n cL : Nat} (hn0 : n = vs.length) (hn : n ≤ 200) :
    Calls Try.prog 13 #[.slice (some ⟨z, 0, none⟩) n cL] w fun e w' => e = .returned (.bool true) ∧ I w' ∧ Below W.heap.size W w' := by
  have HZ := Lib.hid hn0
  have HX := Lib.hid hX0
  have HN := Lib.hid hN
  clear hn0 hX0 hN
  go_enter Try.func13, Try.ntmps13
  go_wp2
  go_loopw [3] (fun i wr => ∃ (j : Nat), j ≤ n ∧ i = .int .i64 j ∧ AllSt muI W wr 5 X I z vs vs N j) (fun i _ => n - (intOf i).toNat)
  case atStart => exact ⟨0, by omega, rfl, ls, HX.out, fun t l h => by omega⟩
  case round =>
    clear HX
    obtain ⟨j, hj, rfl, hA⟩ := hrel
    by_cases hlt : j < n
    · have hj0 : (0 : Int) ≤ (j : Int) := Int.natCast_nonneg _
      have hj1 : (j : Int) < (n : Int) := by omega
      obtain ⟨Av, m2, cv, hv, hm2, g0, hR⟩ := hA.row (j := j) (by have := HZ.out; omega)
      have hm2N : m2 ≤ 100000000 := Nat.le_trans hm2 HN.out
      have HR := Lib.hid hR
      have HV := Lib.hid hv
      have hcv : IntKind.u8.wrap (j : Int) = ((muI j : Nat) : Int) := by rw [IntKind.wrap_u8]; unfold muI; omega
      clear hA hR hv hm2
      go_wp2
      go_loopw [4] (fun i wr => ∃ (k : Nat), k ≤ m2 ∧ i = .int .i64 k ∧ RowSt muI W wr 5 X I z vs vs N j k m2) (fun i _ => m2 - (intOf i).toNat)
      case atStart => exact ⟨0, by omega, rfl, HR.out⟩
      case round =>
        clear HR g0
        obtain ⟨k, hk, rfl, hR⟩ := hrel
        have g0 := hR.cell (by have := HZ.out; omega) HV.out
        by_cases hkl : k < m2
        · have hk0 : (0 : Int) ≤ (k : Int) := Int.natCast_nonneg _
          have hk1 : (k : Int) < (m2 : Int) := by omega
          obtain ⟨gb, rfl, ⟨v0, hc0⟩, hf0, hN⟩ := hR.store muI_lt F HV.out hkl
          have HN2 := Lib.hid hN
          clear hR hN
          go_wp2
          first | go_roundw | refine ⟨?rel, ?measure⟩
          case rel => exact ⟨k + 1, by omega, by go_num, HN2.out⟩
          case measure => simp [intOf]; omega
        · obtain rfl : k = m2 := by omega
          have HD := Lib.hid hR.done
          clear hR
          go_wp2
          first | go_roundw | refine ⟨?rel, ?measure⟩
          case rel => exact ⟨j + 1, by omega, by go_num, HD.out⟩
          case measure => simp [intOf]; omega
    · have HJ2 := Lib.hid (show j = n by omega)
      have hjn2 : (n : Int) ≤ (j : Int) := by omega
      rw [HJ2.out] at hA
      obtain ⟨lm, hX, hmk⟩ := hA
      have HM := Lib.hid hmk
      have HA := Lib.hid hX
      obtain ⟨B, hB⟩ : ∃ B, B = wr.heap.size := ⟨_, rfl⟩
      have HL0 : Hid (LongSt W wr 5 23 X I z vs lm N B [] (.slice none 0 0)) := Lib.hid (by rw [hB]; exact LongSt.start hX (fun h0 => hX.zlt h0))
      clear hX hmk hB
      obtain ⟨w1, rfl⟩ : ∃ x, x = wr := ⟨_, rfl⟩
      go_wp2
      go_loopw [5, 6] (fun o i wr => ∃ (j : Nat) (us : List Value) (vt : Value), j ≤ n ∧ i = .int .i64 j ∧ us.length = j ∧ o = vt ∧ LongSt W wr 5 23 X I z vs lm N B us vt) (fun _ i _ => n - (intOf i).toNat)
      case atStart => exact ⟨0, [], _, by omega, rfl, rfl, rfl, HL0.out⟩
      case round =>
        clear HL0
        obtain ⟨j, us, vt, hj, rfl, hus, rfl, hL⟩ := hrel
        by_cases hlt : j < n
        · have hj0 : (0 : Int) ≤ (j : Int) := Int.natCast_nonneg _
          have hj1 : (j : Int) < (n : Int) := by omega
          obtain ⟨Av, cv, x, hv, hx, o, g0, hm2⟩ := hL.x.row j (by have := HZ.out; omega)
          have HT0 := Lib.hid (TailSt.start (c := 255 - j) hL.x hv hx rfl (hL.x.zlt (by have := HZ.out; omega)) rfl)
          obtain ⟨m2, hm2e⟩ : ∃ m2, m2 = x.length := ⟨_, rfl⟩
          rw [← hm2e] at hv g0 hm2 HT0
          have hm2N : m2 ≤ 100000000 := Nat.le_trans hm2 HN.out
          have HL := Lib.hid (And.intro hL (And.intro hv hus))
          have hcv : IntKind.u8.wrap (255 - (j : Int)) = ((255 - j : Nat) : Int) := by rw [IntKind.wrap_u8]; omega
          have hw64 : IntKind.i64.wrap (255 - (j : Int)) = 255 - (j : Int) := by rw [IntKind.wrap_i64]; omega
          have HBC := Lib.hid (show by8 (UInt8.ofNat (255 - j)) = .int .u8 ((255 - j : Nat) : Int) by simp only [by8, UInt8.toNat_ofNat']; rw [Nat.mod_eq_of_lt (by omega)])
          clear hL o hx hm2e hv hm2 hus
          obtain ⟨wj, rfl⟩ : ∃ x, x = wr := ⟨_, rfl⟩
          go_wp2
          go_loopw [7, 8] (fun o i w5 => ∃ (q : Nat) (vl : Value), q ≤ 64 ∧ i = .int .i64 q ∧ o = vl ∧ TailSt W w5 5 X I z vs vs lm N j m2 wj.heap.size (255 - j) vl q ∧ Keep (Value.slice Av m2 cv).ownBlock.toList wj w5) (fun _ i _ => 64 - (intOf i).toNat)
          case atStart => exact ⟨0, _, by omega, rfl, rfl, HT0.out, Keep.refl _ _⟩
          case round =>
            clear HT0 g0
            obtain ⟨k, vl, hk, rfl, rfl, hT, kT⟩ := hrel
            by_cases hkl : k < 64
            · have hk0 : (0 : Int) ≤ (k : Int) := Int.natCast_nonneg _
              have hk1 : (k : Int) < 64 := by omega
              go_wp2_with (first | (at_builtin; refine Stopped.out ?_) | (at_make; refine Stopped.out ?_))
              have hTa := hT.below F (w' := wr.alloc (.cells #[.int .u8 ((255 - j : Nat) : Int)] 5)) ((Below.refl _ _).alloc (Nat.le_refl _) _)
              obtain ⟨xs, ox, hxs⟩ := hTa.own
              refine Stopped.mk (apx_own EBw33 rfl (.tmp 52) (.tmp 56) rfl rfl ox rfl (Sl.fresh wr [.int .u8 ((255 - j : Nat) : Int)] 5 1 1 rfl (by decide)) (by simp [Value.oneCell']) (by simp only [maxLen]; omega) (by omega) hTa.x.below.size ?_)
              intro v2 w2 hst2 hg2 hb2 hk2
              have HN3 := Lib.hid (And.intro (hTa.step F (by rw [← hxs, HBC.out]; exact hst2) hg2 hb2 hk2) (hTa.keep ((Below.refl _ _).alloc (Nat.le_refl _) _) kT HL.out.2.1 hg2))
              clear hTa hT kT ox hxs hst2 hg2 hb2 hk2
              go_wp2
              first | go_roundw | refine ⟨?rel, ?measure⟩
              case rel => exact ⟨k + 1, v2, by omega, by go_num, rfl, HN3.out.1, HN3.out.2⟩
              case measure => simp [intOf]; omega
            · have HK := Lib.hid (show k = 64 by omega)
              rw [HK.out] at hT
              obtain ⟨gv, cp, rfl, hcp, sv⟩ := hT.done (by decide)
              have hba : Below wr.heap.size wr (wr.alloc (.cells #[.slice (some ⟨gv, 0, none⟩) (m2 + 64) cp] 23)) := (Below.refl _ _).alloc (Nat.le_refl _) _
              have HT := Lib.hid (And.intro hT (And.intro kT hba))
              have HRow := Lib.hid (own_below (HL.out.1.rowAt HL.out.2.2 HL.out.2.1 kT) hba)
              have HBs := Lib.hid (Nat.le_trans HL.out.1.hB (Nat.le_trans kT.size hba.size))
              clear hT kT hba sv
              go_wp2_with (first | (at_builtin; refine Stopped.out ?_) | (at_make; refine Stopped.out ?_))
              refine Stopped.mk (apk_own EBs33 rfl (.tmp 58) (.tmp 60) rfl rfl HRow.out rfl (Sl.fresh wr [.slice (some ⟨gv, 0, none⟩) (m2 + 64) cp] 23 1 1 rfl (by decide)) (by simp [Value.oneCell']) (by simp only [maxLen]; omega) (by omega) HBs.out ?_)
              intro v2 w2 hst2 hg2 _
              have HN3 := Lib.hid (HL.out.1.step (by decide) F HL.out.2.2 (by have := HZ.out; omega) HL.out.2.1 HT.out.1 HT.out.2.1 HT.out.2.2 hst2 hg2)
              clear hst2 hg2 HBs HRow HT
              go_wp2
              first | go_roundw | refine ⟨?rel, ?measure⟩
              case rel => exact ⟨j + 1, _, v2, by omega, by go_num, by have := HL.out.2.2; simp [this], rfl, HN3.out⟩
              case measure => simp [intOf]; omega
        · have HJ3 := Lib.hid (show j = n by omega)
          have hjn3 : (n : Int) ≤ (j : Int) := by omega
          have HL := Lib.hid (And.intro hL (show us.length = n by omega))
          clear hL hus
          obtain ⟨w3, rfl⟩ : ∃ x, x = wr := ⟨_, rfl⟩
          go_wp2
          go_loopw [9] (fun i wr => ∃ (j : Nat), j ≤ n ∧ i = .int .i64 j ∧ Drawn w3 wr) (fun i _ => n - (intOf i).toNat)
          case atStart => exact ⟨0, by omega, rfl, Drawn.refl _⟩
          case round =>
            obtain ⟨j, hj, rfl, hd⟩ := hrel
            by_cases hlt : j < n
            · have hj0 : (0 : Int) ≤ (j : Int) := Int.natCast_nonneg _
              have hj1 : (j : Int) < (n : Int) := by omega
              obtain ⟨A, c, g, cg, gx, cx, x, hx, c0, rfl, c1, hxN, sA, sU, hbm⟩ := HL.out.1.read HM.out hlt HL.out.2 HZ.out
              obtain ⟨m2, hm2e⟩ : ∃ m2, m2 = x.length := ⟨_, rfl⟩
              have hm2N : m2 ≤ 100000000 := Nat.le_trans (hm2e ▸ hxN) HN.out
              have HR := Lib.hid (And.intro hm2e (And.intro c0 (And.intro c1 (And.intro sA (And.intro sU hbm)))))
              have g0 := cell_below c0 hd.below
              rw [← hm2e] at c0 c1 sA sU g0
              have HC := Lib.hid (And.intro c0 (And.intro c1 (And.intro sA sU)))
              have HD := Lib.hid hd
              have hcv : IntKind.u8.wrap (j : Int) = ((muI j : Nat) : Int) := by rw [IntKind.wrap_u8]; unfold muI; omega
              have hcw : IntKind.u8.wrap (255 - (j : Int)) = ((255 - j : Nat) : Int) := by rw [IntKind.wrap_u8]; omega
              have hw64 : IntKind.i64.wrap (255 - (j : Int)) = 255 - (j : Int) := by rw [IntKind.wrap_i64]; omega
              clear hx c0 c1 hxN sA sU hbm hd hm2e
              go_wp2
              go_loopw [11] (fun i w5 => ∃ (k : Nat), k ≤ m2 ∧ i = .int .i64 k ∧ Drawn w3 w5) (fun i _ => m2 - (intOf i).toNat)
              case atStart => exact ⟨0, by omega, rfl, HD.out⟩
              case round =>
                clear HD g0
                obtain ⟨k, hk, rfl, hd⟩ := hrel
                by_cases hkl : k < m2
                · have hk0 : (0 : Int) ≤ (k : Int) := Int.natCast_nonneg _
                  have hk1 : (k : Int) < (m2 : Int) := by omega
                  obtain ⟨ab, ao, rfl⟩ := HC.out.2.2.1.form (by omega)
                  have g0 := cell_below HC.out.1 hd.below
                  have ga := (HC.out.2.2.1.below hd.below).byte k hkl
                  rw [HR.out.2.2.2.2.2 k (by rw [← HR.out.1]; exact hkl)] at ga
                  have hne : (((muI j : Nat) : Int) != ((muI j : Nat) : Int)) = false := by simp
                  have HD := Lib.hid hd
                  clear hd
                  go_wp2
                  first | go_roundw | refine ⟨?rel, ?measure⟩
                  case rel => exact ⟨k + 1, by omega, by go_num, HD.out⟩
                  case measure => simp [intOf]; omega
                · have hkm : k = m2 := by omega
                  subst hkm
                  have g1 := cell_below HC.out.2.1 hd.below
                  have gu := (HC.out.2.2.2.below hd.below).byte k (by omega)
                  rw [bt_long _ _ (by omega) _ (by rw [← HR.out.1]; omega), if_neg (by rw [← HR.out.1]; omega), Nat.zero_add] at gu
                  have gv := (HC.out.2.2.2.below hd.below).byte (k + 63) (by omega)
                  rw [bt_long _ _ (by omega) _ (by rw [← HR.out.1]; omega), if_neg (by rw [← HR.out.1]; omega), Nat.zero_add] at gv
                  have hk0 : (0 : Int) ≤ (k : Int) := Int.natCast_nonneg _
                  have r1 : (k : Int) < (k : Int) + 64 := by omega
                  have r2 : (k : Int) + 63 < (k : Int) + 64 := by omega
                  have hne : (((255 - j : Nat) : Int) != ((255 - j : Nat) : Int)) = false := by simp
                  have HD := Lib.hid hd
                  clear hd
                  go_wp2
                  first | go_roundw | refine ⟨?rel, ?measure⟩
                  case rel => exact ⟨j + 1, by omega, by go_num, HD.out⟩
                  case measure => simp [intOf]; omega
            · have hx4 := HL.out.1.x.then_ F hd.below
              have H4 := Lib.hid (And.intro hx4.i hx4.below)
              clear hx4 hd
              have hjn4 : (n : Int) ≤ (j : Int) := by omega
              go_wp2
              go_ret
              exact ⟨rfl, H4.out.1, H4.out.2⟩
end Go.Proofs.Ytikjhandhgfohaa
