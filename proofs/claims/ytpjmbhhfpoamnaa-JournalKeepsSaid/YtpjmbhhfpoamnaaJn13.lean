import Derived.Test.YtpjmbhhfpoamnaaJn12
set_option linter.unusedVariables false
set_option linter.unusedSimpArgs false
namespace Go.Proofs.Ytpjmbhhfpoamnaa
open Go.RowKit
set_option maxRecDepth 100000 in
set_option maxHeartbeats 6400000 in
theorem read_yes_ne (w : World) {A : Option Addr} {n c : Nat} {l : List UInt8} (h : Sl w 1 A n c (l.map by8)) (hn : n ≤ 1048576) (hx : (wholeD l).2.2.1 ≠ 0) (ht : (wholeD l).2.2.2 = 0) (hk : (wholeD l).1 = 72) (hp12e : 12 < (wholeD l).2.1.length) (hlo : 1 ≤ be ((wholeD l).2.1.take 8)) (hhi : be ((wholeD l).2.1.take 8) ≤ 9223372036854775807) :
    Calls Try.prog 103 #[.slice A n c] w (ReadP w l) := by
  have hp12 : 12 ≤ (wholeD l).2.1.length := by omega
  have hl0 : l ≠ [] := fun e => hx (by rw [e]; rfl)
  have hbd := wholeD_bound l ht hl0
  have hnn : n ≤ 140737488351232 := by omega
  have hS := Lib.hid h
  have hl : l.length = n := by simpa using h.len
  obtain ⟨W0, hW0⟩ : ∃ W0, W0 = w.alloc (.cells #[.int .i64 0, .slice none 0 0, .slice none 0 0, .int .i64 0] 162) := ⟨_, rfl⟩
  have hb0 : Below w.heap.size w W0 := by rw [hW0]; exact (Below.refl _ w).alloc (Nat.le_refl _) _
  have z0 : W0.heap[w.heap.size]? = some (.cells #[.int .i64 0, .slice none 0 0, .slice none 0 0, .int .i64 0] 162 (0, 0)) := by rw [hW0]; exact heap_alloc_new w _
  obtain ⟨p, hp⟩ : ∃ p, p = (wholeD l).2.1 := ⟨_, rfl⟩
  obtain ⟨K, hK⟩ : ∃ K, K = (wholeD l).1.toNat := ⟨_, rfl⟩
  obtain ⟨P, hP⟩ : ∃ P, P = p.length := ⟨_, rfl⟩
  obtain ⟨E, hE⟩ : ∃ E, E = (wholeD l).2.2.1 := ⟨_, rfl⟩
  obtain ⟨T, hT⟩ : ∃ T, T = (wholeD l).2.2.2 := ⟨_, rfl⟩
  have HD : Hid (Calls Try.prog 46 #[.slice A n c, .int .i64 0] W0 fun e w' => ∃ g, e = .returned (.tuple #[.agg #[.int .u8 K, .slice (some ⟨g, 0, none⟩) P P], .int .i64 E, .int .i64 T]) ∧ w'.ownsRow W0.heap.size 5 1 (.slice (some ⟨g, 0, none⟩) P P) P (p.map by8) ∧ Below W0.heap.size W0 w') := Lib.hid (Decode_at W0 (h.below hb0) hnn 0 (Nat.zero_le _) K P E T p hK hp hP (by simpa using hE) hT)
  obtain ⟨EP, hEP⟩ : ∃ EP, EP = be (p.take 8) := ⟨_, rfl⟩
  obtain ⟨NB, hNB⟩ : ∃ NB, NB = be ((p.drop 8).take 4) := ⟨_, rfl⟩
  have q1 : ((E : Int) == 0) = false := by simp; omega
  have q2 : ((T : Int) != 0) = false := by simp; omega
  have hk2 : K = 72 := by rw [hK, hk]; rfl
  have q3 : ((K : Int) != 72) = false := by simp; omega
  have q4 : (12 : Int) ≤ (P : Int) := by rw [hP, hp]; omega
  have q4n : 12 ≤ P := by omega
  clear hk2
  have q5 : (1 : Int) ≤ (EP : Int) := by rw [hEP, hp]; omega
  have q6 : (EP : Int) ≤ (9223372036854775807 : Int) := by rw [hEP, hp]; omega
  have HWR : Hid (IntKind.i64.wrap (EP : Int) = (EP : Int)) := Lib.hid (by rw [IntKind.wrap_i64]; omega)
  have hEl : E ≤ n := by rw [hE, ← hl]; exact hbd.2.1
  have q4s : (12 : Int) < (P : Int) := by rw [hP, hp]; omega
  have hok : hdrOk l := ⟨hx, ht, hk, hp12, hlo, hhi⟩
  have hNBl : NB < 4294967296 := by
    have h1 := be_lt ((p.drop 8).take 4)
    have h2 : ((p.drop 8).take 4).length ≤ 4 := by simp; omega
    have h3 : 256 ^ ((p.drop 8).take 4).length ≤ 256 ^ 4 := Nat.pow_le_pow_right (by decide) h2
    rw [hNB]; omega
  have HL0 : Hid (RLaw l E E [] ∧ l.length = n ∧ E = (wholeD l).2.2.1) := Lib.hid ⟨⟨by simp, rfl, by omega, by simp⟩, hl, hE⟩
  have HRB : Hid (∀ (g : Nat) (rs : List (List UInt8)), (recG l E).1 = rs → E + (recG l E).2 = g → readB l = if NB ≤ rs.length then some ⟨EP, p.drop 12, rs, g⟩ else none) := Lib.hid (fun g rs h1 h2 => by rw [hNB, hEP, hp]; exact readB_end hok (by rw [← hE]; exact h1) (by rw [← hE]; exact h2))
  have HE := Lib.hid (And.intro hEP hNB)
  have HS0 : Hid (W0.heap.size = w.heap.size + 1) := Lib.hid (by rw [hW0]; simp)
  have HWN : Hid (wrap64 (NB : Int) = (NB : Int)) := Lib.hid (by have h := IntKind.wrap_i64 (NB : Int); unfold wrap64; omega)
  have HPP := Lib.hid (And.intro hP hNBl)
  have HN := Lib.hid hn
  clear hEP hNB hl h hp hK hP hE hT hok hx ht hk hp12 hlo hhi hbd hl0 hnn hNBl hn
  go_enter Try.func103, Try.ntmps103
  go_wp2_with (rw [← hW0])
  clear hW0
  refine HD.out.mono ?_
  rintro e w1 ⟨g, rfl, o1, hb1⟩
  clear HD
  obtain ⟨W2, hW2⟩ : ∃ W2, W2 = w1.alloc (.cells #[.int .u8 K, .slice (some ⟨g, 0, none⟩) P P] 70) := ⟨_, rfl⟩
  have hb2 : Below w1.heap.size w1 W2 := by rw [hW2]; exact (Below.refl _ w1).alloc (Nat.le_refl _) _
  have z1 : W2.heap[w.heap.size]? = some (.cells #[.int .i64 0, .slice none 0 0, .slice none 0 0, .int .i64 0] 162 (0, 0)) := heap_below (heap_below z0 hb1) hb2
  have zf : W2.heap[w1.heap.size]? = some (.cells #[.int .u8 K, .slice (some ⟨g, 0, none⟩) P P] 70 (0, 0)) := by rw [hW2]; exact heap_alloc_new w1 _
  have x0 : W2.cell? ⟨w1.heap.size, 0, none⟩ = some (.int .u8 K) := box_cell zf 0 _ rfl
  have x1 : W2.cell? ⟨w1.heap.size, 1, none⟩ = some (.slice (some ⟨g, 0, none⟩) P P) := box_cell zf 1 _ rfl
  have o2 := own_below o1 hb2
  have SP := (own_sl' o2).2.1
  have H64 : Hid (Calls Try.prog 131 #[.slice (some ⟨g, 0, none⟩) P P, .int .i64 (0 : Int)] W2 fun e w' => e = .returned (.tuple #[.int .u64 (EP : Int), .bool true]) ∧ W2 = w') := Lib.hid (by rw [HE.out.1]; simpa using LoadBE64_yes W2 SP 0 (by omega))
  have H32 : Hid (Calls Try.prog 124 #[.slice (some ⟨g, 0, none⟩) P P, .int .i64 (8 : Int)] W2 fun e w' => e = .returned (.tuple #[.int .u32 (NB : Int), .bool true]) ∧ W2 = w') := Lib.hid (by rw [HE.out.2]; exact LoadBE32_yes W2 SP 8 (by omega))
  have zz := z1
  have HW2 := Lib.hid hW2
  have HB := Lib.hid (And.intro (bthen hb0 (bthen hb1 hb2)) (And.intro z1 (And.intro o2 (And.intro hb0 (bthen hb1 hb2)))))
  have hsz := hb1.size
  clear z0 z1 zf hW2 hb0 hb1 hb2 o1 o2 SP zz
  go_wp2_with (rw [← HW2.out])
  refine H64.out.mono ?_
  rintro e w3 ⟨rfl, rfl⟩
  clear H64
  go_wp2_with fail
  refine H32.out.mono ?_
  rintro e w3 ⟨rfl, rfl⟩
  clear H32
  have hwr := HWR.out
  go_wp2_with fail
  clear hwr
  obtain ⟨W3, hW3⟩ : ∃ W3, W3 = W2.alloc (.cells #[.int .i64 EP, (.slice (some ⟨g, 12, none⟩) (P - 12) (P - 12)), .slice none 0 0, .int .i64 E] 162) := ⟨_, rfl⟩
  rw [← hW3]
  have b3 : Below W2.heap.size W2 W3 := by rw [hW3]; exact (Below.refl _ W2).alloc (Nat.le_refl _) _
  have r3 : RSt W3 W3 W2.heap.size EP (.slice (some ⟨g, 12, none⟩) (P - 12) (P - 12)) [] E (.slice none 0 0) [] := ⟨by rw [hW3]; exact heap_alloc_new W2 _, Keep.refl _ _, by rw [hW3]; simp, ⟨rfl, .inl ⟨rfl, rfl⟩⟩, fun _ _ h => by simp at h⟩
  have H3 := Lib.hid b3
  have HR0 := Lib.hid r3
  clear hW3 b3 r3
  obtain ⟨bc, hbc⟩ : ∃ bc, bc = W2.heap.size := ⟨_, rfl⟩
  rw [← hbc] at HR0 ⊢
  have HBC := Lib.hid hbc
  clear hbc q1 q2 q3 q5 q6 x0 x1
  go_loopw [13] (fun _ wr => ∃ (gd : Nat) (rs : List (List UInt8)) (v : Value) (vs : List Value), RSt W3 wr bc EP (.slice (some ⟨g, 12, none⟩) (P - 12) (P - 12)) rs gd v vs ∧ Hid (RLaw l E gd rs)) (fun _ wr => n - goodAt wr bc)
  case atStart => exact ⟨E, [], _, [], HR0.out, Lib.hid HL0.out.1⟩
  case round =>
    obtain ⟨gd, rs, v, vs, hR, hL⟩ := hrel
    have hgd := hR.good
    have HBW : Below w.heap.size w wr := hR.keep.below (bthen HB.out.1 H3.out) (bthen HB.out.1 H3.out).size (fun x hx => by simp at hx; rw [hx, HBC.out]; exact HB.out.1.size)
    obtain ⟨p2, hp2⟩ : ∃ x, x = (wholeD (l.drop gd)).2.1 := ⟨_, rfl⟩
    obtain ⟨K2, hK2⟩ : ∃ x, x = (wholeD (l.drop gd)).1.toNat := ⟨_, rfl⟩
    obtain ⟨P2, hP2⟩ : ∃ x, x = p2.length := ⟨_, rfl⟩
    obtain ⟨E2, hE2⟩ : ∃ x, x = gd + (wholeD (l.drop gd)).2.2.1 := ⟨_, rfl⟩
    obtain ⟨T2, hT2⟩ : ∃ x, x = (wholeD (l.drop gd)).2.2.2 := ⟨_, rfl⟩
    have hgn : gd ≤ n := by have := hL.out.le; have := HL0.out.2.1; omega
    have hrs : rs.length ≤ 1048576 := by have := hL.out.few; have := HN.out; omega
    have HD2 := Lib.hid (Decode_at wr (hS.out.below HBW) (by have := HN.out; omega) gd hgn K2 P2 E2 T2 p2 hK2 hp2 hP2 hE2 hT2)
    have c3 := box_cell hR.box 3 _ rfl
    have HX := Lib.hid (And.intro hp2 (And.intro hK2 (And.intro hP2 (And.intro hE2 (And.intro hT2 hR)))))
    have HBW2 := Lib.hid HBW
    clear hp2 hK2 hP2 hE2 hT2 hR HBW
    go_wp2_with fail
    refine HD2.out.mono ?_
    rintro e wa ⟨gi, rfl, oi, hbi⟩
    clear HD2
    obtain ⟨wb, hwb⟩ : ∃ wb, wb = wa.alloc (.cells #[.int .u8 K2, .slice (some ⟨gi, 0, none⟩) P2 P2] 70) := ⟨_, rfl⟩
    have hbb : Below wa.heap.size wa wb := by rw [hwb]; exact (Below.refl _ wa).alloc (Nat.le_refl _) _
    have zf2 : wb.heap[wa.heap.size]? = some (.cells #[.int .u8 K2, .slice (some ⟨gi, 0, none⟩) P2 P2] 70 (0, 0)) := by rw [hwb]; exact heap_alloc_new wa _
    have R2 := HX.out.2.2.2.2.2.then_ (bthen hbi hbb)
    have c2' := box_cell R2.box 2 _ rfl
    have c3' := box_cell R2.box 3 _ rfl
    have f0 := box_cell zf2 0 _ rfl
    have f1 := box_cell zf2 1 _ rfl
    have HY := Lib.hid (And.intro R2 (And.intro (own_below oi hbb) (bthen hbi hbb)))
    have HWb := Lib.hid hwb
    have hne : bc ≠ wa.heap.size := by have h1 := R2.bcl; have h2 := HX.out.2.2.2.2.2.keep.size; have h3 := hbi.size; omega
    clear R2 oi hbi hbb zf2 hwb c3
    by_cases hc : (wholeD (l.drop gd)).2.2.1 = 0 ∨ (wholeD (l.drop gd)).2.2.2 ≠ 0 ∨ (wholeD (l.drop gd)).1 ≠ 82
    rotate_left
    · have e1 : (wholeD (l.drop gd)).2.2.1 ≠ 0 := fun h => hc (.inl h)
      have e2 : (wholeD (l.drop gd)).2.2.2 = 0 := Decidable.byContradiction fun h => hc (.inr (.inl h))
      have e3 : (wholeD (l.drop gd)).1 = 82 := Decidable.byContradiction fun h => hc (.inr (.inr h))
      have r1 : ((E2 : Int) == (gd : Int)) = false := by have := HX.out.2.2.2.1; simp; omega
      have r2 : ((T2 : Int) != 0) = false := by have := HX.out.2.2.2.2.1; simp; omega
      have r3 : ((K2 : Int) != 82) = false := by have := HX.out.2.1; rw [e3] at this; rw [this]; rfl
      have HC := Lib.hid (And.intro e1 (And.intro e2 e3))
      clear hc e1 e2 e3
      go_wp2_with (first | (rw [← HWb.out]) | (at_builtin; refine Stopped.out ?_))
      obtain ⟨hY1, hY2, hY3⟩ := HY.out
      have hP2 := HX.out.2.2.1
      obtain ⟨M2, hM2⟩ : ∃ x, x = E2 := ⟨_, rfl⟩
      subst hP2
      have hbc : Below wb.heap.size wb (wb.alloc (.cells #[.slice (some ⟨gi, 0, none⟩) p2.length p2.length] 22)) := (Below.refl _ wb).alloc (Nat.le_refl _) _
      have hR3 := hY1.then_ hbc
      have hs3 := hR3.keep.size
      refine Stopped.mk (apk_own EShj rfl (.tmp 87) (.tmp 90) rfl rfl hR3.row rfl (Sl.fresh wb [.slice (some ⟨gi, 0, none⟩) p2.length p2.length] 22 1 1 rfl (by decide)) (by simp [Value.oneCell']) (by simp only [maxLen]; omega) (by omega) hs3 ?_)
      intro v' w2 o2 hg2 _
      have zm := hR3.mid hg2
      obtain ⟨A2, c2, rfl, _, _⟩ := own_sl o2
      have HR4 := Lib.hid (hR3.step (own_mono (own_below hY2 hbc) HX.out.2.2.2.2.2.keep.size) o2 hg2 E2)
      have m2 := box_cell zm 2 _ rfl
      have m3 := box_cell zm 3 _ rfl
      have mf2 := box_free zm 2
      have mf3 := box_free zm 3
      clear hY1 hY2 hY3 hbc hR3 hs3 o2 hg2 zm c2' c3' f0 f1
      go_wp2
      have hd0 : l.drop gd ≠ [] := fun e => HC.out.1 (by rw [e]; rfl)
      have hbd2 := wholeD_bound (l.drop gd) HC.out.2.1 hd0
      have hE2 := HX.out.2.2.2.1
      have hll := HL0.out.2.1
      have hne0 := HC.out.1
      have hE2n : E2 ≤ n := by have := hbd2.2.1; simp at this; omega
      have HLN : Hid (RLaw l E E2 (rs ++ [p2])) := Lib.hid (by rw [hE2, HX.out.1]; exact hL.out.next HC.out.1 HC.out.2.1 HC.out.2.2 (by omega))
      first | go_roundw | refine ⟨?rel, ?measure⟩
      case rel => exact ⟨E2, _, _, _, HR4.out, HLN⟩
      case measure => rw [hgd, HR4.out.good]; omega
    · by_cases hE0 : (wholeD (l.drop gd)).2.2.1 = 0
      · have r1 : ((E2 : Int) == (gd : Int)) = true := by have := HX.out.2.2.2.1; simp; omega
        have HC := Lib.hid (Or.inl hE0 : (wholeD (l.drop gd)).2.2.1 = 0 ∨ (wholeD (l.drop gd)).2.2.2 ≠ 0 ∨ (wholeD (l.drop gd)).1 ≠ 82)
        clear hc hE0
        obtain ⟨Av, cv, hve, _, _⟩ := own_sl HY.out.1.row
        subst hve
        have hbw : bc ≠ w.heap.size := by have h1 := HBC.out; have h2 := (bthen HB.out.2.2.2.1 HB.out.2.2.2.2).size; have h3 := HB.out.2.2.2.1.size; have h4 := hsz; have h5 := congrArg (fun x : World => x.heap.size) HW2.out; simp at h5; omega
        have zr : wb.heap[w.heap.size]? = some (.cells #[.int .i64 0, .slice none 0 0, .slice none 0 0, .int .i64 0] 162 (0, 0)) := heap_below (HX.out.2.2.2.2.2.keep.heap (heap_below HB.out.2.1 H3.out) (by simp; omega)) HY.out.2.2
        have zz := set4 (.int .i64 EP) (.slice (some ⟨g, 12, none⟩) (P - 12) (P - 12)) (.slice Av rs.length cv) (.int .i64 gd) zr
        have S0 : wb.cell? ⟨bc, 0, none⟩ = some (.int .i64 EP) ∧ wb.cell? ⟨bc, 1, none⟩ = some (.slice (some ⟨g, 12, none⟩) (P - 12) (P - 12)) ∧ wb.cell? ⟨bc, 2, none⟩ = some (.slice Av rs.length cv) ∧ wb.cell? ⟨bc, 3, none⟩ = some (.int .i64 gd) := ⟨box_cell HY.out.1.box 0 _ rfl, box_cell HY.out.1.box 1 _ rfl, box_cell HY.out.1.box 2 _ rfl, box_cell HY.out.1.box 3 _ rfl⟩
        have S1 : ∀ {V : World}, Keep [w.heap.size] wb V → V.cell? ⟨bc, 0, none⟩ = some (.int .i64 EP) ∧ V.cell? ⟨bc, 1, none⟩ = some (.slice (some ⟨g, 12, none⟩) (P - 12) (P - 12)) ∧ V.cell? ⟨bc, 2, none⟩ = some (.slice Av rs.length cv) ∧ V.cell? ⟨bc, 3, none⟩ = some (.int .i64 gd) := fun {V} k => ⟨k.cell S0.1 (by simp; omega), k.cell S0.2.1 (by simp; omega), k.cell S0.2.2.1 (by simp; omega), k.cell S0.2.2.2 (by simp; omega)⟩
        have HSS := Lib.hid (And.intro zz.1 (And.intro zz.2 (S1 zz.2)))
        clear S1 zz
        have t0 : wb.cell? ⟨w.heap.size, 0, none⟩ = some (.int .i64 0) := box_cell zr 0 _ rfl
        have tf0 := box_free zr 0
        have t1 : wb.cell? ⟨w.heap.size, 1, none⟩ = some (.slice none 0 0) := box_cell zr 1 _ rfl
        have tf1 := box_free zr 1
        have t2 : wb.cell? ⟨w.heap.size, 2, none⟩ = some (.slice none 0 0) := box_cell zr 2 _ rfl
        have tf2 := box_free zr 2
        have t3 : wb.cell? ⟨w.heap.size, 3, none⟩ = some (.int .i64 0) := box_cell zr 3 _ rfl
        have tf3 := box_free zr 3
        have HZR := Lib.hid zr
        clear zr
        go_wp2_with (rw [← HWb.out])
        refine wp_region_held_drew (S := (fun w' => w'.cell? ⟨bc, 0, none⟩ = some (.int .i64 EP) ∧ w'.cell? ⟨bc, 1, none⟩ = some (.slice (some ⟨g, 12, none⟩) (P - 12) (P - 12)) ∧ w'.cell? ⟨bc, 2, none⟩ = some (.slice Av rs.length cv) ∧ w'.cell? ⟨bc, 3, none⟩ = some (.int .i64 gd))) (by kernel_rfl) (by (first | exact S0 | exact HSS.out.2.2)) (fun hHeld => ?_)
        refine wpAnyH_take (i := 0) (v := ?_) (by simp only [List.getElem?_toArray, List.getElem?_cons_succ, List.getElem?_cons_zero]; rfl) (by kernel_rfl) (by kernel_rfl) (by kernel_rfl) (by exact fun _ _ _ h => h) (Or.inl ⟨by rfl, ?_⟩) (by assumption) ?_
        rotate_left
        · (intro w hSw; (try dsimp only at hSw); go_simp; try with_reducible rfl)
        try simp only [Act.put, List.setIfInBounds_toArray, List.set_cons_zero, List.set_cons_succ]
        refine wpAnyH_take (i := 1) (v := ?_) (by simp only [List.getElem?_toArray, List.getElem?_cons_succ, List.getElem?_cons_zero]; rfl) (by kernel_rfl) (by kernel_rfl) (by kernel_rfl) (by exact fun _ _ _ h => h) (Or.inl ⟨by rfl, ?_⟩) (by assumption) ?_
        rotate_left
        · (intro w hSw; (try dsimp only at hSw); go_simp; try with_reducible rfl)
        try simp only [Act.put, List.setIfInBounds_toArray, List.set_cons_zero, List.set_cons_succ]
        refine wpAnyH_take (i := 2) (v := ?_) (by simp only [List.getElem?_toArray, List.getElem?_cons_succ, List.getElem?_cons_zero]; rfl) (by kernel_rfl) (by kernel_rfl) (by kernel_rfl) (by exact fun _ _ _ h => h) (Or.inl ⟨by rfl, ?_⟩) (by assumption) ?_
        rotate_left
        · (intro w hSw; (try dsimp only at hSw); go_simp; try with_reducible rfl)
        try simp only [Act.put, List.setIfInBounds_toArray, List.set_cons_zero, List.set_cons_succ]
        refine wpAnyH_take (i := 3) (v := ?_) (by simp only [List.getElem?_toArray, List.getElem?_cons_succ, List.getElem?_cons_zero]; rfl) (by kernel_rfl) (by kernel_rfl) (by kernel_rfl) (by exact fun _ _ _ h => h) (Or.inl ⟨by rfl, ?_⟩) (by assumption) ?_
        rotate_left
        · (intro w hSw; (try dsimp only at hSw); go_simp; try with_reducible rfl)
        try simp only [Act.put, List.setIfInBounds_toArray, List.set_cons_zero, List.set_cons_succ]
        refine wpAnyH_take (i := 4) (v := ?_) (by simp only [List.getElem?_toArray, List.getElem?_cons_succ, List.getElem?_cons_zero]; rfl) (by kernel_rfl) (by kernel_rfl) (by kernel_rfl) (by exact fun _ _ _ h => h) (Or.inl ⟨by rfl, ?_⟩) (by assumption) ?_
        rotate_left
        · (intro w hSw; (try dsimp only at hSw); go_simp; try with_reducible rfl)
        try simp only [Act.put, List.setIfInBounds_toArray, List.set_cons_zero, List.set_cons_succ]
        refine wpAnyH_take (i := 5) (v := ?_) (by simp only [List.getElem?_toArray, List.getElem?_cons_succ, List.getElem?_cons_zero]; rfl) (by kernel_rfl) (by kernel_rfl) (by kernel_rfl) (by exact fun _ _ _ h => h) (Or.inl ⟨by rfl, ?_⟩) (by assumption) ?_
        rotate_left
        · (intro w hSw; (try dsimp only at hSw); go_simp; try with_reducible rfl)
        try simp only [Act.put, List.setIfInBounds_toArray, List.set_cons_zero, List.set_cons_succ]
        refine wpAnyH_take (i := 6) (v := ?_) (by simp only [List.getElem?_toArray, List.getElem?_cons_succ, List.getElem?_cons_zero]; rfl) (by kernel_rfl) (by kernel_rfl) (by kernel_rfl) (by exact fun _ _ _ h => h) (Or.inl ⟨by rfl, ?_⟩) (by assumption) ?_
        rotate_left
        · (intro w hSw; (try dsimp only at hSw); go_simp; try with_reducible rfl)
        try simp only [Act.put, List.setIfInBounds_toArray, List.set_cons_zero, List.set_cons_succ]
        refine wpAnyH_ready (rs := [7]) (by kernel_rfl) (by simp) ?_
        refine AllReadyH.cons rfl (fun K hK => ?_) AllReadyH.nil
        rw [if_pos (by rfl)]
        (go_wp2_with fail)
        refine hK.out _ _ (by (first | exact S0 | exact HSS.out.2.2)) (fun hHeld => ?_)
        clear hK K
        try simp only [Act.put, List.setIfInBounds_toArray, List.set_cons_zero, List.set_cons_succ]
        refine wpAnyH_take (i := 8) (v := ?_) (by simp only [List.getElem?_toArray, List.getElem?_cons_succ, List.getElem?_cons_zero]; rfl) (by kernel_rfl) (by kernel_rfl) (by kernel_rfl) (by exact fun _ _ _ h => h) (Or.inl ⟨by rfl, ?_⟩) (by assumption) ?_
        rotate_left
        · (intro w hSw; (try dsimp only at hSw); go_simp; try with_reducible rfl)
        try simp only [Act.put, List.setIfInBounds_toArray, List.set_cons_zero, List.set_cons_succ]
        refine wpAnyH_done (by kernel_rfl) ?_ _
        go_wp2
        obtain ⟨hra, hga⟩ := hL.out.end_ HC.out
        have hRB := HRB.out gd rs hra hga
        have hkz : Below w.heap.size w wb := bthen HBW2.out HY.out.2.2
        refine bodyPost_ret (results_c2r (P := Try.prog) rfl _ _ _ _ _ _ _ (by rfl) HSS.out.1 Try.underlying162 rfl (by kernel_rfl)) rfl ?_
        have kd := HSS.out.2.1.drew
        refine ReadP.yes (kd.below hkz hkz.size (by simp)) ?_ (fun ct hct => by rw [hRB] at hct; split at hct <;> first | exact (Option.some.inj hct).symm | cases hct) ?_ ⟨_, _, _, rfl⟩ ⟨_, _, _, rfl⟩
        · rw [hRB, HWN.out]
          split <;> simp <;> omega
        · have h0 := HB.out.2.2.1
          rw [show P = p.length from HPP.out.1] at h0
          have h1 := own_below h0 H3.out
          have h2 := HX.out.2.2.2.2.2.keep.own h1 (fun k hk hx => by
            have h4 := (h0.lt k hk).2
            have h5 := HBC.out
            simp at hx; omega)
          have h6 := HS0.out
          have h7 := HB.out.2.2.2.2.size
          have h8 := H3.out.size
          exact ct_rows kd (own_below h2 HY.out.2.2) (by omega) (by omega) HY.out.1 rfl (fun ad e => by cases e; rfl) (fun hs => by have hp12 := HPP.out.1; have h9 := hs.piece 12 (P - 12) (by omega); rw [← hp12, List.take_of_length_le (by simp; omega)] at h9; simpa using h9)
      · by_cases hr1 : ((E2 : Int) == (gd : Int)) = true
        · exact absurd (by have := HX.out.2.2.2.1; simp at hr1; omega) hE0
        have r1 : ((E2 : Int) == (gd : Int)) = false := by simpa using hr1
        have HE0 := Lib.hid hE0
        clear hr1 hE0
        by_cases hT0 : (wholeD (l.drop gd)).2.2.2 = 0
        rotate_left
        · have r2 : ((T2 : Int) != 0) = true := by have := HX.out.2.2.2.2.1; simp; omega
          have HC := Lib.hid (Or.inr (Or.inl hT0) : (wholeD (l.drop gd)).2.2.1 = 0 ∨ (wholeD (l.drop gd)).2.2.2 ≠ 0 ∨ (wholeD (l.drop gd)).1 ≠ 82)
          clear hc hT0
          obtain ⟨Av, cv, hve, _, _⟩ := own_sl HY.out.1.row
          subst hve
          have hbw : bc ≠ w.heap.size := by have h1 := HBC.out; have h2 := (bthen HB.out.2.2.2.1 HB.out.2.2.2.2).size; have h3 := HB.out.2.2.2.1.size; have h4 := hsz; have h5 := congrArg (fun x : World => x.heap.size) HW2.out; simp at h5; omega
          have zr : wb.heap[w.heap.size]? = some (.cells #[.int .i64 0, .slice none 0 0, .slice none 0 0, .int .i64 0] 162 (0, 0)) := heap_below (HX.out.2.2.2.2.2.keep.heap (heap_below HB.out.2.1 H3.out) (by simp; omega)) HY.out.2.2
          have zz := set4 (.int .i64 EP) (.slice (some ⟨g, 12, none⟩) (P - 12) (P - 12)) (.slice Av rs.length cv) (.int .i64 gd) zr
          have S0 : wb.cell? ⟨bc, 0, none⟩ = some (.int .i64 EP) ∧ wb.cell? ⟨bc, 1, none⟩ = some (.slice (some ⟨g, 12, none⟩) (P - 12) (P - 12)) ∧ wb.cell? ⟨bc, 2, none⟩ = some (.slice Av rs.length cv) ∧ wb.cell? ⟨bc, 3, none⟩ = some (.int .i64 gd) := ⟨box_cell HY.out.1.box 0 _ rfl, box_cell HY.out.1.box 1 _ rfl, box_cell HY.out.1.box 2 _ rfl, box_cell HY.out.1.box 3 _ rfl⟩
          have S1 : ∀ {V : World}, Keep [w.heap.size] wb V → V.cell? ⟨bc, 0, none⟩ = some (.int .i64 EP) ∧ V.cell? ⟨bc, 1, none⟩ = some (.slice (some ⟨g, 12, none⟩) (P - 12) (P - 12)) ∧ V.cell? ⟨bc, 2, none⟩ = some (.slice Av rs.length cv) ∧ V.cell? ⟨bc, 3, none⟩ = some (.int .i64 gd) := fun {V} k => ⟨k.cell S0.1 (by simp; omega), k.cell S0.2.1 (by simp; omega), k.cell S0.2.2.1 (by simp; omega), k.cell S0.2.2.2 (by simp; omega)⟩
          have HSS := Lib.hid (And.intro zz.1 (And.intro zz.2 (S1 zz.2)))
          clear S1 zz
          have t0 : wb.cell? ⟨w.heap.size, 0, none⟩ = some (.int .i64 0) := box_cell zr 0 _ rfl
          have tf0 := box_free zr 0
          have t1 : wb.cell? ⟨w.heap.size, 1, none⟩ = some (.slice none 0 0) := box_cell zr 1 _ rfl
          have tf1 := box_free zr 1
          have t2 : wb.cell? ⟨w.heap.size, 2, none⟩ = some (.slice none 0 0) := box_cell zr 2 _ rfl
          have tf2 := box_free zr 2
          have t3 : wb.cell? ⟨w.heap.size, 3, none⟩ = some (.int .i64 0) := box_cell zr 3 _ rfl
          have tf3 := box_free zr 3
          have HZR := Lib.hid zr
          clear zr
          go_wp2_with (rw [← HWb.out])
          refine wp_region_held_drew (S := (fun w' => w'.cell? ⟨bc, 0, none⟩ = some (.int .i64 EP) ∧ w'.cell? ⟨bc, 1, none⟩ = some (.slice (some ⟨g, 12, none⟩) (P - 12) (P - 12)) ∧ w'.cell? ⟨bc, 2, none⟩ = some (.slice Av rs.length cv) ∧ w'.cell? ⟨bc, 3, none⟩ = some (.int .i64 gd))) (by kernel_rfl) (by (first | exact S0 | exact HSS.out.2.2)) (fun hHeld => ?_)
          refine wpAnyH_take (i := 0) (v := ?_) (by simp only [List.getElem?_toArray, List.getElem?_cons_succ, List.getElem?_cons_zero]; rfl) (by kernel_rfl) (by kernel_rfl) (by kernel_rfl) (by exact fun _ _ _ h => h) (Or.inl ⟨by rfl, ?_⟩) (by assumption) ?_
          rotate_left
          · (intro w hSw; (try dsimp only at hSw); go_simp; try with_reducible rfl)
          try simp only [Act.put, List.setIfInBounds_toArray, List.set_cons_zero, List.set_cons_succ]
          refine wpAnyH_take (i := 1) (v := ?_) (by simp only [List.getElem?_toArray, List.getElem?_cons_succ, List.getElem?_cons_zero]; rfl) (by kernel_rfl) (by kernel_rfl) (by kernel_rfl) (by exact fun _ _ _ h => h) (Or.inl ⟨by rfl, ?_⟩) (by assumption) ?_
          rotate_left
          · (intro w hSw; (try dsimp only at hSw); go_simp; try with_reducible rfl)
          try simp only [Act.put, List.setIfInBounds_toArray, List.set_cons_zero, List.set_cons_succ]
          refine wpAnyH_take (i := 2) (v := ?_) (by simp only [List.getElem?_toArray, List.getElem?_cons_succ, List.getElem?_cons_zero]; rfl) (by kernel_rfl) (by kernel_rfl) (by kernel_rfl) (by exact fun _ _ _ h => h) (Or.inl ⟨by rfl, ?_⟩) (by assumption) ?_
          rotate_left
          · (intro w hSw; (try dsimp only at hSw); go_simp; try with_reducible rfl)
          try simp only [Act.put, List.setIfInBounds_toArray, List.set_cons_zero, List.set_cons_succ]
          refine wpAnyH_take (i := 3) (v := ?_) (by simp only [List.getElem?_toArray, List.getElem?_cons_succ, List.getElem?_cons_zero]; rfl) (by kernel_rfl) (by kernel_rfl) (by kernel_rfl) (by exact fun _ _ _ h => h) (Or.inl ⟨by rfl, ?_⟩) (by assumption) ?_
          rotate_left
          · (intro w hSw; (try dsimp only at hSw); go_simp; try with_reducible rfl)
          try simp only [Act.put, List.setIfInBounds_toArray, List.set_cons_zero, List.set_cons_succ]
          refine wpAnyH_take (i := 4) (v := ?_) (by simp only [List.getElem?_toArray, List.getElem?_cons_succ, List.getElem?_cons_zero]; rfl) (by kernel_rfl) (by kernel_rfl) (by kernel_rfl) (by exact fun _ _ _ h => h) (Or.inl ⟨by rfl, ?_⟩) (by assumption) ?_
          rotate_left
          · (intro w hSw; (try dsimp only at hSw); go_simp; try with_reducible rfl)
          try simp only [Act.put, List.setIfInBounds_toArray, List.set_cons_zero, List.set_cons_succ]
          refine wpAnyH_take (i := 5) (v := ?_) (by simp only [List.getElem?_toArray, List.getElem?_cons_succ, List.getElem?_cons_zero]; rfl) (by kernel_rfl) (by kernel_rfl) (by kernel_rfl) (by exact fun _ _ _ h => h) (Or.inl ⟨by rfl, ?_⟩) (by assumption) ?_
          rotate_left
          · (intro w hSw; (try dsimp only at hSw); go_simp; try with_reducible rfl)
          try simp only [Act.put, List.setIfInBounds_toArray, List.set_cons_zero, List.set_cons_succ]
          refine wpAnyH_take (i := 6) (v := ?_) (by simp only [List.getElem?_toArray, List.getElem?_cons_succ, List.getElem?_cons_zero]; rfl) (by kernel_rfl) (by kernel_rfl) (by kernel_rfl) (by exact fun _ _ _ h => h) (Or.inl ⟨by rfl, ?_⟩) (by assumption) ?_
          rotate_left
          · (intro w hSw; (try dsimp only at hSw); go_simp; try with_reducible rfl)
          try simp only [Act.put, List.setIfInBounds_toArray, List.set_cons_zero, List.set_cons_succ]
          refine wpAnyH_ready (rs := [7]) (by kernel_rfl) (by simp) ?_
          refine AllReadyH.cons rfl (fun K hK => ?_) AllReadyH.nil
          rw [if_pos (by rfl)]
          (go_wp2_with fail)
          refine hK.out _ _ (by (first | exact S0 | exact HSS.out.2.2)) (fun hHeld => ?_)
          clear hK K
          try simp only [Act.put, List.setIfInBounds_toArray, List.set_cons_zero, List.set_cons_succ]
          refine wpAnyH_take (i := 8) (v := ?_) (by simp only [List.getElem?_toArray, List.getElem?_cons_succ, List.getElem?_cons_zero]; rfl) (by kernel_rfl) (by kernel_rfl) (by kernel_rfl) (by exact fun _ _ _ h => h) (Or.inl ⟨by rfl, ?_⟩) (by assumption) ?_
          rotate_left
          · (intro w hSw; (try dsimp only at hSw); go_simp; try with_reducible rfl)
          try simp only [Act.put, List.setIfInBounds_toArray, List.set_cons_zero, List.set_cons_succ]
          refine wpAnyH_done (by kernel_rfl) ?_ _
          go_wp2
          obtain ⟨hra, hga⟩ := hL.out.end_ HC.out
          have hRB := HRB.out gd rs hra hga
          have hkz : Below w.heap.size w wb := bthen HBW2.out HY.out.2.2
          refine bodyPost_ret (results_c2r (P := Try.prog) rfl _ _ _ _ _ _ _ (by rfl) HSS.out.1 Try.underlying162 rfl (by kernel_rfl)) rfl ?_
          have kd := HSS.out.2.1.drew
          refine ReadP.yes (kd.below hkz hkz.size (by simp)) ?_ (fun ct hct => by rw [hRB] at hct; split at hct <;> first | exact (Option.some.inj hct).symm | cases hct) ?_ ⟨_, _, _, rfl⟩ ⟨_, _, _, rfl⟩
          · rw [hRB, HWN.out]
            split <;> simp <;> omega
          · have h0 := HB.out.2.2.1
            rw [show P = p.length from HPP.out.1] at h0
            have h1 := own_below h0 H3.out
            have h2 := HX.out.2.2.2.2.2.keep.own h1 (fun k hk hx => by
              have h4 := (h0.lt k hk).2
              have h5 := HBC.out
              simp at hx; omega)
            have h6 := HS0.out
            have h7 := HB.out.2.2.2.2.size
            have h8 := H3.out.size
            exact ct_rows kd (own_below h2 HY.out.2.2) (by omega) (by omega) HY.out.1 rfl (fun ad e => by cases e; rfl) (fun hs => by have hp12 := HPP.out.1; have h9 := hs.piece 12 (P - 12) (by omega); rw [← hp12, List.take_of_length_le (by simp; omega)] at h9; simpa using h9)
        · have hK82 : (wholeD (l.drop gd)).1 ≠ 82 := by
            rcases hc with hc | hc | hc
            · exact absurd hc HE0.out
            · exact absurd hT0 hc
            · exact hc
          have r2 : ((T2 : Int) != 0) = false := by have := HX.out.2.2.2.2.1; simp; omega
          have r3 : ((K2 : Int) != 82) = true := by
            have hk2 : K2 ≠ 82 := fun e => hK82 (UInt8.toNat_inj.1 (by have h2 := HX.out.2.1; rw [← h2, e]; rfl))
            simp; omega
          have HC := Lib.hid (Or.inr (Or.inr hK82) : (wholeD (l.drop gd)).2.2.1 = 0 ∨ (wholeD (l.drop gd)).2.2.2 ≠ 0 ∨ (wholeD (l.drop gd)).1 ≠ 82)
          clear hc hT0 hK82
          obtain ⟨Av, cv, hve, _, _⟩ := own_sl HY.out.1.row
          subst hve
          have hbw : bc ≠ w.heap.size := by have h1 := HBC.out; have h2 := (bthen HB.out.2.2.2.1 HB.out.2.2.2.2).size; have h3 := HB.out.2.2.2.1.size; have h4 := hsz; have h5 := congrArg (fun x : World => x.heap.size) HW2.out; simp at h5; omega
          have zr : wb.heap[w.heap.size]? = some (.cells #[.int .i64 0, .slice none 0 0, .slice none 0 0, .int .i64 0] 162 (0, 0)) := heap_below (HX.out.2.2.2.2.2.keep.heap (heap_below HB.out.2.1 H3.out) (by simp; omega)) HY.out.2.2
          have zz := set4 (.int .i64 EP) (.slice (some ⟨g, 12, none⟩) (P - 12) (P - 12)) (.slice Av rs.length cv) (.int .i64 gd) zr
          have S0 : wb.cell? ⟨bc, 0, none⟩ = some (.int .i64 EP) ∧ wb.cell? ⟨bc, 1, none⟩ = some (.slice (some ⟨g, 12, none⟩) (P - 12) (P - 12)) ∧ wb.cell? ⟨bc, 2, none⟩ = some (.slice Av rs.length cv) ∧ wb.cell? ⟨bc, 3, none⟩ = some (.int .i64 gd) := ⟨box_cell HY.out.1.box 0 _ rfl, box_cell HY.out.1.box 1 _ rfl, box_cell HY.out.1.box 2 _ rfl, box_cell HY.out.1.box 3 _ rfl⟩
          have S1 : ∀ {V : World}, Keep [w.heap.size] wb V → V.cell? ⟨bc, 0, none⟩ = some (.int .i64 EP) ∧ V.cell? ⟨bc, 1, none⟩ = some (.slice (some ⟨g, 12, none⟩) (P - 12) (P - 12)) ∧ V.cell? ⟨bc, 2, none⟩ = some (.slice Av rs.length cv) ∧ V.cell? ⟨bc, 3, none⟩ = some (.int .i64 gd) := fun {V} k => ⟨k.cell S0.1 (by simp; omega), k.cell S0.2.1 (by simp; omega), k.cell S0.2.2.1 (by simp; omega), k.cell S0.2.2.2 (by simp; omega)⟩
          have HSS := Lib.hid (And.intro zz.1 (And.intro zz.2 (S1 zz.2)))
          clear S1 zz
          have t0 : wb.cell? ⟨w.heap.size, 0, none⟩ = some (.int .i64 0) := box_cell zr 0 _ rfl
          have tf0 := box_free zr 0
          have t1 : wb.cell? ⟨w.heap.size, 1, none⟩ = some (.slice none 0 0) := box_cell zr 1 _ rfl
          have tf1 := box_free zr 1
          have t2 : wb.cell? ⟨w.heap.size, 2, none⟩ = some (.slice none 0 0) := box_cell zr 2 _ rfl
          have tf2 := box_free zr 2
          have t3 : wb.cell? ⟨w.heap.size, 3, none⟩ = some (.int .i64 0) := box_cell zr 3 _ rfl
          have tf3 := box_free zr 3
          have HZR := Lib.hid zr
          clear zr
          go_wp2_with (rw [← HWb.out])
          refine wp_region_held_drew (S := (fun w' => w'.cell? ⟨bc, 0, none⟩ = some (.int .i64 EP) ∧ w'.cell? ⟨bc, 1, none⟩ = some (.slice (some ⟨g, 12, none⟩) (P - 12) (P - 12)) ∧ w'.cell? ⟨bc, 2, none⟩ = some (.slice Av rs.length cv) ∧ w'.cell? ⟨bc, 3, none⟩ = some (.int .i64 gd))) (by kernel_rfl) (by (first | exact S0 | exact HSS.out.2.2)) (fun hHeld => ?_)
          refine wpAnyH_take (i := 0) (v := ?_) (by simp only [List.getElem?_toArray, List.getElem?_cons_succ, List.getElem?_cons_zero]; rfl) (by kernel_rfl) (by kernel_rfl) (by kernel_rfl) (by exact fun _ _ _ h => h) (Or.inl ⟨by rfl, ?_⟩) (by assumption) ?_
          rotate_left
          · (intro w hSw; (try dsimp only at hSw); go_simp; try with_reducible rfl)
          try simp only [Act.put, List.setIfInBounds_toArray, List.set_cons_zero, List.set_cons_succ]
          refine wpAnyH_take (i := 1) (v := ?_) (by simp only [List.getElem?_toArray, List.getElem?_cons_succ, List.getElem?_cons_zero]; rfl) (by kernel_rfl) (by kernel_rfl) (by kernel_rfl) (by exact fun _ _ _ h => h) (Or.inl ⟨by rfl, ?_⟩) (by assumption) ?_
          rotate_left
          · (intro w hSw; (try dsimp only at hSw); go_simp; try with_reducible rfl)
          try simp only [Act.put, List.setIfInBounds_toArray, List.set_cons_zero, List.set_cons_succ]
          refine wpAnyH_take (i := 2) (v := ?_) (by simp only [List.getElem?_toArray, List.getElem?_cons_succ, List.getElem?_cons_zero]; rfl) (by kernel_rfl) (by kernel_rfl) (by kernel_rfl) (by exact fun _ _ _ h => h) (Or.inl ⟨by rfl, ?_⟩) (by assumption) ?_
          rotate_left
          · (intro w hSw; (try dsimp only at hSw); go_simp; try with_reducible rfl)
          try simp only [Act.put, List.setIfInBounds_toArray, List.set_cons_zero, List.set_cons_succ]
          refine wpAnyH_take (i := 3) (v := ?_) (by simp only [List.getElem?_toArray, List.getElem?_cons_succ, List.getElem?_cons_zero]; rfl) (by kernel_rfl) (by kernel_rfl) (by kernel_rfl) (by exact fun _ _ _ h => h) (Or.inl ⟨by rfl, ?_⟩) (by assumption) ?_
          rotate_left
          · (intro w hSw; (try dsimp only at hSw); go_simp; try with_reducible rfl)
          try simp only [Act.put, List.setIfInBounds_toArray, List.set_cons_zero, List.set_cons_succ]
          refine wpAnyH_take (i := 4) (v := ?_) (by simp only [List.getElem?_toArray, List.getElem?_cons_succ, List.getElem?_cons_zero]; rfl) (by kernel_rfl) (by kernel_rfl) (by kernel_rfl) (by exact fun _ _ _ h => h) (Or.inl ⟨by rfl, ?_⟩) (by assumption) ?_
          rotate_left
          · (intro w hSw; (try dsimp only at hSw); go_simp; try with_reducible rfl)
          try simp only [Act.put, List.setIfInBounds_toArray, List.set_cons_zero, List.set_cons_succ]
          refine wpAnyH_take (i := 5) (v := ?_) (by simp only [List.getElem?_toArray, List.getElem?_cons_succ, List.getElem?_cons_zero]; rfl) (by kernel_rfl) (by kernel_rfl) (by kernel_rfl) (by exact fun _ _ _ h => h) (Or.inl ⟨by rfl, ?_⟩) (by assumption) ?_
          rotate_left
          · (intro w hSw; (try dsimp only at hSw); go_simp; try with_reducible rfl)
          try simp only [Act.put, List.setIfInBounds_toArray, List.set_cons_zero, List.set_cons_succ]
          refine wpAnyH_take (i := 6) (v := ?_) (by simp only [List.getElem?_toArray, List.getElem?_cons_succ, List.getElem?_cons_zero]; rfl) (by kernel_rfl) (by kernel_rfl) (by kernel_rfl) (by exact fun _ _ _ h => h) (Or.inl ⟨by rfl, ?_⟩) (by assumption) ?_
          rotate_left
          · (intro w hSw; (try dsimp only at hSw); go_simp; try with_reducible rfl)
          try simp only [Act.put, List.setIfInBounds_toArray, List.set_cons_zero, List.set_cons_succ]
          refine wpAnyH_ready (rs := [7]) (by kernel_rfl) (by simp) ?_
          refine AllReadyH.cons rfl (fun K hK => ?_) AllReadyH.nil
          rw [if_pos (by rfl)]
          (go_wp2_with fail)
          refine hK.out _ _ (by (first | exact S0 | exact HSS.out.2.2)) (fun hHeld => ?_)
          clear hK K
          try simp only [Act.put, List.setIfInBounds_toArray, List.set_cons_zero, List.set_cons_succ]
          refine wpAnyH_take (i := 8) (v := ?_) (by simp only [List.getElem?_toArray, List.getElem?_cons_succ, List.getElem?_cons_zero]; rfl) (by kernel_rfl) (by kernel_rfl) (by kernel_rfl) (by exact fun _ _ _ h => h) (Or.inl ⟨by rfl, ?_⟩) (by assumption) ?_
          rotate_left
          · (intro w hSw; (try dsimp only at hSw); go_simp; try with_reducible rfl)
          try simp only [Act.put, List.setIfInBounds_toArray, List.set_cons_zero, List.set_cons_succ]
          refine wpAnyH_done (by kernel_rfl) ?_ _
          go_wp2
          obtain ⟨hra, hga⟩ := hL.out.end_ HC.out
          have hRB := HRB.out gd rs hra hga
          have hkz : Below w.heap.size w wb := bthen HBW2.out HY.out.2.2
          refine bodyPost_ret (results_c2r (P := Try.prog) rfl _ _ _ _ _ _ _ (by rfl) HSS.out.1 Try.underlying162 rfl (by kernel_rfl)) rfl ?_
          have kd := HSS.out.2.1.drew
          refine ReadP.yes (kd.below hkz hkz.size (by simp)) ?_ (fun ct hct => by rw [hRB] at hct; split at hct <;> first | exact (Option.some.inj hct).symm | cases hct) ?_ ⟨_, _, _, rfl⟩ ⟨_, _, _, rfl⟩
          · rw [hRB, HWN.out]
            split <;> simp <;> omega
          · have h0 := HB.out.2.2.1
            rw [show P = p.length from HPP.out.1] at h0
            have h1 := own_below h0 H3.out
            have h2 := HX.out.2.2.2.2.2.keep.own h1 (fun k hk hx => by
              have h4 := (h0.lt k hk).2
              have h5 := HBC.out
              simp at hx; omega)
            have h6 := HS0.out
            have h7 := HB.out.2.2.2.2.size
            have h8 := H3.out.size
            exact ct_rows kd (own_below h2 HY.out.2.2) (by omega) (by omega) HY.out.1 rfl (fun ad e => by cases e; rfl) (fun hs => by have hp12 := HPP.out.1; have h9 := hs.piece 12 (P - 12) (by omega); rw [← hp12, List.take_of_length_le (by simp; omega)] at h9; simpa using h9)
end Go.Proofs.Ytpjmbhhfpoamnaa
