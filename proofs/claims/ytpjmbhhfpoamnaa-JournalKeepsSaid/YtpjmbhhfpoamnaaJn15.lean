import Derived.Test.YtpjmbhhfpoamnaaJn14
import Derived.BigRegion
set_option linter.unusedVariables false
set_option linter.unusedSimpArgs false
namespace Go.Proofs.Ytpjmbhhfpoamnaa
open Go.RowKit
set_option maxRecDepth 100000 in
set_option maxHeartbeats 6400000 in
theorem move_any (w : World) {q p : Nat} {G : List Nat} {j : JSt} {s : FSt} {N : Nat} (hj : Jo w q p j) (h : Fl w p G s) (hqG : q ∉ G) (hk : FOkN N s) (hN : N ≤ 4611686018427387900) (hb : j.bank ≤ 1) (he : j.epoch ≤ 9223372036854775807) {A Av : Option Addr} {n cp cv : Nat} {vs : List Value} {c : Ct} (hC : CtIn w (fun x => x ∉ q :: G) A Av n cp cv vs c) (hce : j.epoch = c.epoch) (hsn : c.snap.length ≤ 262132) (hre : ∀ r ∈ c.recs, r.length ≤ 262144) (htot : (mvB c).length ≤ 2097152) (hrl : c.recs.length ≤ 2097152) (gd : Nat) :
    Calls Try.prog 104 #[.pointer (some ⟨q, 0, none⟩), .agg #[.int .i64 c.epoch, .slice A n cp, .slice Av c.recs.length cv, .int .i64 gd]] w fun e w' => e = .returned (.int .i64 ((mvF j s c).2.2 : Nat)) ∧ JStep w w' q p G (mvF j s c).1 (mvF j s c).2.1 := by
  have hsl : c.snap.length = n := by simpa using hC.snap.len
  have hj2 := hj
  unfold Jo jCells fI at hj2
  have c2 : w.cell? ⟨q, 2, none⟩ = some (.int .i64 j.epoch) := box_cell hj2 2 _ rfl
  have hqw := (Array.getElem?_eq_some_iff.1 hj).1
  obtain ⟨W0, hW0⟩ : ∃ W0, W0 = w.alloc (.cells #[.int .i64 c.epoch, .slice A n cp, .slice Av c.recs.length cv, .int .i64 gd] 162) := ⟨_, rfl⟩
  have hb0 : Below w.heap.size w W0 := by rw [hW0]; exact (Below.refl _ w).alloc (Nat.le_refl _) _
  have z0 : W0.heap[w.heap.size]? = some (.cells #[.int .i64 c.epoch, .slice A n cp, .slice Av c.recs.length cv, .int .i64 gd] 162 (0, 0)) := by rw [hW0]; exact heap_alloc_new w _
  have HJ := Lib.hid (hj.below hb0); have HF := Lib.hid (h.below hb0); have HK := Lib.hid hk
  have HCI := Lib.hid (hC.below hb0)
  have HB0 := Lib.hid hb0
  have hs0 : w.heap.size < W0.heap.size := by rw [hW0]; simp
  have hpG := h.lts
  have hqne : q ≠ w.heap.size := by omega
  clear hj2
  by_cases hmx : j.epoch = 9223372036854775807
  · have HC : Hid (mvF j s c = (j, s, 3)) := Lib.hid (by rw [mvF, if_pos hmx])
    rw [hmx] at c2
    clear hj h hk hC hb0 z0 hmx hce hsl
    go_enter Try.func104, Try.ntmps104
    go_wp2
    rw [← hW0]
    go_ret
    rw [HC.out]
    exact ⟨rfl, JStep.ahead HB0.out (JStep.of_below HJ.out HF.out (Below.refl _ _))⟩
  have qe : ((j.epoch : Int) == 9223372036854775807) = false := by simp; omega
  have he2 : (j.epoch : Int) ≤ 9223372036854775806 := by omega
  have HC1 : Hid (mvF j s c =
    if (clrF s (1 - j.bank)).2 ≠ 0 then (j, (clrF s (1 - j.bank)).1, (clrF s (1 - j.bank)).2) else
    if (appF (clrF s (1 - j.bank)).1 ((1 - j.bank : Nat) : Int) (mvB c)).2 ≠ 0 then (j, (appF (clrF s (1 - j.bank)).1 ((1 - j.bank : Nat) : Int) (mvB c)).1, (appF (clrF s (1 - j.bank)).1 ((1 - j.bank : Nat) : Int) (mvB c)).2) else
    ({ j with bank := 1 - j.bank, epoch := j.epoch + 1, used := (mvB c).length }, (appF (clrF s (1 - j.bank)).1 ((1 - j.bank : Nat) : Int) (mvB c)).1, 0)) := Lib.hid (by rw [mvF, if_neg hmx])
  have HQ := Lib.hid (And.intro hqG (And.intro hb (And.intro hN (And.intro hce (And.intro hsn (And.intro hre (And.intro htot (And.intro hsl (And.intro hqw hrl)))))))))
  have S2 := JF.start HF.out HJ.out hqG
  have hj2 := HJ.out
  unfold Jo jCells fI at hj2
  have c0 : W0.cell? ⟨q, 0, none⟩ = some (.iface 23 (.pointer (some ⟨p, 0, none⟩))) := box_cell hj2 0 _ rfl
  have c1 : W0.cell? ⟨q, 1, none⟩ = some (.int .i64 j.bank) := box_cell hj2 1 _ rfl
  have hsub : (1 : Int) - (j.bank : Int) = ((1 - j.bank : Nat) : Int) := by omega
  obtain ⟨E1, hE1⟩ : ∃ E1, E1 = (clrF s (1 - j.bank)).2 := ⟨_, rfl⟩
  have HCl : Hid (∀ w3, Below W0.heap.size W0 w3 → Calls Try.prog 105 #[.iface 23 (.pointer (some ⟨p, 0, none⟩)), .int .i64 ((1 : Int) - (j.bank : Int))] w3 fun e w' => e = .returned (.int .i64 (E1 : Nat)) ∧ FStep w3 w' p G (clrF s (1 - j.bank)).1) := Lib.hid fun w3 k => by rw [hsub, hE1]; exact cleared_any w3 (HF.out.below k) (HK.out.ok (by have := HQ.out.2.2.1; omega)) (1 - j.bank) (by omega)
  have HE1 := Lib.hid hE1
  have HS2 := Lib.hid S2
  have HZ0 := Lib.hid z0
  clear hj2 S2 hE1 hsub hmx hj h hk hC hb0 z0 hce hsl hsn hre htot hqG hN hrl
  go_enter Try.func104, Try.ntmps104
  go_wp2_with fail
  rw [← hW0]
  clear hW0
  refine wp_region_held_drew (S := (fun w' => w'.cell? ⟨q, 0, none⟩ = some (.iface 23 (.pointer (some ⟨p, 0, none⟩))) ∧ w'.cell? ⟨q, 1, none⟩ = some (.int .i64 j.bank))) (by kernel_rfl) (by (first | exact S4 | exact ⟨c0, c1⟩)) (fun hHeld => ?_)
  refine wpAnyH_take (i := 0) (v := ?_) (by simp only [List.getElem?_toArray, List.getElem?_cons_succ, List.getElem?_cons_zero]; rfl) (by kernel_rfl) (by kernel_rfl) (by kernel_rfl) (by exact fun _ _ _ h => h) (Or.inl ⟨by rfl, ?_⟩) (by assumption) ?_
  rotate_left
  · (intro w hSw; (try dsimp only at hSw); go_simp; try with_reducible rfl)
  try simp only [Act.put, List.setIfInBounds_toArray, List.set_cons_zero, List.set_cons_succ]
  refine wpAnyH_take (i := 1) (v := ?_) (by simp only [List.getElem?_toArray, List.getElem?_cons_succ, List.getElem?_cons_zero]; rfl) (by kernel_rfl) (by kernel_rfl) (by kernel_rfl) (by exact fun _ _ _ h => h) (Or.inl ⟨by rfl, ?_⟩) (by assumption) ?_
  rotate_left
  · (intro w hSw; (try dsimp only at hSw); go_simp; try with_reducible rfl)
  try simp only [Act.put, List.setIfInBounds_toArray, List.set_cons_zero, List.set_cons_succ]
  refine wpAnyH_take (i := 2) (v := ?_) (by simp only [List.getElem?_toArray, List.getElem?_cons_succ, List.getElem?_cons_zero]; rfl) (by kernel_rfl) (by kernel_rfl) (by kernel_rfl) (by exact fun _ _ _ h => h) (Or.inl ⟨by rfl, ?_⟩) (by assumption) ?_
  rotate_left
  · (intro w hSw; (try dsimp only at hSw); go_simp; try with_reducible rfl)
  try simp only [Act.put, List.setIfInBounds_toArray, List.set_cons_zero, List.set_cons_succ]
  refine wpAnyH_take (i := 3) (v := ?_) (by simp only [List.getElem?_toArray, List.getElem?_cons_succ, List.getElem?_cons_zero]; rfl) (by kernel_rfl) (by kernel_rfl) (by kernel_rfl) (by exact fun _ _ _ h => h) (Or.inl ⟨by rfl, ?_⟩) (by assumption) ?_
  rotate_left
  · (intro w hSw; (try dsimp only at hSw); go_simp; try with_reducible rfl)
  try simp only [Act.put, List.setIfInBounds_toArray, List.set_cons_zero, List.set_cons_succ]
  refine wpAnyH_take (i := 4) (v := ?_) (by simp only [List.getElem?_toArray, List.getElem?_cons_succ, List.getElem?_cons_zero]; rfl) (by kernel_rfl) (by kernel_rfl) (by kernel_rfl) (by exact fun _ _ _ h => h) (Or.inl ⟨by rfl, ?_⟩) (by assumption) ?_
  rotate_left
  · (intro w hSw; (try dsimp only at hSw); go_simp; try with_reducible rfl)
  try simp only [Act.put, List.setIfInBounds_toArray, List.set_cons_zero, List.set_cons_succ]
  refine wpAnyH_take (i := 5) (v := ?_) (by simp only [List.getElem?_toArray, List.getElem?_cons_succ, List.getElem?_cons_zero]; rfl) (by kernel_rfl) (by kernel_rfl) (by kernel_rfl) (by exact fun _ _ _ h => h) (Or.inl ⟨by rfl, ?_⟩) (by assumption) ?_
  rotate_left
  · (intro w hSw; (try dsimp only at hSw); go_simp; try with_reducible rfl)
  try simp only [Act.put, List.setIfInBounds_toArray, List.set_cons_zero, List.set_cons_succ]
  refine wpAnyH_take (i := 6) (v := ?_) (by simp only [List.getElem?_toArray, List.getElem?_cons_succ, List.getElem?_cons_zero]; rfl) (by kernel_rfl) (by kernel_rfl) (by kernel_rfl) (by exact fun _ _ _ h => h) (Or.inl ⟨by rfl, ?_⟩) (by assumption) ?_
  rotate_left
  · (intro w hSw; (try dsimp only at hSw); go_simp; try with_reducible rfl)
  try simp only [Act.put, List.setIfInBounds_toArray, List.set_cons_zero, List.set_cons_succ]
  refine wpAnyH_take (i := 7) (v := ?_) (by simp only [List.getElem?_toArray, List.getElem?_cons_succ, List.getElem?_cons_zero]; rfl) (by kernel_rfl) (by kernel_rfl) (by kernel_rfl) (by exact fun _ _ _ h => h) (Or.inl ⟨by rfl, ?_⟩) (by assumption) ?_
  rotate_left
  · (intro w hSw; (try dsimp only at hSw); go_simp; try with_reducible rfl)
  try simp only [Act.put, List.setIfInBounds_toArray, List.set_cons_zero, List.set_cons_succ]
  refine wpAnyH_take (i := 8) (v := ?_) (by simp only [List.getElem?_toArray, List.getElem?_cons_succ, List.getElem?_cons_zero]; rfl) (by kernel_rfl) (by kernel_rfl) (by kernel_rfl) (by exact fun _ _ _ h => h) (Or.inl ⟨by rfl, ?_⟩) (by assumption) ?_
  rotate_left
  · (intro w hSw; (try dsimp only at hSw); go_simp; try with_reducible rfl)
  try simp only [Act.put, List.setIfInBounds_toArray, List.set_cons_zero, List.set_cons_succ]
  refine wpAnyH_ready (rs := [9]) (by kernel_rfl) (by simp) ?_
  refine AllReadyH.cons rfl (fun K hK => ?_) AllReadyH.nil
  rw [if_pos (by rfl)]
  (go_wp2_with fail; refine (HCl.out _ (by first | exact (Below.refl _ _).drew | exact below_drewN (Below.refl _ _) _)).mono ?_; rintro e w4 ⟨rfl, k4⟩; obtain ⟨G4, J4⟩ := (HS2.out.below (by first | exact (Below.refl _ _).drew | exact below_drewN (Below.refl _ _) _)).step k4; have S4 := And.intro (show w4.cell? ⟨q, 0, none⟩ = some (.iface 23 (.pointer (some ⟨p, 0, none⟩))) from box_cell J4.jo 0 _ rfl) (show w4.cell? ⟨q, 1, none⟩ = some (.int .i64 j.bank) from box_cell J4.jo 1 _ rfl); try dsimp only)
  refine hK.out _ _ (by (first | exact S4 | exact ⟨c0, c1⟩)) (fun hHeld => ?_)
  clear hK K
  try simp only [Act.put, List.setIfInBounds_toArray, List.set_cons_zero, List.set_cons_succ]
  refine wpAnyH_take (i := 10) (v := ?_) (by simp only [List.getElem?_toArray, List.getElem?_cons_succ, List.getElem?_cons_zero]; rfl) (by kernel_rfl) (by kernel_rfl) (by kernel_rfl) (by exact fun _ _ _ h => h) (Or.inl ⟨by rfl, ?_⟩) (by assumption) ?_
  rotate_left
  · (intro w hSw; (try dsimp only at hSw); go_simp; try with_reducible rfl)
  try simp only [Act.put, List.setIfInBounds_toArray, List.set_cons_zero, List.set_cons_succ]
  refine wpAnyH_done (by kernel_rfl) ?_ _
  have H4 := Lib.hid J4
  clear k4 J4 HS2 HCl c0 c1 S4
  by_cases h1 : E1 = 0
  rotate_left
  · have q2 : ((E1 : Int) != 0) = true := by simp; omega
    have HX1 := Lib.hid h1
    clear h1
    go_wp2
    go_ret
    rw [HC1.out, ← HE1.out, if_pos HX1.out]
    exact ⟨rfl, JStep.ahead HB0.out H4.out.done⟩
  have q2 : ((E1 : Int) != 0) = false := by simp [h1]
  have HX1 := Lib.hid h1
  clear h1 c2
  have hzn : w.heap.size ∉ q :: G := fun hx => by
    rcases List.mem_cons.1 hx with h | h
    · omega
    · have := hpG _ h; omega
  have z4 := H4.out.keep.heap HZ0.out hzn
  have ci4 := HCI.out.keep H4.out.keep (fun _ h => h)
  have d0 := box_cell z4 0 (.int .i64 c.epoch) rfl
  have d1 := box_cell z4 1 (.slice A n cp) rfl
  have d2 := box_cell z4 2 (.slice Av c.recs.length cv) rfl
  have hce3 := HQ.out.2.2.2.1
  have he3 : (c.epoch : Int) ≤ 9223372036854775806 := by omega
  have hn2 : n ≤ 262132 := by have := HQ.out.2.2.2.2.1; have := HQ.out.2.2.2.2.2.2.2.1; omega
  have HH := header_any w4 (c.epoch + 1) c.recs.length (by omega) (by have := HQ.out.2.2.2.2.2.2.2.2.2; omega) ci4.snap (by omega)
  rw [show ((c.epoch + 1 : Nat) : Int) = (c.epoch : Int) + 1 by omega] at HH
  have HHd := Lib.hid HH
  have HCI4 := Lib.hid (And.intro ci4 z4)
  obtain ⟨nr, hnr⟩ : ∃ nr, nr = c.recs.length := ⟨_, rfl⟩
  rw [← hnr] at HHd d2 ⊢
  have HNR := Lib.hid hnr
  have hnr2 : nr ≤ 2097152 := by have := HQ.out.2.2.2.2.2.2.2.2.2; omega
  clear HH ci4 hnr hce3 z4
  go_wp2_with fail
  refine HHd.out.mono ?_
  rintro e w5 ⟨⟨-, g, rfl, o5⟩ | ⟨h1, rfl⟩, hb5⟩
  rotate_left
  · omega
  clear HHd d0 d1 d2
  have z5 := heap_below HCI4.out.2 hb5
  have d2 := box_cell z5 2 (.slice Av c.recs.length cv) rfl
  rw [← HNR.out] at d2
  have hL0 : (mvK c 0).length = n + 22 := by
    rw [mvK_zero, frB_len, hdrP_len]; have := HQ.out.2.2.2.2.2.2.2.1; omega
  have HO5 : Hid (w5.ownsRow w4.heap.size 5 1 (.slice (some ⟨g, 0, none⟩) (n + 22) (n + 22)) (mvK c 0).length ((mvK c 0).map by8)) := Lib.hid (by rw [hL0, mvK_zero, ← HNR.out]; exact o5)
  have HB5 := Lib.hid hb5
  clear o5 z5 hL0 hb5
  go_wp2_with fail
  go_loopw [6, 46] (fun o i wr => ∃ (k : Nat) (v : Value), k ≤ nr ∧ i = .int .i64 k ∧ o = v ∧ Hid (wr.ownsRow w4.heap.size 5 1 v (mvK c k).length ((mvK c k).map by8)) ∧ Hid (Below w4.heap.size w4 wr)) (fun _ i _ => nr - (intOf i).toNat)
  case atStart => exact ⟨0, _, by omega, rfl, rfl, HO5, HB5⟩
  case round =>
    obtain ⟨k, v, hk, rfl, rfl, hO, hBr⟩ := hrel
    have ci5 := HCI4.out.1.below hBr.out
    by_cases hlt : k < nr
    · have hk0 : (0 : Int) ≤ (k : Int) := Int.natCast_nonneg _
      have hk1 : (k : Int) < (nr : Int) := by omega
      obtain ⟨r, hr⟩ : ∃ r, c.recs[k]? = some r := ⟨_, List.getElem?_eq_getElem (by have := HNR.out; omega)⟩
      obtain ⟨gi, hv1, hv2, hv3⟩ := ci5.recs k r hr
      obtain ⟨b, off, rfl⟩ := ci5.row.form (by have := HNR.out; omega)
      have hkv : k < vs.length := (List.getElem?_eq_some_iff.1 hv1).1
      have cv1 := ci5.row.cell k hkv
      rw [(List.getElem?_eq_some_iff.1 hv1).2] at cv1
      obtain ⟨m, hm⟩ : ∃ m, m = r.length := ⟨_, rfl⟩
      rw [← hm] at hv2 cv1
      have hm2 : m ≤ 262144 := by rw [hm]; exact HQ.out.2.2.2.2.2.1 r (List.mem_of_getElem? hr)
      have HE := Lib.hid (Encode_yes wr 82 hv2 hm2)
      obtain ⟨A3, c3, rfl, hA3, hA4⟩ := own_sl hO.out
      have hcc := ci5.row.max
      have hcl := ci5.row.le
      have HX := Lib.hid (And.intro hr hm)
      obtain ⟨L, hL⟩ : ∃ L, L = (mvK c k).length := ⟨_, rfl⟩
      rw [← hL] at hO ⊢
      have hLm : L + (m + 10) ≤ 2097152 := by
        have h1 := mvK_le c (k + 1) (by have := HNR.out; omega)
        have h2 := HQ.out.2.2.2.2.2.2.1
        rw [mvK_next c hr, List.length_append, frB_len] at h1
        omega
      have HLL := Lib.hid hL
      clear hv1 hv2 hv3 hkv ci5 hr hm hA3 hA4 hL
      go_wp2_with fail
      refine HE.out.mono ?_
      rintro e wf ⟨ge, rfl, oe, hbe⟩
      clear HE cv1
      have hO2 := own_below hO.out hbe
      have sE := (own_sl' oe).2.1
      have hB6 := bthen hBr.out hbe
      have hs6 := hB6.size
      go_wp2_with (first | (at_builtin; refine Stopped.out ?_))
      refine Stopped.mk (ap_own EF rfl (.tmp 55) (.tmp 56) rfl rfl hO2 rfl sE (u8_one _) (by simp only [maxLen]; omega) (by omega) hs6 ?_)
      intro v2 w7 o7 hg7 _
      have HO7 : Hid (w7.ownsRow w4.heap.size 5 1 v2 (mvK c (k + 1)).length ((mvK c (k + 1)).map by8)) := Lib.hid (by
        rw [mvK_next c HX.out.1, List.length_append, frB_len, List.map_append, ← HLL.out, ← HX.out.2]
        exact o7)
      have HB7 : Hid (Below w4.heap.size w4 w7) := Lib.hid (hB6.grown hg7 hs6 (fun b hb => (hO2.lt b hb).1))
      clear hO2 sE hB6 hs6 o7 hg7 hbe oe
      go_wp2
      first | go_roundw | refine ⟨?rel, ?measure⟩
      case rel => exact ⟨k + 1, v2, by omega, by go_num, rfl, HO7, HB7⟩
      case measure => simp [intOf]; omega
    · have hkn : k = nr := by omega
      subst hkn
      have hk1 : (k : Int) ≤ (k : Int) := Int.le_refl _
      obtain ⟨A3, c3, rfl, hA3, hA4⟩ := own_sl hO.out
      have hmv : mvK c k = mvB c := by rw [mvB, ← HNR.out]
      rw [hmv] at hA3 ⊢
      have J5 := H4.out.below hBr.out
      have hj5 := J5.jo
      unfold Jo jCells fI at hj5
      have c0 : wr.cell? ⟨q, 0, none⟩ = some (.iface 23 (.pointer (some ⟨p, 0, none⟩))) := box_cell hj5 0 _ rfl
      have c1 : wr.cell? ⟨q, 1, none⟩ = some (.int .i64 j.bank) := box_cell hj5 1 _ rfl
      have hsub : (1 : Int) - (j.bank : Int) = ((1 - j.bank : Nat) : Int) := by omega
      obtain ⟨s1, hs1⟩ : ∃ s1, s1 = (clrF s (1 - j.bank)).1 := ⟨_, rfl⟩
      rw [← hs1] at J5 HC1
      have ok1 : FOk s1 := by rw [hs1]; exact (clrF_ok HK.out (1 - j.bank)).1.ok (by have := HQ.out.2.2.1; omega)
      obtain ⟨E2, hE2⟩ : ∃ E2, E2 = (appF s1 ((1 - j.bank : Nat) : Int) (mvB c)).2 := ⟨_, rfl⟩
      obtain ⟨s2, hs2⟩ : ∃ s2, s2 = (appF s1 ((1 - j.bank : Nat) : Int) (mvB c)).1 := ⟨_, rfl⟩
      obtain ⟨L, hL⟩ : ∃ L, L = (mvB c).length := ⟨_, rfl⟩
      have hL2 : L ≤ 2097152 := by rw [hL]; exact HQ.out.2.2.2.2.2.2.1
      rw [← hL] at hA3 ⊢
      rw [← hE2, ← hs2, ← hL] at HC1
      have HA : Hid (∀ w6, Below wr.heap.size wr w6 → Calls Try.prog 23 #[.pointer (some ⟨p, 0, none⟩), .int .i64 ((1 : Int) - (j.bank : Int)), .slice A3 L c3] w6 fun e w' => e = .returned (.int .i64 (E2 : Nat)) ∧ FStep w6 w' p G4 s2) := Lib.hid fun w6 k => by
        rw [hsub, hE2, hs2]
        exact flash_Append w6 (J5.fl.below k) ok1 _ (hA3.below k) (fun ad e _ hx => by have h1 := (hA4 ad e).1; have h2 := H4.out.fl.lts _ hx; omega) (by omega)
      have HJ5 := Lib.hid J5
      have mA := mAppend p
      clear hmv hA3 hA4 J5 hj5 hsub hs1 ok1 hE2 hs2 hL hO hzn
      go_wp2_with fail
      refine wp_region_held_drew (S := (fun w' => w'.cell? ⟨q, 0, none⟩ = some (.iface 23 (.pointer (some ⟨p, 0, none⟩))) ∧ w'.cell? ⟨q, 1, none⟩ = some (.int .i64 j.bank))) (by kernel_rfl) (by (first | exact S6 | exact ⟨c0, c1⟩)) (fun hHeld => ?_)
      refine wpAnyH_take (i := 0) (v := ?_) (by simp only [List.getElem?_toArray, List.getElem?_cons_succ, List.getElem?_cons_zero]; rfl) (by kernel_rfl) (by kernel_rfl) (by kernel_rfl) (by exact fun _ _ _ h => h) (Or.inl ⟨by rfl, ?_⟩) (by assumption) ?_
      rotate_left
      · (intro w hSw; (try dsimp only at hSw); go_simp; try with_reducible rfl)
      try simp only [Act.put, List.setIfInBounds_toArray, List.set_cons_zero, List.set_cons_succ]
      refine wpAnyH_take (i := 1) (v := ?_) (by simp only [List.getElem?_toArray, List.getElem?_cons_succ, List.getElem?_cons_zero]; rfl) (by kernel_rfl) (by kernel_rfl) (by kernel_rfl) (by exact fun _ _ _ h => h) (Or.inl ⟨by rfl, ?_⟩) (by assumption) ?_
      rotate_left
      · (intro w hSw; (try dsimp only at hSw); go_simp; try with_reducible rfl)
      try simp only [Act.put, List.setIfInBounds_toArray, List.set_cons_zero, List.set_cons_succ]
      refine wpAnyH_take (i := 2) (v := ?_) (by simp only [List.getElem?_toArray, List.getElem?_cons_succ, List.getElem?_cons_zero]; rfl) (by kernel_rfl) (by kernel_rfl) (by kernel_rfl) (by exact fun _ _ _ h => h) (Or.inl ⟨by rfl, ?_⟩) (by assumption) ?_
      rotate_left
      · (intro w hSw; (try dsimp only at hSw); go_simp; try with_reducible rfl)
      try simp only [Act.put, List.setIfInBounds_toArray, List.set_cons_zero, List.set_cons_succ]
      refine wpAnyH_take (i := 3) (v := ?_) (by simp only [List.getElem?_toArray, List.getElem?_cons_succ, List.getElem?_cons_zero]; rfl) (by kernel_rfl) (by kernel_rfl) (by kernel_rfl) (by exact fun _ _ _ h => h) (Or.inl ⟨by rfl, ?_⟩) (by assumption) ?_
      rotate_left
      · (intro w hSw; (try dsimp only at hSw); go_simp; try with_reducible rfl)
      try simp only [Act.put, List.setIfInBounds_toArray, List.set_cons_zero, List.set_cons_succ]
      refine wpAnyH_take (i := 4) (v := ?_) (by simp only [List.getElem?_toArray, List.getElem?_cons_succ, List.getElem?_cons_zero]; rfl) (by kernel_rfl) (by kernel_rfl) (by kernel_rfl) (by exact fun _ _ _ h => h) (Or.inl ⟨by rfl, ?_⟩) (by assumption) ?_
      rotate_left
      · (intro w hSw; (try dsimp only at hSw); go_simp; try with_reducible rfl)
      try simp only [Act.put, List.setIfInBounds_toArray, List.set_cons_zero, List.set_cons_succ]
      refine wpAnyH_take (i := 5) (v := ?_) (by simp only [List.getElem?_toArray, List.getElem?_cons_succ, List.getElem?_cons_zero]; rfl) (by kernel_rfl) (by kernel_rfl) (by kernel_rfl) (by exact fun _ _ _ h => h) (Or.inl ⟨by rfl, ?_⟩) (by assumption) ?_
      rotate_left
      · (intro w hSw; (try dsimp only at hSw); go_simp; try with_reducible rfl)
      try simp only [Act.put, List.setIfInBounds_toArray, List.set_cons_zero, List.set_cons_succ]
      refine wpAnyH_take (i := 6) (v := ?_) (by simp only [List.getElem?_toArray, List.getElem?_cons_succ, List.getElem?_cons_zero]; rfl) (by kernel_rfl) (by kernel_rfl) (by kernel_rfl) (by exact fun _ _ _ h => h) (Or.inl ⟨by rfl, ?_⟩) (by assumption) ?_
      rotate_left
      · (intro w hSw; (try dsimp only at hSw); go_simp; try with_reducible rfl)
      try simp only [Act.put, List.setIfInBounds_toArray, List.set_cons_zero, List.set_cons_succ]
      refine wpAnyH_take (i := 7) (v := ?_) (by simp only [List.getElem?_toArray, List.getElem?_cons_succ, List.getElem?_cons_zero]; rfl) (by kernel_rfl) (by kernel_rfl) (by kernel_rfl) (by exact fun _ _ _ h => h) (Or.inl ⟨by rfl, ?_⟩) (by assumption) ?_
      rotate_left
      · (intro w hSw; (try dsimp only at hSw); go_simp; try with_reducible rfl)
      try simp only [Act.put, List.setIfInBounds_toArray, List.set_cons_zero, List.set_cons_succ]
      refine wpAnyH_take (i := 8) (v := ?_) (by simp only [List.getElem?_toArray, List.getElem?_cons_succ, List.getElem?_cons_zero]; rfl) (by kernel_rfl) (by kernel_rfl) (by kernel_rfl) (by exact fun _ _ _ h => h) (Or.inl ⟨by rfl, ?_⟩) (by assumption) ?_
      rotate_left
      · (intro w hSw; (try dsimp only at hSw); go_simp; try with_reducible rfl)
      try simp only [Act.put, List.setIfInBounds_toArray, List.set_cons_zero, List.set_cons_succ]
      refine wpAnyH_take (i := 9) (v := ?_) (by simp only [List.getElem?_toArray, List.getElem?_cons_succ, List.getElem?_cons_zero]; rfl) (by kernel_rfl) (by kernel_rfl) (by kernel_rfl) (by exact fun _ _ _ h => h) (Or.inl ⟨by rfl, ?_⟩) (by assumption) ?_
      rotate_left
      · (intro w hSw; (try dsimp only at hSw); go_simp; try with_reducible rfl)
      try simp only [Act.put, List.setIfInBounds_toArray, List.set_cons_zero, List.set_cons_succ]
      refine wpAnyH_take (i := 10) (v := ?_) (by simp only [List.getElem?_toArray, List.getElem?_cons_succ, List.getElem?_cons_zero]; rfl) (by kernel_rfl) (by kernel_rfl) (by kernel_rfl) (by exact fun _ _ _ h => h) (Or.inl ⟨by rfl, ?_⟩) (by assumption) ?_
      rotate_left
      · (intro w hSw; (try dsimp only at hSw); go_simp; try with_reducible rfl)
      try simp only [Act.put, List.setIfInBounds_toArray, List.set_cons_zero, List.set_cons_succ]
      refine wpAnyH_take (i := 11) (v := ?_) (by simp only [List.getElem?_toArray, List.getElem?_cons_succ, List.getElem?_cons_zero]; rfl) (by kernel_rfl) (by kernel_rfl) (by kernel_rfl) (by exact fun _ _ _ h => h) (Or.inl ⟨by rfl, ?_⟩) (by assumption) ?_
      rotate_left
      · (intro w hSw; (try dsimp only at hSw); go_simp; try with_reducible rfl)
      try simp only [Act.put, List.setIfInBounds_toArray, List.set_cons_zero, List.set_cons_succ]
      refine wpAnyH_ready (rs := [12]) (by kernel_rfl) (by simp) ?_
      refine AllReadyH.cons rfl (fun K hK => ?_) AllReadyH.nil
      rw [if_pos (by rfl)]
      (go_wp2_with fail; refine (HA.out _ (by first | exact (Below.refl _ _).drew | exact below_drewN (Below.refl _ _) _)).mono ?_; rintro e w6 ⟨rfl, k6⟩; obtain ⟨G6, J6⟩ := (HJ5.out.below (by first | exact (Below.refl _ _).drew | exact below_drewN (Below.refl _ _) _)).step k6; have S6 := And.intro (show w6.cell? ⟨q, 0, none⟩ = some (.iface 23 (.pointer (some ⟨p, 0, none⟩))) from box_cell J6.jo 0 _ rfl) (show w6.cell? ⟨q, 1, none⟩ = some (.int .i64 j.bank) from box_cell J6.jo 1 _ rfl); try dsimp only)
      refine hK.out _ _ (by (first | exact S6 | exact ⟨c0, c1⟩)) (fun hHeld => ?_)
      clear hK K
      try simp only [Act.put, List.setIfInBounds_toArray, List.set_cons_zero, List.set_cons_succ]
      refine wpAnyH_take (i := 13) (v := ?_) (by simp only [List.getElem?_toArray, List.getElem?_cons_succ, List.getElem?_cons_zero]; rfl) (by kernel_rfl) (by kernel_rfl) (by kernel_rfl) (by exact fun _ _ _ h => h) (Or.inl ⟨by rfl, ?_⟩) (by assumption) ?_
      rotate_left
      · (intro w hSw; (try dsimp only at hSw); go_simp; try with_reducible rfl)
      try simp only [Act.put, List.setIfInBounds_toArray, List.set_cons_zero, List.set_cons_succ]
      refine wpAnyH_done (by kernel_rfl) ?_ _
      have H7 := Lib.hid J6
      clear k6 J6 S6 HJ5 HA c0 c1 mA
      by_cases h2 : E2 = 0
      rotate_left
      · have q3 : ((E2 : Int) != 0) = true := by simp; omega
        have HX2 := Lib.hid h2
        clear h2
        go_wp2
        go_ret
        rw [HC1.out, ← HE1.out, if_neg (by rw [HX1.out]; simp), if_pos HX2.out]
        exact ⟨rfl, JStep.ahead HB0.out H7.out.done⟩
      have q3 : ((E2 : Int) != 0) = false := by simp [h2]
      have HX2 := Lib.hid h2
      have hj7 := H7.out.jo
      unfold Jo jCells fI at hj7
      have c1 : w6.cell? ⟨q, 1, none⟩ = some (.int .i64 j.bank) := box_cell hj7 1 _ rfl
      have c2 : w6.cell? ⟨q, 2, none⟩ = some (.int .i64 j.epoch) := box_cell hj7 2 _ rfl
      have c4 : w6.cell? ⟨q, 4, none⟩ = some (.int .i64 j.used) := box_cell hj7 4 _ rfl
      have f1 := box_free hj7 1
      have f2 := box_free hj7 2
      have f4 := box_free hj7 4
      obtain ⟨w8, hw8⟩ : ∃ w8, w8 = (((w6.setCell ⟨q, 1, none⟩ (.int .i64 ((1 : Int) - (j.bank : Int)))).setCell ⟨q, 2, none⟩ (.int .i64 ((j.epoch : Int) + 1))).setCell ⟨q, 4, none⟩ (.int .i64 (L : Int))) := ⟨_, rfl⟩
      have e8 : w8.heap[q]? = some (.cells #[.iface 23 (.pointer (some ⟨p, 0, none⟩)), .int .i64 ((1 : Int) - (j.bank : Int)), .int .i64 ((j.epoch : Int) + 1), .int .i64 j.count, .int .i64 (L : Int), .bool j.dead] 169 (0, 0)) := by rw [hw8]; exact heap_setCell_same _ q 4 _ _ _ (heap_setCell_same _ q 2 _ _ _ (heap_setCell_same _ q 1 _ _ _ hj7))
      have k8 : Keep [q] w6 w8 := by rw [hw8]; exact (((Keep.refl [q] w6).setCell (p := ⟨q, 1, none⟩) (.inl (by simp)) _).setCell (p := ⟨q, 2, none⟩) (.inl (by simp)) _).setCell (p := ⟨q, 4, none⟩) (.inl (by simp)) _
      have hsub : (1 : Int) - (j.bank : Int) = ((1 - j.bank : Nat) : Int) := by omega
      have J8 : Jo w8 q p { bank := 1 - j.bank, epoch := j.epoch + 1, count := j.count, used := L, dead := j.dead } := by
        unfold Jo jCells fI
        rw [e8, hsub]
        simp
      have H8 := Lib.hid (H7.out.write J8 k8)
      have HW8 := Lib.hid hw8
      clear h2 hj7 hw8 e8 k8 hsub J8
      go_wp2_with fail
      refine wp_region_held_drew (S := (fun w' => True)) (by kernel_rfl) (by trivial) (fun hHeld => ?_)
      refine wpAnyH_take (i := 0) (v := ?_) (by simp only [List.getElem?_toArray, List.getElem?_cons_succ, List.getElem?_cons_zero]; rfl) (by kernel_rfl) (by kernel_rfl) (by kernel_rfl) (by exact fun _ _ _ h => h) (Or.inl ⟨by rfl, ?_⟩) (by assumption) ?_
      rotate_left
      · (intro w hSw; (try dsimp only at hSw); go_simp; try with_reducible rfl)
      try simp only [Act.put, List.setIfInBounds_toArray, List.set_cons_zero, List.set_cons_succ]
      refine wpAnyH_take (i := 1) (v := ?_) (by simp only [List.getElem?_toArray, List.getElem?_cons_succ, List.getElem?_cons_zero]; rfl) (by kernel_rfl) (by kernel_rfl) (by kernel_rfl) (by exact fun _ _ _ h => h) (Or.inl ⟨by rfl, ?_⟩) (by assumption) ?_
      rotate_left
      · (intro w hSw; (try dsimp only at hSw); go_simp; try with_reducible rfl)
      try simp only [Act.put, List.setIfInBounds_toArray, List.set_cons_zero, List.set_cons_succ]
      refine wpAnyH_take (i := 2) (v := ?_) (by simp only [List.getElem?_toArray, List.getElem?_cons_succ, List.getElem?_cons_zero]; rfl) (by kernel_rfl) (by kernel_rfl) (by kernel_rfl) (by exact fun _ _ _ h => h) (Or.inl ⟨by rfl, ?_⟩) (by assumption) ?_
      rotate_left
      · (intro w hSw; (try dsimp only at hSw); go_simp; try with_reducible rfl)
      try simp only [Act.put, List.setIfInBounds_toArray, List.set_cons_zero, List.set_cons_succ]
      refine wpAnyH_take (i := 3) (v := ?_) (by simp only [List.getElem?_toArray, List.getElem?_cons_succ, List.getElem?_cons_zero]; rfl) (by kernel_rfl) (by kernel_rfl) (by kernel_rfl) (by exact fun _ _ _ h => h) (Or.inl ⟨by rfl, ?_⟩) (by assumption) ?_
      rotate_left
      · (intro w hSw; (try dsimp only at hSw); go_simp; try with_reducible rfl)
      try simp only [Act.put, List.setIfInBounds_toArray, List.set_cons_zero, List.set_cons_succ]
      refine wpAnyH_take (i := 4) (v := ?_) (by simp only [List.getElem?_toArray, List.getElem?_cons_succ, List.getElem?_cons_zero]; rfl) (by kernel_rfl) (by kernel_rfl) (by kernel_rfl) (by exact fun _ _ _ h => h) (Or.inl ⟨by rfl, ?_⟩) (by assumption) ?_
      rotate_left
      · (intro w hSw; (try dsimp only at hSw); go_simp; try with_reducible rfl)
      try simp only [Act.put, List.setIfInBounds_toArray, List.set_cons_zero, List.set_cons_succ]
      refine wpAnyH_take (i := 5) (v := ?_) (by simp only [List.getElem?_toArray, List.getElem?_cons_succ, List.getElem?_cons_zero]; rfl) (by kernel_rfl) (by kernel_rfl) (by kernel_rfl) (by exact fun _ _ _ h => h) (Or.inl ⟨by rfl, ?_⟩) (by assumption) ?_
      rotate_left
      · (intro w hSw; (try dsimp only at hSw); go_simp; try with_reducible rfl)
      try simp only [Act.put, List.setIfInBounds_toArray, List.set_cons_zero, List.set_cons_succ]
      refine wpAnyH_take (i := 8) (v := ?_) (by simp only [List.getElem?_toArray, List.getElem?_cons_succ, List.getElem?_cons_zero]; rfl) (by kernel_rfl) (by kernel_rfl) (by kernel_rfl) (by exact fun _ _ _ h => h) (Or.inl ⟨by rfl, ?_⟩) (by assumption) ?_
      rotate_left
      · (intro w hSw; (try dsimp only at hSw); go_simp; try with_reducible rfl)
      try simp only [Act.put, List.setIfInBounds_toArray, List.set_cons_zero, List.set_cons_succ]
      refine wpAnyH_take (i := 9) (v := ?_) (by simp only [List.getElem?_toArray, List.getElem?_cons_succ, List.getElem?_cons_zero]; rfl) (by kernel_rfl) (by kernel_rfl) (by kernel_rfl) (by exact fun _ _ _ h => h) (Or.inl ⟨by rfl, ?_⟩) (by assumption) ?_
      rotate_left
      · (intro w hSw; (try dsimp only at hSw); go_simp; try with_reducible rfl)
      try simp only [Act.put, List.setIfInBounds_toArray, List.set_cons_zero, List.set_cons_succ]
      refine wpAnyH_take (i := 10) (v := ?_) (by simp only [List.getElem?_toArray, List.getElem?_cons_succ, List.getElem?_cons_zero]; rfl) (by kernel_rfl) (by kernel_rfl) (by kernel_rfl) (by exact fun _ _ _ h => h) (Or.inl ⟨by rfl, ?_⟩) (by assumption) ?_
      rotate_left
      · (intro w hSw; (try dsimp only at hSw); go_simp; try with_reducible rfl)
      try simp only [Act.put, List.setIfInBounds_toArray, List.set_cons_zero, List.set_cons_succ]
      refine wpAnyH_take (i := 13) (v := ?_) (by simp only [List.getElem?_toArray, List.getElem?_cons_succ, List.getElem?_cons_zero]; rfl) (by kernel_rfl) (by kernel_rfl) (by kernel_rfl) (by exact fun _ _ _ h => h) (Or.inl ⟨by rfl, ?_⟩) (by assumption) ?_
      rotate_left
      · (intro w hSw; (try dsimp only at hSw); go_simp; try with_reducible rfl)
      try simp only [Act.put, List.setIfInBounds_toArray, List.set_cons_zero, List.set_cons_succ]
      refine wpAnyH_take (i := 14) (v := ?_) (by simp only [List.getElem?_toArray, List.getElem?_cons_succ, List.getElem?_cons_zero]; rfl) (by kernel_rfl) (by kernel_rfl) (by kernel_rfl) (by exact fun _ _ _ h => h) (Or.inl ⟨by rfl, ?_⟩) (by assumption) ?_
      rotate_left
      · (intro w hSw; (try dsimp only at hSw); go_simp; try with_reducible rfl)
      try simp only [Act.put, List.setIfInBounds_toArray, List.set_cons_zero, List.set_cons_succ]
      refine wpAnyH_ready (rs := [6, 11]) (by kernel_rfl) (by simp) ?_
      refine AllReadyH.cons rfl (fun K hK => ?_) (AllReadyH.cons rfl (fun K hK => ?_) AllReadyH.nil)
      · skip
        rw [if_pos (by rfl)]
        go_wp2_with fail
        refine hK.out _ _ (by trivial) (fun hHeld => ?_)
        clear hK K
        try simp only [Act.put, List.setIfInBounds_toArray, List.set_cons_zero, List.set_cons_succ]
        refine wpAnyH_take (i := 7) (v := ?_) (by simp only [List.getElem?_toArray, List.getElem?_cons_succ, List.getElem?_cons_zero]; rfl) (by kernel_rfl) (by kernel_rfl) (by kernel_rfl) (by exact fun _ _ _ h => h) (Or.inl ⟨by rfl, ?_⟩) (by assumption) ?_
        rotate_left
        · (intro w hSw; (try dsimp only at hSw); go_simp; try with_reducible rfl)
        try simp only [Act.put, List.setIfInBounds_toArray, List.set_cons_zero, List.set_cons_succ]
        refine wpAnyH_ready (rs := [11]) (by kernel_rfl) (by simp) ?_
        refine AllReadyH.cons rfl (fun K hK => ?_) AllReadyH.nil
        rw [if_pos (by rfl)]
        (go_wp2_with fail)
        refine hK.out _ _ (by trivial) (fun hHeld => ?_)
        clear hK K
        try simp only [Act.put, List.setIfInBounds_toArray, List.set_cons_zero, List.set_cons_succ]
        refine wpAnyH_take (i := 12) (v := ?_) (by simp only [List.getElem?_toArray, List.getElem?_cons_succ, List.getElem?_cons_zero]; rfl) (by kernel_rfl) (by kernel_rfl) (by kernel_rfl) (by exact fun _ _ _ h => h) (Or.inl ⟨by rfl, ?_⟩) (by assumption) ?_
        rotate_left
        · (intro w hSw; (try dsimp only at hSw); go_simp; try with_reducible rfl)
        try simp only [Act.put, List.setIfInBounds_toArray, List.set_cons_zero, List.set_cons_succ]
        refine wpAnyH_take (i := 15) (v := ?_) (by simp only [List.getElem?_toArray, List.getElem?_cons_succ, List.getElem?_cons_zero]; rfl) (by kernel_rfl) (by kernel_rfl) (by kernel_rfl) (by exact fun _ _ _ h => h) (Or.inl ⟨by rfl, ?_⟩) (by assumption) ?_
        rotate_left
        · (intro w hSw; (try dsimp only at hSw); go_simp; try with_reducible rfl)
        try simp only [Act.put, List.setIfInBounds_toArray, List.set_cons_zero, List.set_cons_succ]
        refine wpAnyH_take (i := 16) (v := ?_) (by simp only [List.getElem?_toArray, List.getElem?_cons_succ, List.getElem?_cons_zero]; rfl) (by kernel_rfl) (by kernel_rfl) (by kernel_rfl) (by exact fun _ _ _ h => h) (Or.inl ⟨by rfl, ?_⟩) (by assumption) ?_
        rotate_left
        · (intro w hSw; (try dsimp only at hSw); go_simp; try with_reducible rfl)
        try simp only [Act.put, List.setIfInBounds_toArray, List.set_cons_zero, List.set_cons_succ]
        refine wpAnyH_ready (rs := [17]) (by kernel_rfl) (by simp) ?_
        refine AllReadyH.cons rfl (fun K hK => ?_) AllReadyH.nil
        rw [if_pos (by rfl)]
        (go_wp2_with fail)
        refine hK.out _ _ (by trivial) (fun hHeld => ?_)
        clear hK K
        try simp only [Act.put, List.setIfInBounds_toArray, List.set_cons_zero, List.set_cons_succ]
        refine wpAnyH_take (i := 18) (v := ?_) (by simp only [List.getElem?_toArray, List.getElem?_cons_succ, List.getElem?_cons_zero]; rfl) (by kernel_rfl) (by kernel_rfl) (by kernel_rfl) (by exact fun _ _ _ h => h) (Or.inl ⟨by rfl, ?_⟩) (by assumption) ?_
        rotate_left
        · (intro w hSw; (try dsimp only at hSw); go_simp; try with_reducible rfl)
        try simp only [Act.put, List.setIfInBounds_toArray, List.set_cons_zero, List.set_cons_succ]
        refine wpAnyH_take (i := 19) (v := ?_) (by simp only [List.getElem?_toArray, List.getElem?_cons_succ, List.getElem?_cons_zero]; rfl) (by kernel_rfl) (by kernel_rfl) (by kernel_rfl) (by exact fun _ _ _ h => h) (Or.inl ⟨by rfl, ?_⟩) (by assumption) ?_
        rotate_left
        · (intro w hSw; (try dsimp only at hSw); go_simp; try with_reducible rfl)
        try simp only [Act.put, List.setIfInBounds_toArray, List.set_cons_zero, List.set_cons_succ]
        refine wpAnyH_ready (rs := [20]) (by kernel_rfl) (by simp) ?_
        refine AllReadyH.cons rfl (fun K hK => ?_) AllReadyH.nil
        rw [if_pos (by rfl)]
        (go_wp2_with fail)
        refine hK.out _ _ (by trivial) (fun hHeld => ?_)
        clear hK K
        try simp only [Act.put, List.setIfInBounds_toArray, List.set_cons_zero, List.set_cons_succ]
        refine wpAnyH_take (i := 21) (v := ?_) (by simp only [List.getElem?_toArray, List.getElem?_cons_succ, List.getElem?_cons_zero]; rfl) (by kernel_rfl) (by kernel_rfl) (by kernel_rfl) (by exact fun _ _ _ h => h) (Or.inl ⟨by rfl, ?_⟩) (by assumption) ?_
        rotate_left
        · (intro w hSw; (try dsimp only at hSw); go_simp; try with_reducible rfl)
        try simp only [Act.put, List.setIfInBounds_toArray, List.set_cons_zero, List.set_cons_succ]
        refine wpAnyH_take (i := 22) (v := ?_) (by simp only [List.getElem?_toArray, List.getElem?_cons_succ, List.getElem?_cons_zero]; rfl) (by kernel_rfl) (by kernel_rfl) (by kernel_rfl) (by exact fun _ _ _ h => h) (Or.inl ⟨by rfl, ?_⟩) (by assumption) ?_
        rotate_left
        · (intro w hSw; (try dsimp only at hSw); go_simp; try with_reducible rfl)
        try simp only [Act.put, List.setIfInBounds_toArray, List.set_cons_zero, List.set_cons_succ]
        refine wpAnyH_ready (rs := [23]) (by kernel_rfl) (by simp) ?_
        refine AllReadyH.cons rfl (fun K hK => ?_) AllReadyH.nil
        rw [if_pos (by rfl)]
        (go_wp2_with fail)
        refine hK.out _ _ (by trivial) (fun hHeld => ?_)
        clear hK K
        try simp only [Act.put, List.setIfInBounds_toArray, List.set_cons_zero, List.set_cons_succ]
        refine wpAnyH_done (by kernel_rfl) ?_ _
        rw [← HW8.out]
        clear c1 c2 c4 f1 f2 f4 HW8
        go_wp2
        go_ret
        rw [HC1.out, ← HE1.out, if_neg (by rw [HX1.out]; simp), if_neg (by rw [HX2.out]; simp)]
        exact ⟨rfl, JStep.ahead HB0.out (H8.out.below (by first | exact Below.refl _ _ | exact (Below.refl _ _).drew)).done⟩
      · skip
        rw [if_pos (by rfl)]
        go_wp2_with fail
        refine hK.out _ _ (by trivial) (fun hHeld => ?_)
        clear hK K
        try simp only [Act.put, List.setIfInBounds_toArray, List.set_cons_zero, List.set_cons_succ]
        refine wpAnyH_take (i := 12) (v := ?_) (by simp only [List.getElem?_toArray, List.getElem?_cons_succ, List.getElem?_cons_zero]; rfl) (by kernel_rfl) (by kernel_rfl) (by kernel_rfl) (by exact fun _ _ _ h => h) (Or.inl ⟨by rfl, ?_⟩) (by assumption) ?_
        rotate_left
        · (intro w hSw; (try dsimp only at hSw); go_simp; try with_reducible rfl)
        try simp only [Act.put, List.setIfInBounds_toArray, List.set_cons_zero, List.set_cons_succ]
        refine wpAnyH_ready (rs := [6]) (by kernel_rfl) (by simp) ?_
        refine AllReadyH.cons rfl (fun K hK => ?_) AllReadyH.nil
        rw [if_pos (by rfl)]
        (go_wp2_with fail)
        refine hK.out _ _ (by trivial) (fun hHeld => ?_)
        clear hK K
        try simp only [Act.put, List.setIfInBounds_toArray, List.set_cons_zero, List.set_cons_succ]
        refine wpAnyH_take (i := 7) (v := ?_) (by simp only [List.getElem?_toArray, List.getElem?_cons_succ, List.getElem?_cons_zero]; rfl) (by kernel_rfl) (by kernel_rfl) (by kernel_rfl) (by exact fun _ _ _ h => h) (Or.inl ⟨by rfl, ?_⟩) (by assumption) ?_
        rotate_left
        · (intro w hSw; (try dsimp only at hSw); go_simp; try with_reducible rfl)
        try simp only [Act.put, List.setIfInBounds_toArray, List.set_cons_zero, List.set_cons_succ]
        refine wpAnyH_take (i := 15) (v := ?_) (by simp only [List.getElem?_toArray, List.getElem?_cons_succ, List.getElem?_cons_zero]; rfl) (by kernel_rfl) (by kernel_rfl) (by kernel_rfl) (by exact fun _ _ _ h => h) (Or.inl ⟨by rfl, ?_⟩) (by assumption) ?_
        rotate_left
        · (intro w hSw; (try dsimp only at hSw); go_simp; try with_reducible rfl)
        try simp only [Act.put, List.setIfInBounds_toArray, List.set_cons_zero, List.set_cons_succ]
        refine wpAnyH_take (i := 16) (v := ?_) (by simp only [List.getElem?_toArray, List.getElem?_cons_succ, List.getElem?_cons_zero]; rfl) (by kernel_rfl) (by kernel_rfl) (by kernel_rfl) (by exact fun _ _ _ h => h) (Or.inl ⟨by rfl, ?_⟩) (by assumption) ?_
        rotate_left
        · (intro w hSw; (try dsimp only at hSw); go_simp; try with_reducible rfl)
        try simp only [Act.put, List.setIfInBounds_toArray, List.set_cons_zero, List.set_cons_succ]
        refine wpAnyH_ready (rs := [17]) (by kernel_rfl) (by simp) ?_
        refine AllReadyH.cons rfl (fun K hK => ?_) AllReadyH.nil
        rw [if_pos (by rfl)]
        (go_wp2_with fail)
        refine hK.out _ _ (by trivial) (fun hHeld => ?_)
        clear hK K
        try simp only [Act.put, List.setIfInBounds_toArray, List.set_cons_zero, List.set_cons_succ]
        refine wpAnyH_take (i := 18) (v := ?_) (by simp only [List.getElem?_toArray, List.getElem?_cons_succ, List.getElem?_cons_zero]; rfl) (by kernel_rfl) (by kernel_rfl) (by kernel_rfl) (by exact fun _ _ _ h => h) (Or.inl ⟨by rfl, ?_⟩) (by assumption) ?_
        rotate_left
        · (intro w hSw; (try dsimp only at hSw); go_simp; try with_reducible rfl)
        try simp only [Act.put, List.setIfInBounds_toArray, List.set_cons_zero, List.set_cons_succ]
        refine wpAnyH_take (i := 19) (v := ?_) (by simp only [List.getElem?_toArray, List.getElem?_cons_succ, List.getElem?_cons_zero]; rfl) (by kernel_rfl) (by kernel_rfl) (by kernel_rfl) (by exact fun _ _ _ h => h) (Or.inl ⟨by rfl, ?_⟩) (by assumption) ?_
        rotate_left
        · (intro w hSw; (try dsimp only at hSw); go_simp; try with_reducible rfl)
        try simp only [Act.put, List.setIfInBounds_toArray, List.set_cons_zero, List.set_cons_succ]
        refine wpAnyH_ready (rs := [20]) (by kernel_rfl) (by simp) ?_
        refine AllReadyH.cons rfl (fun K hK => ?_) AllReadyH.nil
        rw [if_pos (by rfl)]
        (go_wp2_with fail)
        refine hK.out _ _ (by trivial) (fun hHeld => ?_)
        clear hK K
        try simp only [Act.put, List.setIfInBounds_toArray, List.set_cons_zero, List.set_cons_succ]
        refine wpAnyH_take (i := 21) (v := ?_) (by simp only [List.getElem?_toArray, List.getElem?_cons_succ, List.getElem?_cons_zero]; rfl) (by kernel_rfl) (by kernel_rfl) (by kernel_rfl) (by exact fun _ _ _ h => h) (Or.inl ⟨by rfl, ?_⟩) (by assumption) ?_
        rotate_left
        · (intro w hSw; (try dsimp only at hSw); go_simp; try with_reducible rfl)
        try simp only [Act.put, List.setIfInBounds_toArray, List.set_cons_zero, List.set_cons_succ]
        refine wpAnyH_take (i := 22) (v := ?_) (by simp only [List.getElem?_toArray, List.getElem?_cons_succ, List.getElem?_cons_zero]; rfl) (by kernel_rfl) (by kernel_rfl) (by kernel_rfl) (by exact fun _ _ _ h => h) (Or.inl ⟨by rfl, ?_⟩) (by assumption) ?_
        rotate_left
        · (intro w hSw; (try dsimp only at hSw); go_simp; try with_reducible rfl)
        try simp only [Act.put, List.setIfInBounds_toArray, List.set_cons_zero, List.set_cons_succ]
        refine wpAnyH_ready (rs := [23]) (by kernel_rfl) (by simp) ?_
        refine AllReadyH.cons rfl (fun K hK => ?_) AllReadyH.nil
        rw [if_pos (by rfl)]
        (go_wp2_with fail)
        refine hK.out _ _ (by trivial) (fun hHeld => ?_)
        clear hK K
        try simp only [Act.put, List.setIfInBounds_toArray, List.set_cons_zero, List.set_cons_succ]
        refine wpAnyH_done (by kernel_rfl) ?_ _
        rw [← HW8.out]
        clear c1 c2 c4 f1 f2 f4 HW8
        go_wp2
        go_ret
        rw [HC1.out, ← HE1.out, if_neg (by rw [HX1.out]; simp), if_neg (by rw [HX2.out]; simp)]
        exact ⟨rfl, JStep.ahead HB0.out (H8.out.below (by first | exact Below.refl _ _ | exact (Below.refl _ _).drew)).done⟩
end Go.Proofs.Ytpjmbhhfpoamnaa
