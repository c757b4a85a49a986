import Derived.Test.YtpjmbhhfpoamnaaJm4
import Derived.Laws.Rows
set_option linter.unusedVariables false
set_option linter.unusedSimpArgs false
namespace Go.Proofs.Ytpjmbhhfpoamnaa
open Go.RowKit
theorem results_k3 {P : Program} {fn : Func} {p u v : Tmp} {ty : TypeId} (h : fn.results = #[.cell p ty, .tmp u, .tmp v]) (tmps : Array Value) (w : World) (g : Nat) (t : TypeId) (cs : Array Value) (fr : Nat × Nat) (d : TypeDesc)
    (hp : tmps.getD p undef = .pointer (some ⟨g, 0, none⟩)) (hg : w.heap[g]? = some (.cells cs t fr))
    (hu : P.underlying ty = some d) (hd : (match d with | .struct _ | .array _ _ => true | _ => false) = true) (hi : (P.info? ty).map (·.size) = some cs.size) :
    (results fn tmps).run P w = .ok (.tuple #[.agg cs, tmps.getD u undef, tmps.getD v undef]) w := by
  have hp' : tmps[p]?.getD undef = .pointer (some ⟨g, 0, none⟩) := by simpa using hp
  simp [results, h, hp', asAddr, run_loadVar_row w g t ty cs fr d hg hu hd hi]
/-- the frame at a place -/
def wholeF (l : List UInt8) (at_ : Int) : UInt8 × List UInt8 × Int × Nat :=
  if at_ < 0 ∨ (l.length : Int) < at_ then (0, [], at_, 1) else
  ((wholeD (l.drop at_.toNat)).1, (wholeD (l.drop at_.toNat)).2.1, at_ + ((wholeD (l.drop at_.toNat)).2.2.1 : Nat), (wholeD (l.drop at_.toNat)).2.2.2)
def WholePost (w : World) (R : UInt8 × List UInt8 × Int × Nat) (e : Ending) (w' : World) : Prop :=
  ∃ P pc, e = .returned (.tuple #[.agg #[.int .u8 (R.1.toNat : Int), .slice P R.2.1.length pc], .int .i64 R.2.2.1, .int .i64 (R.2.2.2 : Nat)]) ∧ Sl w' 1 P R.2.1.length pc (R.2.1.map by8) ∧ Below w.heap.size w w'
theorem WholePost.no {w w' : World} {at_ : Int} {t : Nat} (h : Below w.heap.size w w') : WholePost w (0, [], at_, t) (.returned (.tuple #[.agg #[.int .u8 0, .slice none 0 0], .int .i64 at_, .int .i64 (t : Int)])) w' :=
  ⟨none, 0, rfl, Sl.nilS _ _, h⟩
theorem wholeF_no (l : List UInt8) (a : Nat) (t : Nat) (ha : a ≤ l.length) (h : wholeD (l.drop a) = (0, [], 0, t)) : wholeF l a = (0, [], (a : Int), t) := by
  unfold wholeF
  rw [if_neg (by omega), show ((a : Int)).toNat = a by omega, h]
  simp
set_option maxRecDepth 100000 in
set_option maxHeartbeats 1600000 in
theorem whole_any (w : World) {A : Option Addr} {n c : Nat} {l : List UInt8} (h : Sl w 1 A n c (l.map by8)) (at_ : Int) (hn : n ≤ 140737488351232) :
    Calls Try.prog 92 #[.slice A n c, .int .i64 at_] w (WholePost w (wholeF l at_)) := by
  have hl : l.length = n := by simpa using h.len
  have hc := h.le; have hcm := h.max
  have hbw : ∀ o : Obj, Below w.heap.size w (w.alloc o) := fun o => (Below.refl _ _).alloc (Nat.le_refl _) o
  by_cases h0 : at_ < 0
  · have HR : Hid (wholeF l at_ = (0, [], at_, 1)) := Lib.hid (by rw [wholeF, if_pos (.inl h0)])
    rw [HR.out]
    clear HR h hl
    go_enter Try.func92, Try.ntmps92
    go_wp2
    refine bodyPost_ret (results_k3 (P := Try.prog) rfl _ _ _ _ _ _ _ (by rfl) (heap_alloc_new _ _) Try.underlying70 rfl (by kernel_rfl)) rfl ?_
    exact WholePost.no (hbw _)
  have d0 : decide (at_ < 0) = false := decide_eq_false h0
  by_cases h1 : (n : Int) < at_
  · have HR : Hid (wholeF l at_ = (0, [], at_, 1)) := Lib.hid (by rw [wholeF, if_pos (.inr (by omega))])
    rw [HR.out]
    clear HR h hl h0
    go_enter Try.func92, Try.ntmps92
    go_wp2
    refine bodyPost_ret (results_k3 (P := Try.prog) rfl _ _ _ _ _ _ _ (by rfl) (heap_alloc_new _ _) Try.underlying70 rfl (by kernel_rfl)) rfl ?_
    exact WholePost.no (hbw _)
  obtain ⟨a, rfl⟩ : ∃ a : Nat, at_ = a := ⟨at_.toNat, by omega⟩
  have d1 : decide ((n : Int) < (a : Int)) = false := decide_eq_false h1
  have han : a ≤ n := by omega
  clear h0 h1 d0
  have hdl : (l.drop a).length = n - a := by rw [List.length_drop, hl]
  by_cases h2 : a = n
  · have HR : Hid (wholeF l a = (0, [], (a : Int), 0)) := Lib.hid (wholeF_no l a 0 (by omega) (by unfold wholeD; rw [if_pos (by omega)]))
    rw [HR.out]
    subst h2
    clear HR h hl hdl
    go_enter Try.func92, Try.ntmps92
    go_wp2
    refine bodyPost_ret (results_k3 (P := Try.prog) rfl _ _ _ _ _ _ _ (by rfl) (heap_alloc_new _ _) Try.underlying70 rfl (by kernel_rfl)) rfl ?_
    exact WholePost.no (hbw _)
  have d2 : ((a : Int) == (n : Int)) = false := by simp; omega
  have i2 : (a : Int) < (n : Int) := by omega
  have i0 : (0 : Int) ≤ (a : Int) := by omega
  obtain ⟨b, off, rfl⟩ := h.form (by omega)
  have gm := h.byte a (by omega)
  have hD0 : (l.drop a).getD 0 0 = UInt8.ofNat (bt l a) := by
    rw [List.getD_eq_getElem?_getD, List.getElem?_drop, Nat.add_zero]
    unfold bt
    rw [List.getElem?_eq_getElem (show a < l.length by omega)]
    simp
  have hbt := bt_lt l a
  obtain ⟨m, hm⟩ : ∃ m, m = bt l a := ⟨_, rfl⟩
  rw [← hm] at gm hD0 hbt
  clear hm
  have HD := Lib.hid (And.intro hdl (And.intro hl (And.intro hD0 h)))
  clear hdl hl hD0 h
  have gm' := cell_al gm (.cells #[.int .u8 0, .slice none 0 0] 70)
  by_cases h3 : m ≠ 165
  · have HR : Hid (wholeF l a = (0, [], (a : Int), 4)) := Lib.hid (wholeF_no l a 4 (by rw [HD.out.2.1]; omega) (by
      unfold wholeD
      rw [HD.out.1, if_neg (by omega), HD.out.2.2.1, if_pos (fun e => h3 (by have := congrArg UInt8.toNat e; simp at this; omega))]))
    rw [HR.out]
    have i3 : ((m : Int) != 165) = true := by simp; omega
    clear HR HD h3 h2
    go_enter Try.func92, Try.ntmps92
    go_wp2
    refine bodyPost_ret (results_k3 (P := Try.prog) rfl _ _ _ _ _ _ _ (by rfl) (heap_alloc_new _ _) Try.underlying70 rfl (by kernel_rfl)) rfl ?_
    exact WholePost.no (hbw _)
  obtain rfl : m = 165 := by omega
  have HM : Hid ((l.drop a).getD 0 0 = 0xa5) := Lib.hid (by rw [HD.out.2.2.1]; rfl)
  have hb1 := hbw (.cells #[.int .u8 0, .slice none 0 0] 70)
  have HB := Lib.hid (And.intro hb1 (HD.out.2.2.2.below hb1))
  have hge := heap_alloc_new w (.cells #[.int .u8 0, .slice none 0 0] 70)
  clear hb1 hbt gm h3 hbw
  by_cases h4 : n < a + 6
  · have HR : Hid (wholeF l a = (0, [], (a : Int), 1)) := Lib.hid (wholeF_no l a 1 (by rw [HD.out.2.1]; omega) (by
      unfold wholeD
      rw [HD.out.1, if_neg (by omega), HM.out, if_neg (by simp), if_pos (by omega)]))
    rw [HR.out]
    clear HR h2
    go_enter Try.func92, Try.ntmps92
    go_wp2_with (first | (at_builtin; refine Stopped.out ?_) | (at_make; refine Stopped.out ?_))
    refine (LoadBE32_no _ hc hcm _ (by omega) (by omega)).mono ?_
    rintro e w1 ⟨rfl, rfl⟩
    go_wp2
    refine bodyPost_ret (results_k3 (P := Try.prog) rfl _ _ _ _ _ _ _ (by rfl) hge Try.underlying70 rfl (by kernel_rfl)) rfl ?_
    exact WholePost.no HB.out.1
  have HL := LoadBE32_yes _ HB.out.2 (a + 2) (by omega)
  have hnb : be ((l.drop (a + 2)).take 4) < 4294967296 := by
    have := be_lt ((l.drop (a + 2)).take 4)
    have h5 : ((l.drop (a + 2)).take 4).length = 4 := by rw [List.length_take, List.length_drop, HD.out.2.1]; omega
    rw [h5] at this
    exact this
  have HN : Hid (be (((l.drop a).drop 2).take 4) = be ((l.drop (a + 2)).take 4)) := Lib.hid (by rw [List.drop_drop])
  obtain ⟨q, hq⟩ : ∃ q, q = be ((l.drop (a + 2)).take 4) := ⟨_, rfl⟩
  rw [← hq] at HL hnb HN
  clear hq
  have ea : ((a + 2 : Nat) : Int) = (a : Int) + 2 := by omega
  rw [ea] at HL
  have HLB := Lib.hid HL
  clear HL ea
  by_cases h5 : 262144 < q
  · have HR : Hid (wholeF l a = (0, [], (a : Int), 2)) := Lib.hid (wholeF_no l a 2 (by rw [HD.out.2.1]; omega) (by
      unfold wholeD
      rw [HD.out.1, if_neg (by omega), HM.out, if_neg (by simp), if_neg (by omega), HN.out, if_pos h5]))
    rw [HR.out]
    have i5 : (262144 : Int) < (q : Int) := by omega
    clear HR h2 h4 h5
    go_enter Try.func92, Try.ntmps92
    go_wp2_with (first | (at_builtin; refine Stopped.out ?_) | (at_make; refine Stopped.out ?_))
    refine HLB.out.mono ?_
    rintro e w1 ⟨rfl, rfl⟩
    go_wp2
    refine bodyPost_ret (results_k3 (P := Try.prog) rfl _ _ _ _ _ _ _ (by rfl) hge Try.underlying70 rfl (by kernel_rfl)) rfl ?_
    exact WholePost.no HB.out.1
  have d5 : decide ((262144 : Int) < (q : Int)) = false := decide_eq_false (by omega)
  by_cases h6 : n < a + 10 + q
  · have HR : Hid (wholeF l a = (0, [], (a : Int), 1)) := Lib.hid (wholeF_no l a 1 (by rw [HD.out.2.1]; omega) (by
      unfold wholeD
      rw [HD.out.1, if_neg (by omega), HM.out, if_neg (by simp), if_neg (by omega), HN.out, if_neg h5, if_pos (by omega)]))
    rw [HR.out]
    clear HR h2 h4
    go_enter Try.func92, Try.ntmps92
    go_wp2_with (first | (at_builtin; refine Stopped.out ?_) | (at_make; refine Stopped.out ?_))
    refine HLB.out.mono ?_
    rintro e w1 ⟨rfl, rfl⟩
    go_wp2_with (first | (at_builtin; refine Stopped.out ?_) | (at_make; refine Stopped.out ?_))
    refine (LoadLE32_no _ hc hcm _ (by omega) (by omega)).mono ?_
    rintro e w1 ⟨rfl, rfl⟩
    go_wp2
    refine bodyPost_ret (results_k3 (P := Try.prog) rfl _ _ _ _ _ _ _ (by rfl) hge Try.underlying70 rfl (by kernel_rfl)) rfl ?_
    exact WholePost.no HB.out.1
  have HLL := LoadLE32_yes _ HB.out.2 (a + 6 + q) (by omega)
  have ea : ((a + 6 + q : Nat) : Int) = (a : Int) + 6 + (q : Int) := by omega
  rw [ea] at HLL
  have HPC := HB.out.2.piece (a + 1) (5 + q) (by omega)
  have HSM := Sum_any _ HPC
  have HPP := HB.out.2.piece (a + 6) q (by omega)
  have HX : Hid (((l.drop a).drop (6 + q)).take 4 = (l.drop (a + 6 + q)).take 4 ∧ ((l.drop a).drop 1).take (5 + q) = (l.drop (a + 1)).take (5 + q) ∧ ((l.drop a).drop 6).take q = (l.drop (a + 6)).take q ∧ ((l.drop (a + 6)).take q).length = q) := Lib.hid ⟨by rw [List.drop_drop, Nat.add_assoc], by rw [List.drop_drop], by rw [List.drop_drop], by rw [List.length_take, List.length_drop, HD.out.2.1]; omega⟩
  have HSV : (crcSum ((l.drop (a + 1)).take (5 + q))).toNat < 4294967296 := (crcSum ((l.drop (a + 1)).take (5 + q))).isLt
  have HLV : le ((l.drop (a + 6 + q)).take 4) < 4294967296 := by
    have := le_lt ((l.drop (a + 6 + q)).take 4)
    have h5 : ((l.drop (a + 6 + q)).take 4).length = 4 := by rw [List.length_take, List.length_drop, HD.out.2.1]; omega
    rw [h5] at this
    exact this
  obtain ⟨s1, hs1⟩ : ∃ s, s = (crcSum ((l.drop (a + 1)).take (5 + q))).toNat := ⟨_, rfl⟩
  obtain ⟨s2, hs2⟩ : ∃ s, s = le ((l.drop (a + 6 + q)).take 4) := ⟨_, rfl⟩
  rw [← hs1] at HSM HSV
  rw [← hs2] at HLL HLV
  have HS := Lib.hid (And.intro hs1 hs2)
  have HLL' := Lib.hid HLL
  have HSM' := Lib.hid HSM
  have HPP' := Lib.hid HPP
  have ea6 : ((a : Int) + 6 + (q : Int) - ((a : Int) + 1)).toNat = 5 + q := by omega
  clear hs1 hs2 HLL HSM HPC HPP ea
  have ic1 : ¬ c = a + 1 := by omega
  have ic6 : ¬ c = a + 6 := by omega
  by_cases h7 : s2 ≠ s1
  · have HR : Hid (wholeF l a = (0, [], (a : Int), 3)) := Lib.hid (wholeF_no l a 3 (by rw [HD.out.2.1]; omega) (by
      unfold wholeD
      rw [HD.out.1, if_neg (by omega), HM.out, if_neg (by simp), if_neg (by omega), HN.out, if_neg h5, if_neg (by omega), HX.out.1, HX.out.2.1, ← HS.out.1, ← HS.out.2, if_pos h7]))
    rw [HR.out]
    have i7 : ((s2 : Int) != (s1 : Int)) = true := by simp; omega
    clear HR h2 h4
    go_enter Try.func92, Try.ntmps92
    go_wp2_with (first | (at_builtin; refine Stopped.out ?_) | (at_make; refine Stopped.out ?_))
    refine HLB.out.mono ?_
    rintro e w1 ⟨rfl, rfl⟩
    go_wp2_with (first | (at_builtin; refine Stopped.out ?_) | (at_make; refine Stopped.out ?_))
    refine HLL'.out.mono ?_
    rintro e w1 ⟨rfl, rfl⟩
    go_wp2_with (first | (at_builtin; refine Stopped.out ?_) | (at_make; refine Stopped.out ?_))
    rw [show a + 6 + q - (a + 1) = 5 + q by omega]
    refine HSM'.out.mono ?_
    rintro e w1 ⟨rfl, rfl⟩
    go_wp2
    refine bodyPost_ret (results_k3 (P := Try.prog) rfl _ _ _ _ _ _ _ (by rfl) hge Try.underlying70 rfl (by kernel_rfl)) rfl ?_
    exact WholePost.no HB.out.1
  · obtain rfl : s2 = s1 := by omega
    have hk1 := HB.out.2.byte (a + 1) (by omega)
    have hk0 := HD.out.2.2.2.byte (a + 1) (by omega)
    have HK : Hid (bt l (a + 1) < 256 ∧ (l.drop a).getD 1 0 = UInt8.ofNat (bt l (a + 1))) := Lib.hid ⟨bt_lt _ _, by
      rw [List.getD_eq_getElem?_getD, List.getElem?_drop]
      unfold bt
      rw [List.getElem?_eq_getElem (show a + 1 < l.length by rw [HD.out.2.1]; omega)]
      simp⟩
    obtain ⟨kk, hkk⟩ : ∃ k, k = bt l (a + 1) := ⟨_, rfl⟩
    rw [← hkk] at hk1 hk0 HK
    have HR : Hid (wholeF l a = (UInt8.ofNat kk, (l.drop (a + 6)).take q, (a : Int) + 10 + (q : Int), 0)) := Lib.hid (by
      unfold wholeF
      rw [if_neg (by rw [HD.out.2.1]; omega), show ((a : Int)).toNat = a by omega]
      unfold wholeD
      rw [HD.out.1, if_neg (by omega), HM.out, if_neg (by simp), if_neg (by omega), HN.out, if_neg h5, if_neg (by omega), HX.out.1, HX.out.2.1, ← HS.out.1, ← HS.out.2, if_neg (by simp), HX.out.2.2.1, HK.out.2]
      simp only [Prod.mk.injEq, true_and, and_true]
      omega)
    rw [HR.out]
    clear HR h2 h4 hkk
    have iq1 : ((a : Int) + 6 + (q : Int) - ((a : Int) + 6)).toNat = q := by omega
    have iq2 : (0 : Int) ≤ (a : Int) + 6 + (q : Int) := by omega
    have iq3 : (a : Int) + 6 + (q : Int) ≤ (c : Int) := by omega
    have iq4 : IntKind.i64.wrap ((a : Int) + 1) = (a : Int) + 1 := by rw [IntKind.wrap_i64]; omega
    have iq5 : IntKind.i64.wrap ((a : Int) + 6) = (a : Int) + 6 := by rw [IntKind.wrap_i64]; omega
    have iq6 : (0 : Int) ≤ (a : Int) + 1 := by omega
    have iq7 : (a : Int) + 1 < (n : Int) := by omega
    have iq8 : (0 : Int) ≤ (a : Int) + 6 := by omega
    have iq9 : (a : Int) + 6 ≤ (a : Int) + 6 + (q : Int) := by omega
    have iqa : ((a : Int) + 1).toNat = a + 1 := by omega
    have iqb : ((a : Int) + 6).toNat = a + 6 := by omega
    have iqc : ((a : Int) + 6 + (q : Int)).toNat - (a + 6) = q := by omega
    go_enter Try.func92, Try.ntmps92
    go_wp2_with (first | (at_builtin; refine Stopped.out ?_) | (at_make; refine Stopped.out ?_))
    refine HLB.out.mono ?_
    rintro e w1 ⟨rfl, rfl⟩
    go_wp2_with (first | (at_builtin; refine Stopped.out ?_) | (at_make; refine Stopped.out ?_))
    refine HLL'.out.mono ?_
    rintro e w1 ⟨rfl, rfl⟩
    go_wp2_with (first | (at_builtin; refine Stopped.out ?_) | (at_make; refine Stopped.out ?_))
    rw [show a + 6 + q - (a + 1) = 5 + q by omega]
    refine HSM'.out.mono ?_
    rintro e w1 ⟨rfl, rfl⟩
    go_wp2_with fail
    go_region_held3 (fun w' => w'.cell? ⟨b, off + (a + 1), none⟩ = some (.int .u8 (kk : Int))) (first | exact hk1 | exact cell_ald hk0 _ | go_keep) (fail)
    all_goals
      go_wp2
      refine bodyPost_ret (results_k3 (P := Try.prog) rfl _ _ _ _ _ _ _ (by rfl) (heap_alloc_new w _) Try.underlying70 rfl (by kernel_rfl)) rfl ?_
      have hbz : Below w.heap.size w (w.alloc (.cells #[.int .u8 (kk : Int), .slice (some ⟨b, off + (a + 6), none⟩) q (c - (a + 6))] 70)).drew := ((Below.refl _ w).alloc (Nat.le_refl _) _).drew
      refine ⟨some ⟨b, off + (a + 6), none⟩, c - (a + 6), ?_, ?_, hbz⟩
      · simp only [HX.out.2.2.2]
        have := HK.out.1
        rw [show (UInt8.ofNat kk).toNat = kk by simp; omega, show ((a : Int) + 6 + (q : Int)) + 4 = (a : Int) + 10 + (q : Int) by omega, show IntKind.i64.wrap ((a : Int) + 10 + (q : Int)) = (a : Int) + 10 + (q : Int) by rw [IntKind.wrap_i64]; omega]
        rfl
      · rw [HX.out.2.2.2]
        exact (HD.out.2.2.2.piece (a + 6) q (by omega)).below hbz
end Go.Proofs.Ytpjmbhhfpoamnaa
