import Derived.Test.YtpjmbhhfpoamnaaFrTorn
set_option linter.unusedVariables false
set_option linter.unusedSimpArgs false
namespace Go.Proofs.Ytpjmbhhfpoamnaa
open Go.RowKit
set_option maxHeartbeats 400000 in
theorem alike13 (w : World) {A B : Option Addr} {n c m d : Nat} {l r : List UInt8} (k j : Nat) (ha : Sl w 1 A n c (l.map by8)) (hb : Sl w 1 B m d (r.map by8)) :
    Calls Try.prog 53 #[.agg #[.int .u8 (k : Int), .slice A n c], .agg #[.int .u8 (j : Int), .slice B m d]] w fun e w' => e = .returned (.bool (decide (k = j ∧ l = r))) ∧ Below w.heap.size w w' := by
  have hB2 : Below w.heap.size w ((w.alloc (.cells #[.int .u8 (k : Int), .slice A n c] 70)).alloc (.cells #[.int .u8 (j : Int), .slice B m d] 70)) := ((Below.refl _ w).alloc (Nat.le_refl _) _).alloc (by simp) _
  by_cases hk : k = j
  · have i1 : ((k : Int) == (j : Int)) = true := by simp; omega
    have HS := Lib.hid (same13 _ (ha.below hB2) (hb.below hB2))
    have HB := Lib.hid hB2
    have HR : Hid (decide (k = j ∧ l = r) = decide (l = r)) := Lib.hid (by simp [hk])
    clear ha hb hB2 hk
    go_enter Try.func53, Try.ntmps53
    go_wp2_with (first | (at_builtin; refine Stopped.out ?_) | (at_make; refine Stopped.out ?_))
    refine HS.out.mono ?_
    rintro e w1 ⟨rfl, hd⟩
    have HN := Lib.hid (bthen HB.out hd.below)
    clear hd
    go_wp2
    go_ret
    exact ⟨by (rw [HR.out]) <;> rfl, HN.out⟩
  · have i1 : ((k : Int) == (j : Int)) = false := by simp; omega
    have HB := Lib.hid hB2
    have HR : Hid (decide (k = j ∧ l = r) = false) := Lib.hid (by simp [hk])
    clear ha hb hk hB2
    go_enter Try.func53, Try.ntmps53
    go_wp2_with (first | (at_builtin; refine Stopped.out ?_) | (at_make; refine Stopped.out ?_))
    go_ret
    exact ⟨by (rw [HR.out]) <;> rfl, HB.out⟩
theorem Sl.blen {w : World} {A : Option Addr} {n c : Nat} {l : List UInt8} (h : Sl w 1 A n c (l.map by8)) : l.length = n := by simpa using h.len
theorem endF_mono (ps : List (UInt8 × List UInt8)) (i : Nat) : ∀ j, i ≤ j → j ≤ ps.length → endF ps i ≤ endF ps j := by
  intro j
  induction j with
  | zero => intro h _; rw [show i = 0 by omega]; exact Nat.le_refl _
  | succ j ih =>
    intro h h2
    by_cases he : i = j + 1
    · rw [he]; exact Nat.le_refl _
    · have := ih (by omega) (by omega)
      have := endF_succ ps j (by omega)
      omega
set_option maxRecDepth 100000 in
set_option maxHeartbeats 3200000 in
theorem FrameBack_walk (W : World) {A : Option Addr} {n c : Nat} {vs : List Value} {ll : List (List UInt8)} (h : Sls W A n c vs ll) {B C : Option Addr} {n1 c1 n2 c2 : Nat} {l1 l2 : List UInt8} (h1 : Sl W 1 B n1 c1 (l1.map by8)) (h2 : Sl W 1 C n2 c2 (l2.map by8)) (hn1 : n1 ≤ 140737488351232) (hn2 : n2 ≤ 140737488351232) :
    Calls Try.prog 14 #[.slice A n c, .slice B n1 c1, .slice C n2 c2] W fun e w' => e = .returned (.bool true) ∧ Below W.heap.size W w' := by
  have m1 := h.sl.le; have m2 := h.sl.max
  have hc1 := h1.le; have hm1 := h1.max; have hc2 := h2.le; have hm2 := h2.max
  have HLn := Lib.hid (And.intro h.len (And.intro h1 h2))
  clear h1 h2
  go_enter Try.func14, Try.ntmps14
  go_wp2_with (first | (at_builtin; refine Stopped.out ?_) | (at_make; refine Stopped.out ?_))
  refine (small13 _ h).mono ?_
  rintro e w1 ⟨r, rfl, hr, hd1⟩
  cases r with
  | false =>
    go_wp2
    go_ret
    exact ⟨rfl, hd1.below⟩
  | true =>
  obtain ⟨hn, hsum⟩ := hr rfl
  have HB1 := Lib.hid hd1.below
  clear hr hd1
  by_cases g1 : 65536 < n1
  · have i1 : (65536 : Int) < (n1 : Int) := by omega
    go_wp2
    go_ret
    exact ⟨rfl, HB1.out⟩
  have i1 : decide ((65536 : Int) < (n1 : Int)) = false := decide_eq_false (by omega)
  by_cases g2 : 65536 < n2
  · have i2 : (65536 : Int) < (n2 : Int) := by omega
    go_wp2
    go_ret
    exact ⟨rfl, HB1.out⟩
  have i2 : decide ((65536 : Int) < (n2 : Int)) = false := decide_eq_false (by omega)
  go_wp2_with (first | (at_builtin; refine Stopped.out ?_) | (at_make; refine Stopped.out ?_))
  refine (joined_any _ (h.below HB1.out) hn hsum).mono ?_
  rintro e w2 ⟨vb, ve, rfl, ob, oe, hb2⟩
  obtain ⟨L, hL⟩ : ∃ L, L = endF (frsF ll) n := ⟨_, rfl⟩
  rw [← hL] at ob
  have hL2 : L ≤ 68096 := by
    have h1 := frsF_sum ll n (by rw [HLn.out.1]; omega)
    have h2 := sumL_le ll n
    omega
  obtain ⟨Ab, cb, rfl, sb, _⟩ := own_sl ob
  obtain ⟨Ae, ce, rfl, se, _⟩ := own_sl oe
  have hj : (joinF (frsF ll)).length = L := by rw [hL, ← endF_all, frsF_len, HLn.out.1]
  have hscan : scanF (joinF (frsF ll)) = (frsF ll, L, 0) := by
    have := scanF_join (frsF ll) [] (frsF_small ll hsum)
    simpa [scanF_nil, hj] using this
  have hsc := Scan_any w2 sb (by omega)
  rw [hscan] at hsc
  dsimp only at hsc
  have HSc := Lib.hid hsc
  have L2 := Lib.hid (And.intro sb (And.intro se (And.intro (bthen HB1.out hb2) (And.intro hL hj))))
  have b1 := sb.le; have b2 := sb.max
  clear ob oe hb2 hL sb se HB1 hj hscan hsc
  go_wp2_with (first | (at_builtin; refine Stopped.out ?_) | (at_make; refine Stopped.out ?_))
  refine HSc.out.mono ?_
  rintro e w3 ⟨xs, v, rfl, hxs, hF, hb3⟩
  have hlen : xs.length = n := by
    have h1 := congrArg List.length hxs
    rw [List.length_map, placedF_len, frsF_len, HLn.out.1] at h1
    omega
  obtain ⟨Av, cv, rfl, sv, _⟩ := own_sl hF.own
  have hv1 := sv.le; have hv2 := sv.max
  have HF := Lib.hid (And.intro sv (And.intro hF (And.intro hxs (And.intro hlen (And.intro (bthen L2.out.2.2.1 hb3) hb3)))))
  rw [hlen] at hv1 ⊢
  clear sv hF hxs hlen hb3 HSc
  go_wp2_with (first | (at_builtin; refine Stopped.out ?_) | (at_make; refine Stopped.out ?_))
  refine (Encode_yes _ 7 (HLn.out.2.1.below HF.out.2.2.2.2.1) (by omega)).mono ?_
  rintro e w4 ⟨g4, rfl, o4, hb4⟩
  have d4 := (own_sl' o4).2.1.cell 0 (by simp [frB])
  rw [Nat.zero_add, show ((frB 7 l1).map by8)[0]'(by simp [frB]) = .int .u8 165 from rfl] at d4
  have HF4 := Lib.hid (And.intro (bthen HF.out.2.2.2.2.1 hb4) (And.intro hb4 (bthen HF.out.2.2.2.2.2 hb4)))
  have i3 : ((n1 : Int) + 10 != (n1 : Int) + 10) = false := by simp
  clear o4 hb4
  go_wp2_with (first | (at_builtin; refine Stopped.out ?_) | (at_make; refine Stopped.out ?_))
  refine Stopped.mk (ap_own EBj rfl (.tmp 86) (.tmp 87) rfl rfl (World.ownsRow_nil w4 w4.heap.size _ _) rfl (HLn.out.2.1.below HF4.out.1) (u8_one _) (by simp only [maxLen]; omega) (by omega) (Nat.le_refl _) ?_)
  intro v5 w5 o5 hg5 _
  rw [List.nil_append, Nat.zero_add] at o5
  have hb5 := below_grown hg5
  have H5 := Lib.hid (And.intro o5 hb5)
  clear o5 hg5 hb5
  go_wp2_with (first | (at_builtin; refine Stopped.out ?_) | (at_make; refine Stopped.out ?_))
  refine Stopped.mk (ap_own EBj rfl (.tmp 89) (.tmp 90) rfl rfl H5.out.1 rfl (L2.out.1.below (bthen HF4.out.2.2 H5.out.2)) (u8_one _) (by simp only [maxLen]; omega) (by omega) H5.out.2.size ?_)
  intro v6 w6 o6 hg6 _
  have hb6 := H5.out.2.grown hg6 H5.out.2.size (fun k e => (H5.out.1.lt k e).1)
  have H6 := Lib.hid (And.intro o6 hb6)
  clear o6 hg6 hb6 H5
  go_wp2_with (first | (at_builtin; refine Stopped.out ?_) | (at_make; refine Stopped.out ?_))
  refine Stopped.mk (ap_own EBj rfl (.tmp 92) (.tmp 93) rfl rfl H6.out.1 rfl (HLn.out.2.2.below (bthen HF4.out.1 H6.out.2)) (u8_one _) (by simp only [maxLen]; omega) (by omega) H6.out.2.size ?_)
  intro v7 w7 o7 hg7 _
  have hb7 := H6.out.2.grown hg7 H6.out.2.size (fun k e => (H6.out.1.lt k e).1)
  rw [← List.map_append, ← List.map_append] at o7
  obtain ⟨A7, c7, rfl, s7, _⟩ := own_sl o7
  have H7 := Lib.hid (And.intro s7 (And.intro (bthen HF4.out.1 hb7) (And.intro (bthen HF4.out.2.2 hb7) (bthen HF4.out.2.1 hb7))))
  have h7a := s7.le; have h7b := s7.max
  clear o7 hg7 hb7 H6 s7
  go_wp2
  go_loopw [16, 17] (fun aa ii wr => ∃ i : Nat, i ≤ n ∧ ii = .int .i64 i ∧ aa = .int .i64 (endF (frsF ll) i : Nat) ∧ Below w7.heap.size w7 wr) (fun _ ii _ => n - (intOf ii).toNat)
  case atStart => exact ⟨0, Nat.zero_le _, rfl, rfl, Below.refl _ _⟩
  case round =>
    obtain ⟨i, hi, rfl, rfl, hb8⟩ := hrel
    by_cases hlt : i < n
    · obtain ⟨sv, hF, hxs, hlen, hb3W, hb3⟩ := HF.out
      obtain ⟨bv, ov, rfl⟩ := sv.form (by omega)
      obtain ⟨bp, op, rfl⟩ := h.sl.form (by omega)
      obtain ⟨be, oe, rfl⟩ := L2.out.2.1.form (by omega)
      obtain ⟨ba, bn, bc, l, hll, g0, s1, h3⟩ := h.getJ i (by omega)
      have e1 : l.length = bn := by simpa using s1.len
      have hlk : i < (endsL ll n).length := by simp [endsL]; omega
      have ce' := L2.out.2.1.cell i hlk
      rw [show (endsL ll n)[i] = .int .i64 (endF (frsF ll) (i + 1) : Nat) by simp [endsL]] at ce'
      obtain ⟨x, hx, hxk, hxp⟩ := placed_get hxs (i := i) (kk := UInt8.ofNat i) (pp := l) (frsF_get ll i hll)
      have hfl := frameL_get xs i x hx
      have hk2 : (UInt8.ofNat i).toNat = i := by rw [UInt8.toNat_ofNat']; omega
      have hm1 : i * 2 < (frameL xs).length := (List.getElem?_eq_some_iff.1 hfl.1).1
      have hm2 : i * 2 + 1 < (frameL xs).length := (List.getElem?_eq_some_iff.1 hfl.2).1
      have d0 := sv.cell (i * 2) hm1
      have d1 := sv.cell (i * 2 + 1) hm2
      rw [(List.getElem?_eq_some_iff.1 hfl.1).2, hxk, hk2] at d0
      rw [(List.getElem?_eq_some_iff.1 hfl.2).2, hxp] at d1
      have sx := (own_sl' (hF.rows x (List.mem_of_getElem? hx))).2.1
      rw [hxp] at sx
      have hb38 := bthen H7.out.2.2.2 hb8
      have hbW8 := bthen H7.out.2.1 hb8
      have hb28 := bthen H7.out.2.2.1 hb8
      have hkl : i < (frsF ll).length := by rw [frsF_len, HLn.out.1]; exact hlt
      have hgk : (frsF ll)[i] = (UInt8.ofNat i, l) := by
        have := frsF_get ll i hll
        rw [List.getElem?_eq_getElem hkl] at this
        exact Option.some.inj this
      have hE : endF (frsF ll) (i + 1) = endF (frsF ll) i + (bn + 10) := by rw [endF_succ _ _ hkl, hgk, e1]
      have hEL : endF (frsF ll) (i + 1) ≤ 100000 := by
        have h5 := frsF_sum ll (i + 1) (by rw [HLn.out.1]; omega)
        have h6 := sumL_le ll (i + 1)
        omega
      have hw := whole_at (frsF ll) (frsF_small ll hsum) l1 l2 i hkl
      rw [hgk, HLn.out.2.1.blen] at hw
      dsimp only at hw
      obtain ⟨ei, hei⟩ : ∃ ei, ei = endF (frsF ll) i := ⟨_, rfl⟩
      obtain ⟨ej, hej⟩ : ∃ ej, ej = endF (frsF ll) (i + 1) := ⟨_, rfl⟩
      rw [← hej] at ce' hE hEL
      rw [← hei] at hE hw
      have hlW : (l1 ++ joinF (frsF ll) ++ l2).length = n1 + L + n2 := by simpa using H7.out.1.len
      have hfit : n1 + ej ≤ n1 + L := by
        have h5 := L2.out.2.2.2.1
        have h6 : endF (frsF ll) (i + 1) ≤ endF (frsF ll) n := endF_mono _ _ _ (by omega) (by rw [frsF_len, HLn.out.1]; omega)
        omega
      have hwF : wholeF (l1 ++ joinF (frsF ll) ++ l2) ((n1 + ei : Nat) : Int) = (UInt8.ofNat i, l, ((n1 + ej : Nat) : Int), 0) := by
        unfold wholeF
        rw [if_neg (by omega), show (((n1 + ei : Nat) : Int)).toNat = n1 + ei by omega, hw]
        simp only [Prod.mk.injEq, true_and]
        refine ⟨?_, trivial⟩
        first | (simp; omega) | omega
      have HD : Hid (Calls Try.prog 46 #[.slice A7 (n1 + L + n2) c7, .int .i64 ((n1 : Int) + (ei : Int))] wr fun e w' => ∃ g, e = .returned (.tuple #[.agg #[.int .u8 (i : Int), .slice (some ⟨g, 0, none⟩) bn bn], .int .i64 ((n1 : Int) + (ej : Int)), .int .i64 0]) ∧ Sl w' 1 (some ⟨g, 0, none⟩) bn bn (l.map by8) ∧ Below wr.heap.size wr w') := Lib.hid (by
        have hd := Decode_any wr (H7.out.1.below hb8) ((n1 + ei : Nat) : Int) (by omega)
        rw [hwF] at hd
        refine hd.mono ?_
        rintro e w' ⟨g, e2, o2, hb2⟩
        simp only at e2 o2
        rw [hk2, e1] at e2
        rw [e1] at o2
        exact ⟨g, by rw [e2]; push_cast; rfl, (own_sl' o2).2.1, hb2⟩)
      have d1' := d1
      rw [← Nat.add_assoc] at d1'
      rw [e1] at d1' sx
      have c0 := cell_below d0 hb38
      have c1 := cell_below d1' hb38
      have c2 := cell_below ce' hb28
      have c3 := cell_below g0 hbW8
      have HX := Lib.hid (And.intro (sx.below hb38) (And.intro (s1.below hbW8) (And.intro hbW8 (And.intro hej hb8))))
      have k0 : (0 : Int) ≤ (i : Int) := Int.natCast_nonneg _
      have k1 : (i : Int) < (n : Int) := by omega
      have iw : IntKind.u8.wrap (i : Int) = (i : Int) := by rw [IntKind.wrap_u8]; omega
      have heb : ei ≤ 100000 := by omega
      rw [← hei]
      clear hwF hlW hw hE hkl hgk hb38 hbW8 hb28 sx hm1 hm2 d0 d1 d1' hk2 hfl hx hxk hxp hlk e1 s1 g0 hll hF hxs hlen hb3W hb3 sv ce' hej hei hb8
      go_wp2_with (first | (at_builtin; refine Stopped.out ?_) | (at_make; refine Stopped.out ?_))
      refine HD.out.mono ?_
      rintro e w9 ⟨g, rfl, s9, hb9⟩
      have b0 := cell_below c0 hb9
      have b1 := cell_below c1 hb9
      have b2 := cell_below c2 hb9
      have b3 := cell_below c3 hb9
      clear c0 c1 c2 c3
      go_wp2_with fail
      obtain ⟨W10, hW10⟩ : ∃ W10, W10 = w9.alloc (.cells #[.int .u8 (i : Int), .slice (some ⟨g, 0, none⟩) bn bn] 70) := ⟨_, rfl⟩
      have hB10 : Below w9.heap.size w9 W10 := by rw [hW10]; exact (Below.refl _ _).alloc (Nat.le_refl _) _
      have hx0 := heap_alloc_new w9 (.cells #[.int .u8 (i : Int), .slice (some ⟨g, 0, none⟩) bn bn] 70)
      obtain ⟨z, hz⟩ : ∃ z, z = w9.heap.size := ⟨_, rfl⟩
      rw [← hW10, ← hz] at hx0
      rw [← hW10, ← hz]
      have f0 := cell_below b0 hB10
      have f1 := cell_below b1 hB10
      have f2 := cell_below b2 hB10
      have f3 := cell_below b3 hB10
      have f4 := box_cell hx0 0 _ rfl
      have f5 := box_cell hx0 1 _ rfl
      have F1 := And.intro f0 (And.intro f1 (And.intro f2 (And.intro f3 (And.intro f4 f5))))
      have HFC : Hid (∀ w' : World, Below W10.heap.size W10 w' → _) := Lib.hid (fun w' k => And.intro (cell_below f0 k) (And.intro (cell_below f1 k) (And.intro (cell_below f2 k) (And.intro (cell_below f3 k) (And.intro (cell_below f4 k) (cell_below f5 k))))))
      have hsm := same13 W10.drew ((s9.below hB10).below ((Below.refl _ _).drew)) (((HX.out.2.1.below hb9).below hB10).below ((Below.refl _ _).drew))
      rw [decide_eq_true rfl] at hsm
      have HSm := Lib.hid hsm
      have HAl : Hid (∀ w', Below W10.heap.size W10 w' → Calls Try.prog 53 #[.agg #[.int .u8 (i : Int), .slice (some ⟨x.g, 0, none⟩) bn bn], .agg #[.int .u8 (i : Int), .slice (some ⟨g, 0, none⟩) bn bn]] w' fun e w'' => e = .returned (.bool true) ∧ Below w'.heap.size w' w'') := Lib.hid (fun w' k => by
        have := alike13 w' i i (((HX.out.1.below hb9).below hB10).below k) ((s9.below hB10).below k)
        rwa [decide_eq_true ⟨rfl, rfl⟩] at this)
      have HBB := Lib.hid (bthen HX.out.2.2.1 (bthen hb9 hB10))
      have HB7 := Lib.hid (bthen HX.out.2.2.2.2 (bthen hb9 hB10))
      have HJ := Lib.hid HX.out.2.2.2.1
      have i9 : ((n1 : Int) + (ej : Int) != (n1 : Int) + (ej : Int)) = false := by simp
      have wq : IntKind.i64.wrap ((n1 : Int) + (ej : Int)) = (n1 : Int) + (ej : Int) := by rw [IntKind.wrap_i64]; omega
      have wq2 : wrap64 ((n1 : Int) + (ej : Int)) = (n1 : Int) + (ej : Int) := by unfold wrap64; omega
      clear hsm f0 f1 f2 f3 f4 f5 hx0 hW10 hz hB10 b0 b1 b2 b3 hb9 s9 HX HD
      go_region_held3 (fun w' => w'.cell? ⟨bv, ov + i * 2, none⟩ = some (.int .u8 (i : Int)) ∧ w'.cell? ⟨bv, ov + i * 2 + 1, none⟩ = some (.slice (some ⟨x.g, 0, none⟩) bn bn) ∧ w'.cell? ⟨be, oe + i, none⟩ = some (.int .i64 (ej : Int)) ∧ w'.cell? ⟨bp, op + i, none⟩ = some (.slice ba bn bc) ∧ w'.cell? ⟨z, 0, none⟩ = some (.int .u8 (i : Int)) ∧ w'.cell? ⟨z, 1, none⟩ = some (.slice (some ⟨g, 0, none⟩) bn bn))
        (first | exact F3 | exact F2 | exact F1 | go_keep)
        (first
          | (go_at_call 53; refine (HAl.out _ hb11).mono ?_; rintro e w12 ⟨rfl, hb12⟩; have F3 := HFC.out _ (bthen hb11 hb12))
          | (go_at_call 47; refine HSm.out.mono ?_; rintro e w11 ⟨rfl, hd11⟩; have hb11 := bthen ((Below.refl _ W10).drew) hd11.below; have F2 := HFC.out _ hb11))
      have g2' := F3.2.2.1
      have HN := Lib.hid (bthen HB7.out (bthen hb11 hb12))
      clear F1 F2 F3 HFC hb11 hb12 hd11 HSm HAl HBB
      go_wp2
      first | go_roundw | refine ⟨?rel, ?measure⟩
      case rel => exact ⟨i + 1, by omega, by go_num, by rw [← HJ.out], HN.out⟩
      case measure => simp [intOf]; omega
    · have HN := Lib.hid (bthen H7.out.2.1 hb8)
      have k1 : decide ((i : Int) < (n : Int)) = false := decide_eq_false (by omega)
      clear hb8
      go_wp2
      go_ret
      exact ⟨rfl, HN.out⟩
end Go.Proofs.Ytpjmbhhfpoamnaa
