import Derived.Test.YtdooabbeolfgfaaWCut
set_option linter.unusedVariables false
set_option linter.unusedSimpArgs false
namespace Go.Proofs.Ytdooabbeolfgfaa
open Go.RowKit
/-! ### a fault stays -/
theorem Sl.lowG {w w' : World} {G : List Nat} {sz x d : Nat} {X : Option Addr} {us : List Value} (hz : 0 < sz) (s : Sl w sz X x d us) (hG : ∀ y ∈ G, w.heap.size ≤ y) : ∀ ad, X = some ad → 0 < x → ad.block ∉ G := fun ad e h0 hx => by
  have h5 := s.len
  have h6 := cell_lt ((s.at_ ad e (by rw [h5]; exact Nat.mul_pos h0 hz)).2 0 (by rw [h5]; exact Nat.mul_pos h0 hz))
  have h7 := hG _ hx
  simp at h6
  omega
/-- bytes do not lie in the writer's own cells -/
theorem Ob.off {w : World} {pw : Nat} {G : List Nat} {lw : List UInt8} {f : Nat} (o : Ob 104 w pw G lw f) {X : Option Addr} {x d : Nat} {us : List Value} (s : Sl w 1 X x d us) (hu : ∀ u ∈ us, ∃ k z, u = .int k z ∧ k ≠ .i64) : ∀ ad, X = some ad → 0 < x → ad.block ≠ pw := fun ad e h0 hx => by
  have h5 := s.len
  have hp : 0 < us.length := by omega
  obtain ⟨hn, hc⟩ := s.at_ ad e hp
  have h6 := hc 0 hp
  obtain ⟨v, hb, ho, _⟩ := o.out
  rw [hx, cell_of_row w pw _ _ _ _ hb, Nat.add_zero] at h6
  obtain ⟨k, z, hk, hk2⟩ := hu us[0] (List.getElem_mem hp)
  rw [hk] at h6
  obtain ⟨A, c, rfl, _, _⟩ := own_sl ho
  match hq : ad.off with
  | 0 => rw [hq] at h6; simp at h6
  | 1 => rw [hq] at h6; simp at h6; exact hk2 h6.1.symm
  | q + 2 => rw [hq] at h6; simp at h6
theorem Rd.off {w : World} {p : Nat} {G : List Nat} {l : List UInt8} {a f : Nat} (o : Rd w p G l a f) {X : Option Addr} {x d : Nat} {us : List Value} (s : Sl w 1 X x d us) (hu : ∀ u ∈ us, ∃ k z, u = .int k z ∧ k ≠ .i64) : ∀ ad, X = some ad → 0 < x → ad.block ≠ p := fun ad e h0 hx => by
  have h5 := s.len
  have hp : 0 < us.length := by omega
  obtain ⟨hn, hc⟩ := s.at_ ad e hp
  have h6 := hc 0 hp
  obtain ⟨v, hb, ho, _⟩ := o.out
  rw [hx, cell_of_row w p _ _ _ _ hb, Nat.add_zero] at h6
  obtain ⟨k, z, hk, hk2⟩ := hu us[0] (List.getElem_mem hp)
  rw [hk] at h6
  obtain ⟨A, c, rfl, _, _⟩ := own_sl ho
  match hq : ad.off with
  | 0 => rw [hq] at h6; simp at h6
  | 1 => rw [hq] at h6; simp at h6; exact hk2 h6.1.symm
  | 2 => rw [hq] at h6; simp at h6; exact hk2 h6.1.symm
  | q + 3 => rw [hq] at h6; simp at h6
theorem by8_ne (l : List UInt8) : ∀ u ∈ l.map by8, ∃ k z, u = .int k z ∧ k ≠ .i64 := by
  intro u hu
  obtain ⟨c, _, rfl⟩ := List.mem_map.1 hu
  exact ⟨_, _, rfl, by decide⟩
theorem by64_ne (l : List UInt64) : ∀ u ∈ l.map by64, ∃ k z, u = .int k z ∧ k ≠ .i64 := by
  intro u hu
  obtain ⟨c, _, rfl⟩ := List.mem_map.1 hu
  exact ⟨_, _, rfl, by decide⟩
/-- a writer and a reader side by side -/
structure Stk (w8 wr : World) (pw p : Nat) (G2 : List Nat) (lr : List UInt8) (a f : Nat) (lw : List UInt8) (fw : Nat) : Prop where
  out : ∃ G, Ob 104 wr pw G lw fw ∧ ∀ x ∈ G, x = pw ∨ w8.heap.size ≤ x
  rd : Rd wr p G2 lr a f
  keep : Keep [pw, p] w8 wr
  lt2 : ∀ x ∈ G2, x < w8.heap.size ∧ x ≠ pw
theorem Stk.below {w8 wr w' : World} {pw p : Nat} {G2 : List Nat} {lr : List UInt8} {a f : Nat} {lw : List UInt8} {fw : Nat} (h : Stk w8 wr pw p G2 lr a f lw fw) (k : Below wr.heap.size wr w') : Stk w8 w' pw p G2 lr a f lw fw := by
  obtain ⟨G, o, hG⟩ := h.out
  exact ⟨⟨G, o.below k, hG⟩, h.rd.below k, h.keep.trans (Keep.of_below k _), h.lt2⟩
theorem Stk.read {w8 wr w' : World} {pw p : Nat} {G2 : List Nat} {lr : List UInt8} {a f : Nat} {lw : List UInt8} {fw a' f' : Nat} (h : Stk w8 wr pw p G2 lr a f lw fw) (hr : Rd w' p G2 lr a' f') (k : Keep [p] wr w') : Stk w8 w' pw p G2 lr a' f' lw fw := by
  obtain ⟨G, o, hG⟩ := h.out
  have hp := h.lt2 p h.rd.mem
  refine ⟨⟨G, o.keep k (fun x hx hx2 => ?_), hG⟩, hr, h.keep.trans' k (fun x hx => by simp at hx; simp [hx]), h.lt2⟩
  simp at hx2
  subst hx2
  rcases hG _ hx with h1 | h1
  · exact hp.2 h1
  · omega
theorem Stk.write {w8 wr w' : World} {pw p : Nat} {G2 : List Nat} {lr : List UInt8} {a f : Nat} {lw : List UInt8} {fw : Nat} {G : List Nat} {lw' : List UInt8} {fw' : Nat} (h : Stk w8 wr pw p G2 lr a f lw fw) (hG : ∀ x ∈ G, x = pw ∨ w8.heap.size ≤ x) (st : Stepped 104 wr w' pw G lw' fw') : Stk w8 w' pw p G2 lr a f lw' fw' := by
  obtain ⟨G', o, k, hG'⟩ := st.out
  refine ⟨⟨G', o, fun x hx => ?_⟩, h.rd.keep k (fun x hx hx2 => ?_), h.keep.trans' k (fun x hx => ?_), h.lt2⟩
  · rcases hG' x hx with h1 | h1
    · exact hG x h1
    · exact .inr (Nat.le_trans h.keep.size h1)
  · have h1 := h.lt2 x hx
    rcases hG x hx2 with h2 | h2
    · exact h1.2 h2
    · omega
  · rcases hG x hx with h2 | h2
    · exact .inl (by simp [h2])
    · exact .inr h2
/-- slices that stand in w8 lie apart -/
theorem Stk.apart {w8 wr : World} {pw p : Nat} {G2 : List Nat} {lr : List UInt8} {a f : Nat} {lw : List UInt8} {fw : Nat} (h8 : Stk w8 w8 pw p G2 lr 0 0 [] 0) (h : Stk w8 wr pw p G2 lr a f lw fw) {G : List Nat} (hG : ∀ x ∈ G, x = pw ∨ w8.heap.size ≤ x) {X : Option Addr} {x d : Nat} {us : List Value} (s : Sl w8 1 X x d us) (hu : ∀ u ∈ us, ∃ k z, u = .int k z ∧ k ≠ .i64) :
    Sl wr 1 X x d us ∧ ∀ ad, X = some ad → 0 < x → ad.block ∉ G := by
  obtain ⟨G0, o, _⟩ := h8.out
  have hoff := o.off s hu
  have hp := h8.rd.off s hu
  have hlt : ∀ ad, X = some ad → 0 < x → ad.block < w8.heap.size := fun ad e h0 => by
    have h5 := s.len
    have := cell_lt ((s.at_ ad e (by omega)).2 0 (by omega))
    exact this
  refine ⟨s.keep0 h.keep (fun ad e h0 hx => ?_), fun ad e h0 hx => ?_⟩
  · simp at hx
    rcases hx with hx | hx
    · exact hoff ad e h0 hx
    · exact hp ad e h0 hx
  · rcases hG _ hx with h1 | h1
    · exact hoff ad e h0 h1
    · have := hlt ad e h0; omega
theorem putL_stuck (l b : List UInt8) {f : Nat} (hf : f ≠ 0) : putL l f b = l := by unfold putL; rw [if_neg hf]
theorem stepF_stuck {kd : Int} {b : List UInt8} {ns : List UInt64} {most : Int} {f : Nat} (hf : f ≠ 0) : stepF kd b ns most f = f := by
  unfold stepF cutF
  repeat' split
  all_goals first | rfl | contradiction
set_option maxHeartbeats 800000 in
theorem size09b (w : World) {A : Option Addr} {n c : Nat} {vs : List Value} {ss : List St9} (h : Sts w A n c vs ss) (hn : n ≤ 300) :
    Calls Try.prog 40 #[.slice A n c] w fun e w' => ∃ r : Nat, e = .returned (.int .i64 r) ∧ (100000 < r ↔ 100000 < size9 ss) ∧ r ≤ 400000000000000 ∧ Drawn w w' := by
  have hl := Lib.hid h.len
  have m1 := h.sl.le; have m2 := h.sl.max
  obtain ⟨T, hT⟩ : ∃ T, T = size9 ss := ⟨_, rfl⟩
  have HT := Lib.hid hT
  rw [← hT]
  clear hT
  go_enter Try.func40, Try.ntmps40
  go_wp2
  go_loopw [3, 4] (fun m i wr => ∃ (k q : Nat), k ≤ n ∧ i = .int .i64 k ∧ m = .int .i64 q ∧ q ≤ 100000 ∧ Hid (q = size9 (ss.take k)) ∧ Drawn w wr) (fun _ i _ => n - (intOf i).toNat)
  case atStart => exact ⟨0, 0, by omega, rfl, rfl, by omega, Lib.hid rfl, Drawn.refl _⟩
  case round =>
    obtain ⟨k, q, hk, rfl, rfl, hq, hqs, hw⟩ := hrel
    obtain ⟨t, rfl⟩ := hw.out
    by_cases hlt : k < n
    · obtain ⟨b, off, rfl⟩ := h.sl.form (by omega)
      obtain ⟨ba, bn, bc, la, ln, lc, g0, g1, g2, g3, g4, g5, s1, s2, h3, h4, h5⟩ := h.get k (by rw [hl.out]; exact hlt)
      have hk0 : (0 : Int) ≤ (k : Int) := Int.natCast_nonneg _
      have hk1 : (k : Int) < (n : Int) := by omega
      have HQ : Hid (q + bn + 10 * ln = size9 (ss.take (k + 1))) := Lib.hid (by
        have hkl : k < ss.length := by rw [hl.out]; exact hlt
        have e1 : ss[k].b.length = bn := by simpa using s1.len
        have e2 : ss[k].ns.length = ln := by simpa using s2.len
        rw [size9_take ss k (by rw [hl.out]; exact hlt), ← hqs.out, e1, e2]; omega)
      have HLe := Lib.hid (size9_take_le ss (k + 1))
      clear g0 g1 g4 g5 s1 s2
      go_wp2
      go_quiet (fail)
      by_cases hbig : 100000 < q + bn + 10 * ln
      · have HF : Hid (100000 < q + bn + 10 * ln ↔ 100000 < T) := Lib.hid ⟨fun _ => by rw [HT.out]; have := HLe.out; rw [← HQ.out] at this; omega, fun _ => hbig⟩
        go_wp2
        go_ret
        exact ⟨q + bn + 10 * ln, by simp, HF.out, (by omega), (by first | exact ⟨⟨_, rfl⟩⟩ | exact ⟨⟨_, World.drewN_drewN ..⟩⟩)⟩
      · go_wp2
        first | go_roundw | refine ⟨?rel, ?measure⟩
        case rel => exact ⟨k + 1, q + bn + 10 * ln, by omega, by go_num, by go_num, by omega, HQ, (by first | exact ⟨⟨_, rfl⟩⟩ | exact ⟨⟨_, World.drewN_drewN ..⟩⟩)⟩
        case measure => simp [intOf]; omega
    · obtain rfl : k = n := by omega
      have HE : Hid (100000 < q ↔ 100000 < T) := Lib.hid (by rw [hqs.out, HT.out, List.take_of_length_le (Nat.le_of_eq hl.out)])
      go_wp2
      go_ret
      exact ⟨q, rfl, HE.out, (by omega), hw⟩
set_option maxRecDepth 100000 in
set_option maxHeartbeats 3200000 in
theorem WireSticks_walk (W : World) {A B C : Option Addr} {n c n' c' nb cb : Nat} {vs vs' : List Value} {ss ss' : List St9} {l : List UInt8} (h : Sts W A n c vs ss) (h' : Sts W B n' c' vs' ss') (hb : Sl W 1 C nb cb (l.map by8)) (hnb : nb ≤ 140737488351232) :
    Calls Try.prog 14 #[.slice A n c, .slice B n' c', .slice C nb cb] W fun e w' => e = .returned (.bool true) ∧ Below W.heap.size W w' := by
  have hsl := h.sl.le; have hsm := h.sl.max; have hsl' := h'.sl.le; have hsm' := h'.sl.max; have hbl := hb.le; have hbm := hb.max
  have HL := Lib.hid (And.intro h.len (And.intro h.xlt (And.intro h'.len (And.intro h'.xlt hb))))
  clear hb
  by_cases hn : 300 < n
  · have i3 : (300 : Int) < n := by omega
    go_enter Try.func14, Try.ntmps14
    go_wp2
    go_ret
    exact ⟨rfl, Below.refl _ _⟩
  have hn2 : n ≤ 300 := by omega
  have i3 : decide ((300 : Int) < n) = false := decide_eq_false (by omega)
  by_cases hn' : 300 < n'
  · have i4 : (300 : Int) < n' := by omega
    go_enter Try.func14, Try.ntmps14
    go_wp2
    go_ret
    exact ⟨rfl, Below.refl _ _⟩
  have hn2' : n' ≤ 300 := by omega
  have i4 : decide ((300 : Int) < n') = false := decide_eq_false (by omega)
  clear hn hn'
  go_enter Try.func14, Try.ntmps14
  go_wp2_with (first | (at_builtin; refine Stopped.out ?_) | (at_make; refine Stopped.out ?_))
  refine (size09b _ h hn2).mono ?_
  rintro e w1 ⟨r, rfl, hr, hr2, hd⟩
  have hB1 := hd.below
  clear hd
  go_wp2_with (first | (at_builtin; refine Stopped.out ?_) | (at_make; refine Stopped.out ?_))
  refine (size09b _ (h'.below hB1) hn2').mono ?_
  rintro e w2 ⟨r', rfl, hr', hr2', hd'⟩
  have hB2 := bthen hB1 hd'.below
  clear hd' hB1
  by_cases hbig : 100000 < r + r'
  · have i5 : (100000 : Int) < (r : Int) + (r' : Int) := by omega
    clear hr hr'
    go_wp2
    go_ret
    exact ⟨rfl, hB2⟩
  have i5 : decide ((100000 : Int) < (r : Int) + (r' : Int)) = false := decide_eq_false (by omega)
  have HZ : Hid (size9 ss ≤ 100000 ∧ size9 ss' ≤ 100000 ∧ Below W.heap.size W w2) := Lib.hid ⟨by omega, by omega, hB2⟩
  clear hr hr' hbig hB2
  by_cases hnl : 100000 < nb
  · have i6 : (100000 : Int) < (nb : Int) := by omega
    go_wp2
    go_ret
    exact ⟨rfl, HZ.out.2.2⟩
  have i6 : decide ((100000 : Int) < (nb : Int)) = false := decide_eq_false (by omega)
  go_wp2_with (first | (at_builtin; refine Stopped.out ?_) | (at_make; refine Stopped.out ?_))
  refine (NewWriter_any w2).mono ?_
  rintro e w3 ⟨rfl, hob, hb3⟩
  have H3 := Lib.hid (And.intro hob (And.intro hb3 (bthen HZ.out.2.2 hb3)))
  clear hob hb3
  obtain ⟨pw, hpw⟩ : ∃ pw, pw = w2.heap.size := ⟨_, rfl⟩
  rw [← hpw] at H3 ⊢
  have HPW := Lib.hid hpw
  clear hpw
  go_wp2_with (first | (at_builtin; refine Stopped.out ?_) | (at_make; refine Stopped.out ?_))
  refine Stopped.mk (ap_own EBr rfl (.tmp 38) (.tmp 39) rfl rfl (World.ownsRow_nil w3 w3.heap.size _ _) rfl (HL.out.2.2.2.2.below H3.out.2.2) (u8_one _) (by simp only [maxLen]; omega) (by omega) (Nat.le_refl _) ?_)
  intro v4 w4 o4 hg4 _
  rw [List.nil_append, Nat.zero_add] at o4
  have hb4 := below_grown hg4
  have hbb : Below w4.heap.size w4 (w4.alloc (.cells #[.int .u8 2] 5)) := (Below.refl _ _).alloc (Nat.le_refl _) _
  have H4 := Lib.hid (And.intro (own_below o4 hbb) (bthen hb4 hbb))
  clear o4 hg4 hb4 hbb
  go_wp2_with (first | (at_builtin; refine Stopped.out ?_) | (at_make; refine Stopped.out ?_))
  refine Stopped.mk (ap_own EBr rfl (.tmp 41) (.tmp 42) rfl rfl H4.out.1 rfl (Sl.fresh w4 [.int .u8 2] 5 1 1 rfl (by decide)) (by simp [Value.oneCell']) (by simp only [maxLen]; omega) (by omega) H4.out.2.size ?_)
  intro v5 w5 o5 hg5 _
  have hb5 : Below w3.heap.size w3 w5 := H4.out.2.grown hg5 H4.out.2.size (fun k e => (H4.out.1.lt k e).1)
  obtain ⟨A5, c5, rfl, s5, _⟩ := own_sl o5
  have s5' : Sl w5 1 A5 (nb + 1) c5 ((l ++ [2]).map by8) := by rw [List.map_append]; exact s5
  have HNR := Lib.hid (NewReader_any w5 s5' (by omega))
  have H5 := Lib.hid hb5
  clear o5 hg5 hb5 s5 s5' H4
  go_wp2_with (first | (at_builtin; refine Stopped.out ?_) | (at_make; refine Stopped.out ?_))
  refine HNR.out.mono ?_
  rintro e w6 ⟨p, G, rfl, hr6, hb6, hG6⟩
  have H6 := Lib.hid (And.intro hr6 (And.intro (bthen H5.out hb6) hG6))
  have hp6 := hG6 p hr6.mem
  have h56 := H5.out.size
  clear hr6 hb6 hG6 HNR
  go_wp2_with (first | (at_builtin; refine Stopped.out ?_) | (at_make; refine Stopped.out ?_))
  refine (telling_any w6 (h.below (bthen H3.out.2.2 H6.out.2.1)) (by omega)).mono ?_
  rintro e w7 ⟨v7, rfl, hs7, hb7⟩
  obtain ⟨A7, c7, vs7, rfl, st7⟩ := hs7.sts hb7
  have hl7 : (tellF ss).length ≤ 300 := by
    have : (tellF ss).length ≤ ss.length := List.length_filter_le _ _
    have := HL.out.1
    omega
  have H7 := Lib.hid (And.intro st7 hb7)
  clear hs7 hb7 st7
  go_wp2_with (first | (at_builtin; refine Stopped.out ?_) | (at_make; refine Stopped.out ?_))
  refine (fitting_any w7 H7.out.1 (by omega)).mono ?_
  rintro e w8 ⟨v8, rfl, hs8, hb8⟩
  obtain ⟨A8, c8, vs8, rfl, st8⟩ := hs8.sts hb8
  have hb68 := bthen H7.out.2 hb8
  have hA8 : ∀ ad, A8 = some ad → w7.heap.size ≤ ad.block := by
    obtain ⟨_, o8, _⟩ := hs8.out
    exact fun ad e => ((own_sl' o8).2.2 ad e).1
  have h67 := H7.out.2.size
  have hpG := H6.out.1.lts p H6.out.1.mem
  have hpw3 := H3.out.1.lt
  have h36 := H6.out.2.1.size
  have hb38 := bthen H6.out.2.1 hb68
  have h8 : Stk w8 w8 pw p G (l ++ [2]) 0 0 [] 0 := ⟨⟨[pw], H3.out.1.below hb38, by simp⟩, H6.out.1.below hb68, Keep.refl _ _, fun x hx => ⟨Nat.lt_of_lt_of_le (H6.out.1.lts x hx) hb68.size, by have := H6.out.2.2 x hx; have := H3.out.1.lt; omega⟩⟩
  have hft := fits_made HZ.out.1 HL.out.2.1
  obtain ⟨L, hL⟩ : ∃ L, L = fitF (tellF ss) := ⟨_, rfl⟩
  have hLz : size9 L ≤ 100000 := by
    rw [hL, size9_fit]
    exact Nat.le_trans (size9_tell ss) HZ.out.1
  have hLn : L.length ≤ 300 := by rw [hL]; simpa [fitF] using hl7
  rw [← hL] at st8 hft ⊢
  have H8 := Lib.hid (And.intro h8 (And.intro st8 (And.intro hft (And.intro hLz (bthen H3.out.2.2 hb38)))))
  clear hL hb8 hb68 hb38 h8 hft hLz st8 hs8 H7
  have HCL : Hid (∀ k, k ≤ L.length → (catB (L.take k)).length ≤ 11000000) := Lib.hid (fun k hk => by
    have hs : Smalls L := ⟨fun s hs => by have h1 := size9_mem hs; have h2 := H8.out.2.2.2.1; exact ⟨by omega, by omega, (H8.out.2.2.1 s hs).x⟩, by have h2 := H8.out.2.2.2.1; omega, by omega⟩
    have := hs.len k hk
    rwa [runW_fits H8.out.2.2.1 k hk] at this)
  go_wp2
  go_loopw [11] (fun ii wr => ∃ (k : Nat), k ≤ L.length ∧ ii = .int .i64 k ∧ Stk w8 wr pw p G (l ++ [2]) 0 0 (catB (L.take k)) 0) (fun ii _ => L.length - (intOf ii).toNat)
  case atStart => exact ⟨0, Nat.zero_le _, rfl, by simpa [catB] using H8.out.1⟩
  case round =>
    obtain ⟨k, hk, rfl, hst⟩ := hrel
    by_cases hlt : k < L.length
    · obtain ⟨b8, o8, rfl⟩ := H8.out.2.1.sl.form (by omega)
      obtain ⟨ba, bn, bc, la, ln, lc, g0, g1, g2, g3, g4, g5, s1, s2, hnn, hmm⟩ := H8.out.2.1.cells k hlt
      have hb8 := hA8 _ rfl
      simp only at hb8
      have lift : ∀ {j : Nat} {v : Value}, w8.cell? ⟨b8, j, none⟩ = some v → wr.cell? ⟨b8, j, none⟩ = some v := fun hc => hst.keep.cell hc (by simp; omega)
      replace g0 := lift g0; replace g1 := lift g1; replace g2 := lift g2; replace g3 := lift g3; replace g4 := lift g4; replace g5 := lift g5
      obtain ⟨Gw, ow, hGw⟩ := hst.out
      obtain ⟨t1, u1⟩ := Stk.apart H8.out.1 hst hGw s1 (by8_ne _)
      obtain ⟨t2, u2⟩ := Stk.apart H8.out.1 hst hGw s2 (by64_ne _)
      have hft := H8.out.2.2.1 _ (List.getElem_mem hlt)
      have e1 : L[k].b.length = bn := by simpa using s1.len
      have e2 : L[k].ns.length = ln := by simpa using s2.len
      have hsz := size9_mem (List.getElem_mem hlt)
      have hsz2 := H8.out.2.2.2.1
      have hw := write9 wr ow L[k].kd L[k].x L[k].n L[k].most t1 t2 u1 u2 hft.x (by omega) (by omega) (by have := HCL.out k hk; omega)
      rw [hft.f] at hw
      have hput : putL (catB (L.take k)) 0 (stepB L[k].kd L[k].x L[k].b L[k].ns) = catB (L.take (k + 1)) := by rw [catB_take L k hlt]; rfl
      rw [hput] at hw
      have HW := Lib.hid (And.intro hw (And.intro hst hGw))
      obtain ⟨s, hs⟩ : ∃ s, s = L[k] := ⟨_, rfl⟩
      rw [← hs] at g0 g1 g4 g5 HW
      have k0 : (0 : Int) ≤ (k : Int) := Int.natCast_nonneg _
      have k1 : (k : Int) < (L.length : Int) := by omega
      obtain ⟨kd, x, bb, ns, nn, mo⟩ := s
      simp only at g0 g1 g4 g5 HW
      clear hs hput hw hsz hsz2 e1 e2 hft t1 t2 u1 u2 ow lift s1 s2 hnn hmm hst hGw
      go_wp2_with (first | (at_builtin; refine Stopped.out ?_) | (at_make; refine Stopped.out ?_))
      refine HW.out.1.mono ?_
      rintro e w9 ⟨rfl, hst9⟩
      have HN := Lib.hid (HW.out.2.1.write HW.out.2.2 hst9)
      clear hst9
      go_wp2
      first | go_roundw | refine ⟨?rel, ?measure⟩
      case rel => exact ⟨k + 1, by omega, by go_num, HN.out⟩
      case measure => simp [intOf]; omega
    · have hkL : k = L.length := by omega
      obtain ⟨lw, hlw⟩ : ∃ lw, lw = catB (L.take k) := ⟨_, rfl⟩
      have hlwl : lw.length ≤ 11000000 := by rw [hlw]; exact HCL.out k hk
      rw [← hlw] at hst
      have HK := Lib.hid hkL
      have k1 : decide ((k : Int) < (L.length : Int)) = false := decide_eq_false (by omega)
      have h3s := Sl.fresh wr [.int .u8 1, .int .u8 2, .int .u8 3] 5 3 1 rfl (by decide)
      have hb3 : Below wr.heap.size wr (wr.alloc (.cells #[.int .u8 1, .int .u8 2, .int .u8 3] 5)) := (Below.refl _ _).alloc (Nat.le_refl _) _
      obtain ⟨Gw, ow, hGw⟩ := hst.out
      have hby := Bytes_any _ (ow.below hb3) (news := [1, 2, 3]) h3s (fun ad e _ hx => by have h1 := ow.lts _ hx; have e2 := Option.some.inj e; rw [← e2] at h1; simp at h1) 2 (by omega)
      rw [show cutF 2 3 0 = 1 from rfl, putL_stuck _ _ (by decide)] at hby
      have HBy := Lib.hid (And.intro hby (And.intro (hst.below hb3) hGw))
      clear hkL hlw hst h3s hb3 ow hby hGw
      go_wp2_with (first | (at_builtin; refine Stopped.out ?_) | (at_make; refine Stopped.out ?_))
      refine HBy.out.1.mono ?_
      rintro e w9 ⟨rfl, hst9⟩
      have h9 := HBy.out.2.1.write HBy.out.2.2 hst9
      clear hst9
      have hfx := Rd_Fixed w9 h9.rd (nb : Int) (by omega)
      have HF := Lib.hid (And.intro (hfx.mono (fun e w' hq => CaughtQ.new hq)) h9)
      clear hfx h9
      go_wp2_with (first | (at_builtin; refine Stopped.out ?_) | (at_make; refine Stopped.out ?_))
      refine HF.out.1.mono ?_
      rintro e w10 ⟨v10, rfl, _, hr10, hk10⟩
      have hnbl : (l ++ [2]).length = nb + 1 := by
        have := HL.out.2.2.2.2.len
        simp at this ⊢
        omega
      have hn10 : numR (l ++ [2]) 0 (nb : Int) = .ok nb := numR_yes (by omega)
      rw [rdV_ok hn10] at hr10
      simp only [Nat.zero_add] at hr10
      have h10 := HF.out.2.read hr10 hk10
      have hlf := Rd_Left w10 h10.rd
      rw [hnbl, show nb + 1 - nb = 1 by omega] at hlf
      have H10 := Lib.hid (And.intro hlf (And.intro h10 hnbl))
      clear hr10 hk10 hn10 h10 hlf hnbl
      go_wp2_with (first | (at_builtin; refine Stopped.out ?_) | (at_make; refine Stopped.out ?_))
      refine H10.out.1.mono ?_
      rintro e w11 ⟨rfl, hd11⟩
      have h11 := H10.out.2.1.below hd11.below
      have hbo := (Rd_Bool w11 h11.rd).mono (fun e w' hq => CaughtQ.num (K := fun x => .bool (decide (x = 1))) hq)
      have hb11 : boolR (l ++ [2]) nb = .error 90 := by
        unfold boolR
        rw [if_neg]
        intro hx
        have h1 := HL.out.2.2.2.2.len
        have h2 : l.length = nb := by simpa using h1
        have h3 := hx.2
        rw [bt_append_right _ _ _ (by omega), h2, Nat.sub_self] at h3
        exact absurd h3 (by decide)
      rw [rdV_err hb11] at hbo
      have H11 := Lib.hid (And.intro hbo h11)
      clear hd11 h11 hbo hb11
      go_wp2_with (first | (at_builtin; refine Stopped.out ?_) | (at_make; refine Stopped.out ?_))
      refine H11.out.1.mono ?_
      rintro e w12 ⟨rfl, hr12, hk12⟩
      have H12 := Lib.hid (H11.out.2.read hr12 hk12)
      clear hr12 hk12
      have hWw : W.heap.size ≤ pw := by rw [HPW.out]; exact HZ.out.2.2.size
      go_wp2
      go_loopw [13] (fun ii wr => ∃ (k : Nat), k ≤ n' ∧ ii = .int .i64 k ∧ Stk w8 wr pw p G (l ++ [2]) nb 90 lw 1) (fun ii _ => n' - (intOf ii).toNat)
      case atStart => exact ⟨0, Nat.zero_le _, rfl, H12.out⟩
      case round =>
        obtain ⟨k, hk, rfl, hst⟩ := hrel
        by_cases hlt : k < n'
        · have hkl : k < ss'.length := by rw [HL.out.2.2.1]; exact hlt
          obtain ⟨b9, o9, rfl⟩ := h'.sl.form (by omega)
          obtain ⟨ba, bn, bc, la, ln, lc, g0, g1, g2, g3, g4, g5, s1, s2, hnn, hmm⟩ := h'.cells k hkl
          have hb9 := cell_lt g0
          simp only at hb9
          have lift : ∀ {j : Nat} {v : Value}, W.cell? ⟨b9, j, none⟩ = some v → wr.cell? ⟨b9, j, none⟩ = some v := fun hc => hst.keep.cell (cell_below hc H8.out.2.2.2.2) (by simp; omega)
          replace g0 := lift g0; replace g1 := lift g1; replace g2 := lift g2; replace g3 := lift g3; replace g4 := lift g4; replace g5 := lift g5
          obtain ⟨Gw, ow, hGw⟩ := hst.out
          obtain ⟨t1, u1⟩ := Stk.apart H8.out.1 hst hGw (s1.below H8.out.2.2.2.2) (by8_ne _)
          obtain ⟨t2, u2⟩ := Stk.apart H8.out.1 hst hGw (s2.below H8.out.2.2.2.2) (by64_ne _)
          have e1 : ss'[k].b.length = bn := by simpa using s1.len
          have e2 : ss'[k].ns.length = ln := by simpa using s2.len
          have hsz := size9_mem (List.getElem_mem hkl)
          have hsz2 := HZ.out.2.1
          have hw := write9 wr ow ss'[k].kd ss'[k].x ss'[k].n ss'[k].most t1 t2 u1 u2 (HL.out.2.2.2.1 _ (List.getElem_mem hkl)) (by omega) (by omega) (by omega)
          rw [stepF_stuck (by decide), putL_stuck _ _ (by decide)] at hw
          have hrd : ∀ w', Stk w8 w' pw p G (l ++ [2]) nb 90 lw 1 → ss'[k].kd ≠ 9 → Calls Try.prog 50 #[.pointer (some ⟨p, 0, none⟩), .agg #[.int .i64 ss'[k].kd, .int .u64 ss'[k].x, .slice ba bn bc, .slice la ln lc, .int .i64 ss'[k].n, .int .i64 ss'[k].most]] w' fun e w'' => ∃ v, e = .returned v ∧ GotIs w'' v Gt.no ∧ Rd w'' p G (l ++ [2]) nb 90 ∧ Keep [p] w' w'' := fun w' h9 hk9 => by
            refine (read9 w' h9.rd ss'[k].kd ss'[k].x (ba := ba) (la := la) (n0 := bn) (bc := bc) (ln := ln) (lc := lc) ss'[k].n ss'[k].most hnn hmm (by have := H10.out.2.2; omega)).mono ?_
            intro e w'' hp
            have hg := hp.got
            have e3 : stepR (l ++ [2]) nb 90 ss'[k].kd ss'[k].n ss'[k].most = (.no, nb, 90) := St9.stuck ss'[k] (l ++ [2]) nb (by decide) hk9
            rw [e3] at hg
            exact hg
          have HW := Lib.hid (And.intro hw (And.intro hst (And.intro hGw hrd)))
          obtain ⟨s, hs⟩ : ∃ s, s = ss'[k] := ⟨_, rfl⟩
          rw [← hs] at g0 g1 g4 g5 HW
          have k0 : (0 : Int) ≤ (k : Int) := Int.natCast_nonneg _
          have k1 : (k : Int) < (n' : Int) := by omega
          obtain ⟨kd, x, bb, ns, nn, mo⟩ := s
          simp only at g0 g1 g4 g5 HW
          have HG := Lib.hid (And.intro g0 (And.intro g1 (And.intro g2 (And.intro g3 (And.intro g4 g5)))))
          clear hs hw hsz hsz2 e1 e2 t1 t2 u1 u2 ow lift s1 s2 hnn hmm hGw hrd
          have hstk := hst.keep
          have hpn : p ≠ b9 := by omega
          have hpwn : pw ≠ b9 := by omega
          go_wp2_with (first | (at_builtin; refine Stopped.out ?_) | (at_make; refine Stopped.out ?_))
          refine HW.out.1.mono ?_
          rintro e w13 ⟨rfl, hst13⟩
          have h13 := HW.out.2.1.write HW.out.2.2.1 hst13
          obtain ⟨G13, _, k13, _⟩ := hst13.out
          have l13 : ∀ {j : Nat} {v : Value}, wr.cell? ⟨b9, j, none⟩ = some v → w13.cell? ⟨b9, j, none⟩ = some v := fun hc => k13.cell hc (fun hx => by
            have h8s := H8.out.2.2.2.2.size
            rcases HW.out.2.2.1 _ hx with h1 | h1
            · exact hpwn h1.symm
            · simp at h1; omega)
          have g0 := l13 HG.out.1; have g1 := l13 HG.out.2.1; have g2 := l13 HG.out.2.2.1; have g3 := l13 HG.out.2.2.2.1; have g4 := l13 HG.out.2.2.2.2.1; have g5 := l13 HG.out.2.2.2.2.2
          have H13 := Lib.hid h13
          clear hst13 h13 k13 l13 hst hstk
          by_cases hkd : kd = 9
          · subst hkd
            go_wp2
            first | go_roundw | refine ⟨?rel, ?measure⟩
            case rel => exact ⟨k + 1, by omega, by go_num, H13.out⟩
            case measure => simp [intOf]; omega
          · have i9 : (kd != 9) = true := by simp; exact hkd
            have HRd := Lib.hid (HW.out.2.2.2 w13 H13.out hkd)
            go_wp2_with (first | (at_builtin; refine Stopped.out ?_) | (at_make; refine Stopped.out ?_))
            refine HRd.out.mono ?_
            rintro e w14 ⟨v14, rfl, hg14, hr14, hk14⟩
            have H14 := Lib.hid (And.intro (empty_no w14 hg14) (H13.out.read hr14 hk14))
            clear hg14 hr14 hk14 g0 g1 g2 g3 g4 g5
            go_wp2_with (first | (at_builtin; refine Stopped.out ?_) | (at_make; refine Stopped.out ?_))
            refine H14.out.1.mono ?_
            rintro e w15 ⟨rfl, hb15⟩
            have H15 := Lib.hid (H14.out.2.below hb15)
            clear hb15
            go_wp2
            first | go_roundw | refine ⟨?rel, ?measure⟩
            case rel => exact ⟨k + 1, by omega, by go_num, H15.out⟩
            case measure => simp [intOf]; omega
        · obtain ⟨Gw, ow, hGw⟩ := hst.out
          have hdn := Done_any wr ow (by omega)
          have HD := Lib.hid (And.intro hdn hst)
          have k1 : decide ((k : Int) < (n' : Int)) = false := decide_eq_false (by omega)
          clear ow hGw hdn hst
          go_wp2_with (first | (at_builtin; refine Stopped.out ?_) | (at_make; refine Stopped.out ?_))
          refine HD.out.1.mono ?_
          rintro e w16 ⟨v16, rfl, o16, hb16⟩
          rw [show doneL lw 1 = [] from rfl] at o16
          obtain ⟨A16, c16, rfl, _, _⟩ := own_sl o16
          have h16 := HD.out.2.below hb16
          have hlf := Rd_Left w16 h16.rd
          rw [H10.out.2.2, show nb + 1 - nb = 1 by omega] at hlf
          have H16 := Lib.hid (And.intro hlf h16)
          clear o16 hb16 h16 hlf
          go_wp2_with (first | (at_builtin; refine Stopped.out ?_) | (at_make; refine Stopped.out ?_))
          refine H16.out.1.mono ?_
          rintro e w17 ⟨rfl, hd17⟩
          have h17 := H16.out.2.below hd17.below
          have hdn := Rd_Done w17 h17.rd
          rw [show doneR (l ++ [2]) nb 90 = 90 by simp [doneR]] at hdn
          have H17 := Lib.hid (And.intro hdn h17)
          clear hd17 h17 hdn
          go_wp2_with (first | (at_builtin; refine Stopped.out ?_) | (at_make; refine Stopped.out ?_))
          refine H17.out.1.mono ?_
          rintro e w18 ⟨rfl, hd18⟩
          have h18 := H17.out.2.below hd18.below
          have HN : Hid (Below W.heap.size W w18) := Lib.hid (h18.keep.below H8.out.2.2.2.2 H8.out.2.2.2.2.size (fun x hx => by simp at hx; omega))
          clear hd18 h18
          go_wp2
          go_ret
          exact ⟨rfl, HN.out⟩
end Go.Proofs.Ytdooabbeolfgfaa
