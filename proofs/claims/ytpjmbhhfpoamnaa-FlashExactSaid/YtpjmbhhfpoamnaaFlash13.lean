import Derived.Test.YtpjmbhhfpoamnaaFlash12
set_option linter.unusedVariables false
set_option linter.unusedSimpArgs false
namespace Go.Proofs.Ytpjmbhhfpoamnaa
open Go.RowKit
theorem Fl.appA {w w2 : World} {p : Nat} {G : List Nat} {s : FSt} (h : Fl w p G s) {v0 v1 va v' : Value} (hb : w.heap[p]? = some (.cells #[.int .i64 s.size, v0, v1, va, .int .i64 s.count, .int .i64 s.writes, .bool s.down] 128 (0, 0)))
    (h0 : w.ownsRow 0 5 1 v0 s.b0.length (s.b0.map by8)) (h1 : w.ownsRow 0 5 1 v1 s.b1.length (s.b1.map by8))
    (k0 : ∀ k, v0.ownBlock = some k → k ≠ p ∧ k ∈ G ∧ v1.ownBlock ≠ some k ∧ va.ownBlock ≠ some k) (k1 : ∀ k, v1.ownBlock = some k → k ≠ p ∧ k ∈ G ∧ va.ownBlock ≠ some k) (ka : ∀ k, va.ownBlock = some k → k ≠ p ∧ k ∈ G)
    {b : List (Nat × Nat)} (ho : w2.ownsRow 0 138 2 v' b.length (crashL b)) (hg : w.grownBy w2 va.ownBlock) (hv : ∀ k, v'.ownBlock = some k → va.ownBlock = some k ∨ k = w.heap.size) :
    FStep w (w2.setCell ⟨p, 3, none⟩ v') p G { s with armed := b } := by
  have hm := h.mem; have hlts := h.lts
  have hp : p < w.heap.size := hlts p hm
  have kk : Keep va.ownBlock.toList w w2 := (Keep.refl _ w).grown hg (fun k hk => .inl (by simp [hk]))
  have kG : Keep G w w2 := kk.mono (fun x hx => (ka x (by simpa using hx)).2)
  have ks : Keep [p] w2 (w2.setCell ⟨p, 3, none⟩ v') := (Keep.refl [p] w2).setCell (.inl (by simp)) _
  have hb2 := kk.heap hb (fun hx => (ka p (by simpa using hx)).1 rfl)
  have h02 := kk.own h0 (fun k hk hx => (k0 k hk).2.2.2 (by simpa using hx))
  have h12 := kk.own h1 (fun k hk hx => (k1 k hk).2.2 (by simpa using hx))
  have hfr : ∀ k, v0.ownBlock = some k → k < w.heap.size := fun k hk => hlts k (k0 k hk).2.1
  have hfa : ∀ k, v1.ownBlock = some k → k < w.heap.size := fun k hk => hlts k (k1 k hk).2.1
  have hv2 : ∀ k, v'.ownBlock = some k → k ≠ p ∧ v0.ownBlock ≠ some k ∧ v1.ownBlock ≠ some k := fun k hk => by
    rcases hv k hk with h6 | h6
    · exact ⟨(ka k h6).1, fun h7 => (k0 k h7).2.2.2 h6, fun h7 => (k1 k h7).2.2 h6⟩
    · exact ⟨by omega, fun h7 => by have := hfr k h7; omega, fun h7 => by have := hfa k h7; omega⟩
  refine ⟨v'.ownBlock.toList ++ G, ⟨⟨v0, v1, v', ?_, ks.own h02 (fun k hk => by have := (k0 k hk).1; simpa using this), ks.own h12 (fun k hk => by have := (k1 k hk).1; simpa using this), ks.own ho (fun k hk => by have := (hv2 k hk).1; simpa using this), fun k hk => ⟨(k0 k hk).1, List.mem_append_right _ (k0 k hk).2.1, (k0 k hk).2.2.1, fun h7 => (hv2 k h7).2.1 hk⟩, fun k hk => ⟨(k1 k hk).1, List.mem_append_right _ (k1 k hk).2.1, fun h7 => (hv2 k h7).2.2 hk⟩, fun k hk => ⟨(hv2 k hk).1, List.mem_append_left _ (by simp [hk])⟩⟩, List.mem_append_right _ hm, ?_⟩, kG.setCell (.inl hm) _, ?_⟩
  · have := heap_setCell_same w2 p 3 _ _ v' hb2
    simpa using this
  · intro x hx
    rcases List.mem_append.1 hx with h6 | h6
    · have := (ho.lt x (by simpa using h6)).2
      simpa using this
    · have := Nat.lt_of_lt_of_le (hlts x h6) kk.size
      simpa using this
  · intro x hx
    rcases List.mem_append.1 hx with h6 | h6
    · rcases hv x (by simpa using h6) with h7 | h7
      · exact .inl (ka x h7).2
      · exact .inr (Nat.le_of_eq h7.symm)
    · exact .inl h6
set_option maxRecDepth 100000 in
set_option maxHeartbeats 1600000 in
theorem flash_Arm_yes (w : World) {p : Nat} {G : List Nat} {s : FSt} (h : Fl w p G s) (a k : Nat) (ha : 1 ≤ a ∧ a ≤ 1000000) (hk : k ≤ 1048576) (hn : s.armed.length < 64) :
    Calls Try.prog 31 #[.pointer (some ⟨p, 0, none⟩), .int .i64 a, .int .i64 k] w fun e w' => e = .returned (.int .i64 0) ∧ FStep w w' p G { s with armed := s.armed ++ [(a, k)] } := by
  obtain ⟨v0, v1, va, hblk, r0, r1, ra, k0, k1, ka⟩ := h.out
  obtain ⟨Aa, ca, rfl, sa, _⟩ := own_sl ra
  obtain ⟨n, hne⟩ : ∃ n, n = s.armed.length := ⟨_, rfl⟩
  have HN := Lib.hid hne
  have c3 : w.cell? ⟨p, 3, none⟩ = some (.slice Aa n ca) := by rw [hne]; exact box_cell hblk 3 _ rfl
  rw [← hne] at hn
  have c3a := cell_al c3 (.cells #[.int .i64 (a : Int), .int .i64 (k : Int)] 138)
  have i1 : (1 : Int) ≤ (a : Int) := by omega
  have i2 : (a : Int) ≤ 1000000 := by omega
  have i3 : (0 : Int) ≤ (k : Int) := by omega
  have i4 : (k : Int) ≤ 1048576 := by omega
  have i5 : (n : Int) < 64 := by omega
  have HH := Lib.hid (And.intro h (And.intro hblk (And.intro r0 (And.intro r1 (And.intro ra (And.intro k0 (And.intro k1 ka)))))))
  have HB := Lib.hid ((Below.refl w.heap.size w).alloc (Nat.le_refl _) (.cells #[.int .i64 (a : Int), .int .i64 (k : Int)] 138))
  clear h hblk r0 r1 ra k0 k1 ka hne ha hk
  go_enter Try.func31, Try.ntmps31
  go_wp2_with (first | (at_builtin; refine Stopped.out ?_) | (at_make; refine Stopped.out ?_))
  have hra := own_below HH.out.2.2.2.2.1 HB.out
  rw [← HN.out] at hra
  refine Stopped.mk (apk_own (v := .slice Aa n ca) EC rfl (.tmp 31) (.tmp 35) rfl rfl hra rfl (Sl.fresh w [.int .i64 (a : Int), .int .i64 (k : Int)] 138 1 2 rfl (by decide)) (by intro u hu; simp at hu; rcases hu with rfl | rfl <;> rfl) (by simp only [maxLen]; omega) (by omega) (Nat.zero_le _) ?_)
  intro v' w2 o2 hg2 hv2
  obtain ⟨h1, hblk, r0, r1, _, k0, k1, ka⟩ := HH.out
  rw [show (Value.slice Aa n ca).ownBlock = (Value.slice Aa s.armed.length ca).ownBlock by cases Aa <;> rfl] at hg2 hv2
  have o2' : w2.ownsRow 0 138 2 v' (s.armed ++ [(a, k)]).length (crashL (s.armed ++ [(a, k)])) := by
    have e1 : crashL (s.armed ++ [(a, k)]) = crashL s.armed ++ [.int .i64 (a : Int), .int .i64 (k : Int)] := by simp [crashL]
    rw [e1, List.length_append, ← HN.out]; exact o2
  have hB := HB.out
  have h1' := h1.below hB
  have hblk' := (Keep.of_below hB []).heap hblk (by simp)
  have HF := Lib.hid (FStep.thn (Keep.of_below hB G) (fun x hx => .inl hx) (h1'.appA hblk' (own_below r0 hB) (own_below r1 hB) k0 k1 ka o2' hg2 hv2))
  have hpb : w2.heap[p]? = _ := (hg2.block p (h1'.lts p h1'.mem) (fun e => (ka p e.symm).1 rfl)).trans hblk'
  have e1 := box_cell hpb 3 _ rfl
  have f1 := box_free hpb 3
  obtain ⟨A2, c2, rfl, _, _⟩ := own_sl o2'
  clear hblk r0 r1 o2 o2' hg2 hv2 hpb c3a c3 hblk' h1 h1' hra
  go_wp2
  go_ret
  exact ⟨rfl, by simpa using HF.out⟩
def setB (s : FSt) (n : Nat) (l : List UInt8) : FSt := if n = 0 then { s with b0 := l } else { s with b1 := l }
/-- what an Erase leaves of a bank -/
def eraL (s : FSt) (b : List UInt8) : List UInt8 := if struckF s then (if b.length ≤ keepF s then [] else List.replicate (keepF s) 255 ++ b.drop (keepF s)) else []
theorem Fl.nil0 {w : World} {p : Nat} {G : List Nat} {s : FSt} (h : Fl w p G s) : FStep w (w.setCell ⟨p, 1, none⟩ (.slice none 0 0)) p G (setB s 0 []) := by
  obtain ⟨v0, v1, va, hb, h0, h1, ha, k0, k1, ka⟩ := h.out
  have ks : Keep [p] w (w.setCell ⟨p, 1, none⟩ (.slice none 0 0)) := (Keep.refl [p] w).setCell (.inl (by simp)) _
  refine ⟨G, ⟨⟨.slice none 0 0, v1, va, ?_, (World.ownsRow_nil ..), ks.own h1 (fun k hk => by have := (k1 k hk).1; simpa using this), ks.own ha (fun k hk => by have := (ka k hk).1; simpa using this), (fun k hk => by cases hk), k1, ka⟩, h.mem, fun x hx => by simpa using h.lts x hx⟩, (Keep.refl G w).setCell (.inl h.mem) _, fun x hx => .inl hx⟩
  have := heap_setCell_same w p 1 _ _ (.slice none 0 0) hb
  simpa [setB] using this
/-- a byte of the bank is written -/
theorem Fl.byte0 {w : World} {p : Nat} {G : List Nat} {s : FSt} (h : Fl w p G s) (k : Nat) (hk : k < s.b0.length) (x : UInt8) : ∃ g c, w.cell? ⟨p, 1, none⟩ = some (.slice (some ⟨g, 0, none⟩) s.b0.length c) ∧ (∃ v0, w.cell? ⟨g, k, none⟩ = some v0) ∧ w.frozen? ⟨g, k, none⟩ = false ∧ Fl (w.setCell ⟨g, k, none⟩ (by8 x)) p G (setB s 0 (s.b0.set k x)) ∧ g ∈ G := by
  obtain ⟨v0, v1, va, hb, h0, h1, ha, k0, k1, ka⟩ := h.out
  obtain ⟨g, c, rfl, _, _, _⟩ := own_form h0 (by omega)
  have hg := k0 g rfl
  obtain ⟨u, hu⟩ := own_cell h0 k (by omega)
  have kk : Keep [g] w (w.setCell ⟨g, k, none⟩ (by8 x)) := (Keep.refl [g] w).setCell (.inl (by simp)) _
  have st := (h0.stored k (by8 x)).1
  rw [← List.map_set] at st
  refine ⟨g, c, box_cell hb 1 _ rfl, ⟨u, hu⟩, h0.frozenAt k, ⟨⟨.slice (some ⟨g, 0, none⟩) s.b0.length c, v1, va, kk.heap hb (by simpa using fun e => hg.1 e.symm), by simpa [setB] using st, kk.own h1 (fun j hj hx => by simp at hx; subst hx; exact hg.2.2.1 hj), kk.own ha (fun j hj hx => by simp at hx; subst hx; exact hg.2.2.2 hj), k0, k1, ka⟩, h.mem, fun y hy => by simpa using h.lts y hy⟩, hg.2.1⟩
set_option maxRecDepth 100000 in
set_option maxHeartbeats 1600000 in
theorem flash_Erase_any0 (w : World) {p : Nat} {G : List Nat} {s : FSt} (h : Fl w p G s) (hk : FOk s) (hd : s.down = false) :
    Calls Try.prog 35 #[.pointer (some ⟨p, 0, none⟩), .int .i64 0] w fun e w' => e = .returned (.int .i64 (if struckF s then 121 else 0 : Nat)) ∧ FStep w w' p G (setB (strikeF s) 0 (eraL s s.b0)) := by
  have HA := Lib.hid (flash_at_yes w h 0 (by decide) hd)
  have HW := Lib.hid (flash_write w h hk.writes hk.count (by have := hk.armed; omega) hk.vals)
  have HKP := Lib.hid (keepF_le s hk.vals)
  have HK := Lib.hid hk
  have HBL := Lib.hid (show s.b0.length ≤ 1048576 by have := hk.size; have := hk.b0; omega)
  clear hk
  cases hst : struckF s
  · rw [if_neg (by simp)]
    have HE : Hid (eraL s s.b0 = []) := Lib.hid (by simp [eraL, hst])
    have HST := Lib.hid hst
    clear hst
    go_enter Try.func35, Try.ntmps35
    go_wp2_with (first | (at_builtin; refine Stopped.out ?_) | (at_make; refine Stopped.out ?_))
    refine HA.out.mono ?_
    rintro e w' ⟨rfl, rfl⟩
    go_wp2_with (first | (at_builtin; refine Stopped.out ?_) | (at_make; refine Stopped.out ?_))
    refine HW.out.mono ?_
    rintro e w1 ⟨rfl, hst⟩
    rw [HST.out]
    obtain ⟨G1, h1, hk1, hG1⟩ := hst.out
    obtain ⟨v0, v1, va, hblk, _, _, _, _, _, _⟩ := h1.out
    have d1 := box_cell hblk 1 v0 rfl
    have f1 := box_free hblk 1
    have HF := Lib.hid (FStep.thn hk1 hG1 h1.nil0)
    clear hst hblk
    go_wp2
    go_ret
    exact ⟨rfl, by rw [HE.out]; exact HF.out⟩
  · rw [if_pos rfl]
    obtain ⟨kp, hkp⟩ : ∃ kp, kp = keepF s := ⟨_, rfl⟩
    have HKE := Lib.hid hkp
    have hkb : kp ≤ 1048576 := by rw [hkp]; exact HKP.out
    obtain ⟨q, hq⟩ : ∃ q, q = s.b0.length := ⟨_, rfl⟩
    have HQ := Lib.hid hq
    have hqb : q ≤ 1048576 := by rw [hq]; exact HBL.out
    by_cases hle : q ≤ kp
    · have HE : Hid (eraL s s.b0 = []) := Lib.hid (by simp [eraL, hst, ← hkp, ← hq, hle])
      have HST := Lib.hid hst
      have i1 : (q : Int) ≤ (kp : Int) := by omega
      have hM : ∀ (ats : Array TypeId) (ty : TypeId) (w : World), (Builtin.min_ ats ty #[.int .i64 (kp : Int), .int .i64 0]).run Try.prog w = .ok (.int .i64 0) w := fun ats ty w => by
        have := run_min (P := Try.prog) (kp : Int) 0 ats ty w
        rwa [show min (kp : Int) 0 = 0 by omega] at this
      clear hst hkp hq hle
      go_enter Try.func35, Try.ntmps35
      go_wp2_with (first | (at_builtin; refine Stopped.out ?_) | (at_make; refine Stopped.out ?_))
      refine HA.out.mono ?_
      rintro e w' ⟨rfl, rfl⟩
      go_wp2_with (first | (at_builtin; refine Stopped.out ?_) | (at_make; refine Stopped.out ?_))
      refine HW.out.mono ?_
      rintro e w1 ⟨rfl, hst⟩
      rw [HST.out, ← HKE.out]
      obtain ⟨G1, h1, hk1, hG1⟩ := hst.out
      obtain ⟨v0, v1, va, hblk, r0, r1, _, _, _, _⟩ := h1.out
      rw [strikeF_b0] at r0
      rw [strikeF_b1] at r1
      obtain ⟨A0, c0', rfl, _, _⟩ := own_sl r0
      rw [← HQ.out] at hblk
      have d1 := box_cell hblk 1 (.slice A0 q c0') rfl
      have f1 := box_free hblk 1
      have HF := Lib.hid (FStep.thn hk1 hG1 h1.nil0)
      clear hst hblk r0 r1
      go_wp2
      go_loop [42] (fun i => i = .int .i64 0) (fun _ => 0)
      case atStart => rfl
      case round =>
        subst hrel
        go_wp2
        go_ret
        exact ⟨rfl, by rw [HE.out]; exact HF.out⟩
    · have HE : Hid (eraL s s.b0 = List.replicate kp 255 ++ s.b0.drop kp) := Lib.hid (by simp [eraL, hst, ← hkp, ← hq, hle])
      have HST := Lib.hid hst
      have i1 : (kp : Int) < (q : Int) := by omega
      have hM : ∀ (ats : Array TypeId) (ty : TypeId) (w : World), (Builtin.min_ ats ty #[.int .i64 (kp : Int), .int .i64 (q : Int)]).run Try.prog w = .ok (.int .i64 (kp : Int)) w := fun ats ty w => by
        have := run_min (P := Try.prog) (kp : Int) q ats ty w
        rwa [show min (kp : Int) q = kp by omega] at this
      have hlt := Nat.lt_of_not_le hle
      clear hst hkp hq hle
      go_enter Try.func35, Try.ntmps35
      go_wp2_with (first | (at_builtin; refine Stopped.out ?_) | (at_make; refine Stopped.out ?_))
      refine HA.out.mono ?_
      rintro e w' ⟨rfl, rfl⟩
      go_wp2_with (first | (at_builtin; refine Stopped.out ?_) | (at_make; refine Stopped.out ?_))
      refine HW.out.mono ?_
      rintro e w1 ⟨rfl, hst⟩
      rw [HST.out, ← HKE.out]
      obtain ⟨G1, h1, hk1, hG1⟩ := hst.out
      have HS1 := Lib.hid (And.intro h1 (And.intro hk1 hG1))
      obtain ⟨v0, v1, va, hblk, r0, r1, _, _, _, _⟩ := h1.out
      rw [strikeF_b0] at r0
      rw [strikeF_b1] at r1
      obtain ⟨A0, c0', rfl, _, _⟩ := own_sl r0
      rw [← HQ.out] at hblk
      have d1 := box_cell hblk 1 (.slice A0 q c0') rfl
      clear hst hblk r0 r1 h1 hk1 hG1
      go_wp2
      go_loopw [42] (fun i wr => ∃ k : Nat, k ≤ kp ∧ i = .int .i64 k ∧ Fl wr p G1 (setB (strikeF s) 0 (List.replicate k 255 ++ s.b0.drop k)) ∧ Keep G1 w1 wr) (fun i _ => kp - (intOf i).toNat)
      case atStart => exact ⟨0, by omega, rfl, by have := HS1.out.1; simpa [setB, ← strikeF_b0 s] using this, Keep.refl _ _⟩
      case round =>
        obtain ⟨k, hk, rfl, hf, hkp⟩ := hrel
        by_cases hlk : k < kp
        · have hk0 : (0 : Int) ≤ (k : Int) := Int.natCast_nonneg _
          have hk1 : (k : Int) < (kp : Int) := by omega
          have hk2 : (k : Int) < (q : Int) := by omega
          have hlen : (setB (strikeF s) 0 (List.replicate k 255 ++ s.b0.drop k)).b0 = List.replicate k 255 ++ s.b0.drop k := rfl
          have hlen2 : (List.replicate k (255 : UInt8) ++ s.b0.drop k).length = q := by have := HQ.out; simp; omega
          obtain ⟨g, cg, c1, ⟨u0, c2⟩, f2, hf2, hgG⟩ := hf.byte0 k (by rw [hlen, hlen2]; omega) 255
          rw [hlen] at c1 hf2
          rw [hlen2] at c1
          have e3 : setB (setB (strikeF s) 0 (List.replicate k 255 ++ s.b0.drop k)) 0 ((List.replicate k (255 : UInt8) ++ s.b0.drop k).set k 255) = setB (strikeF s) 0 (List.replicate (k + 1) 255 ++ s.b0.drop (k + 1)) := by
            have : (List.replicate k (255 : UInt8) ++ s.b0.drop k).set k 255 = List.replicate (k + 1) 255 ++ s.b0.drop (k + 1) := by
              rw [List.set_append_right _ _ (by simp)]
              simp [List.replicate_succ']
              rw [List.drop_eq_getElem_cons (show k < s.b0.length by have := HQ.out; omega)]
              rfl
            rw [this]; rfl
          rw [e3] at hf2
          have HN := Lib.hid (And.intro hf2 (hkp.setCell (p := ⟨g, k, none⟩) (.inl hgG) (by8 255)))
          have e4 : by8 255 = .int .u8 255 := rfl
          rw [e4] at HN
          clear hf hf2 hkp hlen hlen2 e3 e4
          go_wp2
          first | go_roundw | refine ⟨?rel, ?measure⟩
          case rel => exact ⟨k + 1, by omega, by go_num, HN.out⟩
          case measure => simp [intOf]; omega
        · obtain rfl : k = kp := by omega
          have HF := Lib.hid (FStep.thn HS1.out.2.1 HS1.out.2.2 ⟨G1, hf, hkp, fun x hx => .inl hx⟩)
          clear hf hkp
          go_wp2
          go_ret
          exact ⟨rfl, by rw [HE.out]; exact HF.out⟩
theorem Fl.nil1 {w : World} {p : Nat} {G : List Nat} {s : FSt} (h : Fl w p G s) : FStep w (w.setCell ⟨p, 2, none⟩ (.slice none 0 0)) p G (setB s 1 []) := by
  obtain ⟨v0, v1, va, hb, h0, h1, ha, k0, k1, ka⟩ := h.out
  have ks : Keep [p] w (w.setCell ⟨p, 2, none⟩ (.slice none 0 0)) := (Keep.refl [p] w).setCell (.inl (by simp)) _
  refine ⟨G, ⟨⟨v0, .slice none 0 0, va, ?_, ks.own h0 (fun k hk => by have := (k0 k hk).1; simpa using this), (World.ownsRow_nil ..), ks.own ha (fun k hk => by have := (ka k hk).1; simpa using this), (fun k hk => ⟨(k0 k hk).1, (k0 k hk).2.1, by simp [Value.ownBlock], (k0 k hk).2.2.2⟩), (fun k hk => by cases hk), ka⟩, h.mem, fun x hx => by simpa using h.lts x hx⟩, (Keep.refl G w).setCell (.inl h.mem) _, fun x hx => .inl hx⟩
  have := heap_setCell_same w p 2 _ _ (.slice none 0 0) hb
  simpa [setB] using this
/-- a byte of the bank is written -/
theorem Fl.byte1 {w : World} {p : Nat} {G : List Nat} {s : FSt} (h : Fl w p G s) (k : Nat) (hk : k < s.b1.length) (x : UInt8) : ∃ g c, w.cell? ⟨p, 2, none⟩ = some (.slice (some ⟨g, 0, none⟩) s.b1.length c) ∧ (∃ v0, w.cell? ⟨g, k, none⟩ = some v0) ∧ w.frozen? ⟨g, k, none⟩ = false ∧ Fl (w.setCell ⟨g, k, none⟩ (by8 x)) p G (setB s 1 (s.b1.set k x)) ∧ g ∈ G := by
  obtain ⟨v0, v1, va, hb, h0, h1, ha, k0, k1, ka⟩ := h.out
  obtain ⟨g, c, rfl, _, _, _⟩ := own_form h1 (by omega)
  have hg := k1 g rfl
  obtain ⟨u, hu⟩ := own_cell h1 k (by omega)
  have kk : Keep [g] w (w.setCell ⟨g, k, none⟩ (by8 x)) := (Keep.refl [g] w).setCell (.inl (by simp)) _
  have st := (h1.stored k (by8 x)).1
  rw [← List.map_set] at st
  refine ⟨g, c, box_cell hb 2 _ rfl, ⟨u, hu⟩, h1.frozenAt k, ⟨⟨v0, .slice (some ⟨g, 0, none⟩) s.b1.length c, va, kk.heap hb (by simpa using fun e => hg.1 e.symm), kk.own h0 (fun j hj hx => by simp at hx; subst hx; exact (k0 j hj).2.2.1 rfl), by simpa [setB] using st, kk.own ha (fun j hj hx => by simp at hx; subst hx; exact hg.2.2 hj), k0, k1, ka⟩, h.mem, fun y hy => by simpa using h.lts y hy⟩, hg.2.1⟩
set_option maxRecDepth 100000 in
set_option maxHeartbeats 1600000 in
theorem flash_Erase_any1 (w : World) {p : Nat} {G : List Nat} {s : FSt} (h : Fl w p G s) (hk : FOk s) (hd : s.down = false) :
    Calls Try.prog 35 #[.pointer (some ⟨p, 0, none⟩), .int .i64 1] w fun e w' => e = .returned (.int .i64 (if struckF s then 121 else 0 : Nat)) ∧ FStep w w' p G (setB (strikeF s) 1 (eraL s s.b1)) := by
  have HA := Lib.hid (flash_at_yes w h 1 (by decide) hd)
  have HW := Lib.hid (flash_write w h hk.writes hk.count (by have := hk.armed; omega) hk.vals)
  have HKP := Lib.hid (keepF_le s hk.vals)
  have HK := Lib.hid hk
  have HBL := Lib.hid (show s.b1.length ≤ 1048576 by have := hk.size; have := hk.b1; omega)
  clear hk
  cases hst : struckF s
  · rw [if_neg (by simp)]
    have HE : Hid (eraL s s.b1 = []) := Lib.hid (by simp [eraL, hst])
    have HST := Lib.hid hst
    clear hst
    go_enter Try.func35, Try.ntmps35
    go_wp2_with (first | (at_builtin; refine Stopped.out ?_) | (at_make; refine Stopped.out ?_))
    refine HA.out.mono ?_
    rintro e w' ⟨rfl, rfl⟩
    go_wp2_with (first | (at_builtin; refine Stopped.out ?_) | (at_make; refine Stopped.out ?_))
    refine HW.out.mono ?_
    rintro e w1 ⟨rfl, hst⟩
    rw [HST.out]
    obtain ⟨G1, h1, hk1, hG1⟩ := hst.out
    obtain ⟨v0, v1, va, hblk, _, _, _, _, _, _⟩ := h1.out
    have d1 := box_cell hblk 2 v1 rfl
    have f1 := box_free hblk 2
    have HF := Lib.hid (FStep.thn hk1 hG1 h1.nil1)
    clear hst hblk
    go_wp2
    go_ret
    exact ⟨rfl, by rw [HE.out]; exact HF.out⟩
  · rw [if_pos rfl]
    obtain ⟨kp, hkp⟩ : ∃ kp, kp = keepF s := ⟨_, rfl⟩
    have HKE := Lib.hid hkp
    have hkb : kp ≤ 1048576 := by rw [hkp]; exact HKP.out
    obtain ⟨q, hq⟩ : ∃ q, q = s.b1.length := ⟨_, rfl⟩
    have HQ := Lib.hid hq
    have hqb : q ≤ 1048576 := by rw [hq]; exact HBL.out
    by_cases hle : q ≤ kp
    · have HE : Hid (eraL s s.b1 = []) := Lib.hid (by simp [eraL, hst, ← hkp, ← hq, hle])
      have HST := Lib.hid hst
      have i1 : (q : Int) ≤ (kp : Int) := by omega
      have hM : ∀ (ats : Array TypeId) (ty : TypeId) (w : World), (Builtin.min_ ats ty #[.int .i64 (kp : Int), .int .i64 0]).run Try.prog w = .ok (.int .i64 0) w := fun ats ty w => by
        have := run_min (P := Try.prog) (kp : Int) 0 ats ty w
        rwa [show min (kp : Int) 0 = 0 by omega] at this
      clear hst hkp hq hle
      go_enter Try.func35, Try.ntmps35
      go_wp2_with (first | (at_builtin; refine Stopped.out ?_) | (at_make; refine Stopped.out ?_))
      refine HA.out.mono ?_
      rintro e w' ⟨rfl, rfl⟩
      go_wp2_with (first | (at_builtin; refine Stopped.out ?_) | (at_make; refine Stopped.out ?_))
      refine HW.out.mono ?_
      rintro e w1 ⟨rfl, hst⟩
      rw [HST.out, ← HKE.out]
      obtain ⟨G1, h1, hk1, hG1⟩ := hst.out
      obtain ⟨v0, v1, va, hblk, r0, r1, _, _, _, _⟩ := h1.out
      rw [strikeF_b0] at r0
      rw [strikeF_b1] at r1
      obtain ⟨A0, c0', rfl, _, _⟩ := own_sl r1
      rw [← HQ.out] at hblk
      have d1 := box_cell hblk 2 (.slice A0 q c0') rfl
      have f1 := box_free hblk 2
      have HF := Lib.hid (FStep.thn hk1 hG1 h1.nil1)
      clear hst hblk r0 r1
      go_wp2
      go_loop [42] (fun i => i = .int .i64 0) (fun _ => 0)
      case atStart => rfl
      case round =>
        subst hrel
        go_wp2
        go_ret
        exact ⟨rfl, by rw [HE.out]; exact HF.out⟩
    · have HE : Hid (eraL s s.b1 = List.replicate kp 255 ++ s.b1.drop kp) := Lib.hid (by simp [eraL, hst, ← hkp, ← hq, hle])
      have HST := Lib.hid hst
      have i1 : (kp : Int) < (q : Int) := by omega
      have hM : ∀ (ats : Array TypeId) (ty : TypeId) (w : World), (Builtin.min_ ats ty #[.int .i64 (kp : Int), .int .i64 (q : Int)]).run Try.prog w = .ok (.int .i64 (kp : Int)) w := fun ats ty w => by
        have := run_min (P := Try.prog) (kp : Int) q ats ty w
        rwa [show min (kp : Int) q = kp by omega] at this
      have hlt := Nat.lt_of_not_le hle
      clear hst hkp hq hle
      go_enter Try.func35, Try.ntmps35
      go_wp2_with (first | (at_builtin; refine Stopped.out ?_) | (at_make; refine Stopped.out ?_))
      refine HA.out.mono ?_
      rintro e w' ⟨rfl, rfl⟩
      go_wp2_with (first | (at_builtin; refine Stopped.out ?_) | (at_make; refine Stopped.out ?_))
      refine HW.out.mono ?_
      rintro e w1 ⟨rfl, hst⟩
      rw [HST.out, ← HKE.out]
      obtain ⟨G1, h1, hk1, hG1⟩ := hst.out
      have HS1 := Lib.hid (And.intro h1 (And.intro hk1 hG1))
      obtain ⟨v0, v1, va, hblk, r0, r1, _, _, _, _⟩ := h1.out
      rw [strikeF_b0] at r0
      rw [strikeF_b1] at r1
      obtain ⟨A0, c0', rfl, _, _⟩ := own_sl r1
      rw [← HQ.out] at hblk
      have d1 := box_cell hblk 2 (.slice A0 q c0') rfl
      clear hst hblk r0 r1 h1 hk1 hG1
      go_wp2
      go_loopw [42] (fun i wr => ∃ k : Nat, k ≤ kp ∧ i = .int .i64 k ∧ Fl wr p G1 (setB (strikeF s) 1 (List.replicate k 255 ++ s.b1.drop k)) ∧ Keep G1 w1 wr) (fun i _ => kp - (intOf i).toNat)
      case atStart => exact ⟨0, by omega, rfl, by have := HS1.out.1; simpa [setB, ← strikeF_b1 s] using this, Keep.refl _ _⟩
      case round =>
        obtain ⟨k, hk, rfl, hf, hkp⟩ := hrel
        by_cases hlk : k < kp
        · have hk0 : (0 : Int) ≤ (k : Int) := Int.natCast_nonneg _
          have hk1 : (k : Int) < (kp : Int) := by omega
          have hk2 : (k : Int) < (q : Int) := by omega
          have hlen : (setB (strikeF s) 1 (List.replicate k 255 ++ s.b1.drop k)).b1 = List.replicate k 255 ++ s.b1.drop k := rfl
          have hlen2 : (List.replicate k (255 : UInt8) ++ s.b1.drop k).length = q := by have := HQ.out; simp; omega
          obtain ⟨g, cg, c1, ⟨u0, c2⟩, f2, hf2, hgG⟩ := hf.byte1 k (by rw [hlen, hlen2]; omega) 255
          rw [hlen] at c1 hf2
          rw [hlen2] at c1
          have e3 : setB (setB (strikeF s) 1 (List.replicate k 255 ++ s.b1.drop k)) 1 ((List.replicate k (255 : UInt8) ++ s.b1.drop k).set k 255) = setB (strikeF s) 1 (List.replicate (k + 1) 255 ++ s.b1.drop (k + 1)) := by
            have : (List.replicate k (255 : UInt8) ++ s.b1.drop k).set k 255 = List.replicate (k + 1) 255 ++ s.b1.drop (k + 1) := by
              rw [List.set_append_right _ _ (by simp)]
              simp [List.replicate_succ']
              rw [List.drop_eq_getElem_cons (show k < s.b1.length by have := HQ.out; omega)]
              rfl
            rw [this]; rfl
          rw [e3] at hf2
          have HN := Lib.hid (And.intro hf2 (hkp.setCell (p := ⟨g, k, none⟩) (.inl hgG) (by8 255)))
          have e4 : by8 255 = .int .u8 255 := rfl
          rw [e4] at HN
          clear hf hf2 hkp hlen hlen2 e3 e4
          go_wp2
          first | go_roundw | refine ⟨?rel, ?measure⟩
          case rel => exact ⟨k + 1, by omega, by go_num, HN.out⟩
          case measure => simp [intOf]; omega
        · obtain rfl : k = kp := by omega
          have HF := Lib.hid (FStep.thn HS1.out.2.1 HS1.out.2.2 ⟨G1, hf, hkp, fun x hx => .inl hx⟩)
          clear hf hkp
          go_wp2
          go_ret
          exact ⟨rfl, by rw [HE.out]; exact HF.out⟩
end Go.Proofs.Ytpjmbhhfpoamnaa
