import Derived.Test.YtpjmbhhfpoamnaaFlash11
set_option linter.unusedVariables false
set_option linter.unusedSimpArgs false
namespace Go.Proofs.Ytpjmbhhfpoamnaa
open Go.RowKit
def addB (s : FSt) (n : Nat) (l : List UInt8) : FSt := if n = 0 then { s with b0 := s.b0 ++ l } else { s with b1 := s.b1 ++ l }
theorem strikeF_b0 (s : FSt) : (strikeF s).b0 = s.b0 := by unfold strikeF; split <;> (try split) <;> rfl
theorem strikeF_b1 (s : FSt) : (strikeF s).b1 = s.b1 := by unfold strikeF; split <;> (try split) <;> rfl
theorem strikeF_size (s : FSt) : (strikeF s).size = s.size := by unfold strikeF; split <;> (try split) <;> rfl
theorem keepF_le (s : FSt) (h : ∀ c ∈ s.armed, c.1 ≤ 1000000 ∧ c.2 ≤ 1048576) : keepF s ≤ 1048576 := by
  unfold keepF
  split
  · omega
  · rename_i c r hc
    have := h c (by rw [hc]; simp)
    split <;> omega
structure FOk (s : FSt) : Prop where
  size : s.size ≤ 1048576
  b0 : s.b0.length ≤ s.size
  b1 : s.b1.length ≤ s.size
  writes : s.writes ≤ 4611686018427387904
  count : s.count ≤ 4611686018427387904
  armed : s.armed.length ≤ 64
  vals : ∀ c ∈ s.armed, c.1 ≤ 1000000 ∧ c.2 ≤ 1048576
set_option maxRecDepth 100000 in
set_option maxHeartbeats 1600000 in
theorem flash_Append_any0 (w : World) {p : Nat} {G : List Nat} {s : FSt} (h : Fl w p G s) (hk : FOk s) (hd : s.down = false) {A : Option Addr} {m c : Nat} {l : List UInt8} (hb : Sl w 1 A m c (l.map by8)) (hA : ∀ ad, A = some ad → 0 < m → ad.block ∉ G) (hroom : s.b0.length + m ≤ s.size) :
    Calls Try.prog 23 #[.pointer (some ⟨p, 0, none⟩), .int .i64 0, .slice A m c] w fun e w' => e = .returned (.int .i64 (if struckF s then 121 else 0 : Nat)) ∧ FStep w w' p G (addB (strikeF s) 0 (if struckF s then l.take (keepF s) else l)) := by
  obtain ⟨B, d, hc, sb⟩ := h.bank 0 (by decide)
  have c0 := h.cellSize
  have hs := hk.size
  have hl : l.length = m := by simpa using hb.len
  have HA := Lib.hid (flash_at_yes w h 0 (by decide) hd)
  have hbk : bankF s 0 = s.b0 := rfl
  rw [hbk] at hc
  have hc' : w.cell? ⟨p, 1, none⟩ = some (.slice B s.b0.length d) := hc
  obtain ⟨q, hle⟩ : ∃ q, q = s.b0.length := ⟨_, rfl⟩
  obtain ⟨z, hz⟩ : ∃ z, z = s.size := ⟨_, rfl⟩
  have HQ := Lib.hid hle
  have HK := Lib.hid hk
  have HKP := Lib.hid (keepF_le s hk.vals)
  rw [← hle] at hc' hroom
  rw [← hz] at c0 hs hroom
  have i1 : decide ((z : Int) - q < m) = false := decide_eq_false (by omega)
  have hmc := hb.le; have hmx := hb.max
  have HB := Lib.hid (And.intro hb (And.intro hA hl))
  clear hle hz sb hc hbk hk hb hA hl
  cases hst : struckF s
  · rw [if_neg (by simp), if_neg (by simp)]
    have HST := Lib.hid hst
    have HL := Lib.hid (show ∃ l', l' = l ∧ m = l'.length from ⟨l, rfl, HB.out.2.2.symm⟩)
    clear hst
    go_enter Try.func23, Try.ntmps23
    go_wp2_with (first | (at_builtin; refine Stopped.out ?_) | (at_make; refine Stopped.out ?_))
    refine HA.out.mono ?_
    rintro e w' ⟨rfl, rfl⟩
    go_wp2
    go_quiet (fail)
    go_wp2_with (first | (at_builtin; refine Stopped.out ?_) | (at_make; refine Stopped.out ?_))
    have hbd : Below w.heap.size w (w.drewN nq) := below_drewN (Below.refl _ _) nq
    refine (flash_write _ (h.below hbd) HK.out.writes HK.out.count (by have := HK.out.armed; omega) HK.out.vals).mono ?_
    rintro e w1 ⟨rfl, hst⟩
    rw [HST.out]
    skip
    obtain ⟨G1, h1, hk1, hG1⟩ := hst.out
    have hkw : Keep G w w1 := (Keep.of_below hbd G).trans hk1
    have hb1 := HB.out.1.keepz hkw HB.out.2.1
    obtain ⟨v0, v1, va, hblk, r0, r1, ra, k0, k1, ka⟩ := h1.out
    rw [strikeF_b0] at r0
    rw [strikeF_b1] at r1
    obtain ⟨A0, c0', rfl, _, _⟩ := own_sl r0
    have d1 := box_cell hblk 1 (.slice A0 s.b0.length c0') rfl
    clear hst
    go_wp2_with (first | (at_builtin; refine Stopped.out ?_) | (at_make; refine Stopped.out ?_))
    refine Stopped.mk (apk_own EF rfl (.tmp 47) (.tmp 48) rfl rfl r0 rfl hb1 (u8_one l) (by simp only [maxLen]; have := HQ.out; show s.b0.length + m ≤ _; omega) (by have := HQ.out; show (s.b0.length + m) * 1 ≤ _; omega) (Nat.zero_le _) ?_)
    intro v' w2 o2 hg2 hv2
    rw [← List.map_append] at o2
    have o2' : w2.ownsRow 0 5 1 v' (s.b0 ++ l).length ((s.b0 ++ l).map by8) := by rw [List.length_append, HB.out.2.2]; exact o2
    have HF := Lib.hid (FStep.thn hkw (fun x hx => (hG1 x hx).imp id (fun h => h)) (h1.app0 hblk (by rw [strikeF_b1]; exact r1) ra k0 k1 ka o2' hg2 hv2))
    have hpb : w2.heap[p]? = _ := (hg2.block p (h1.lts p h1.mem) (fun e => (k0 p e.symm).1 rfl)).trans hblk
    have e1 := box_cell hpb 1 _ rfl
    have f1 := box_free hpb 1
    obtain ⟨A2, c2, rfl, _, _⟩ := own_sl o2'
    clear hblk r0 r1 ra o2 o2' hg2 hv2 hpb d1
    go_wp2
    go_ret
    exact ⟨rfl, by simpa [addB, strikeF_b0] using HF.out⟩
  · rw [if_pos rfl, if_pos rfl]
    have HST := Lib.hid hst
    clear hst
    obtain ⟨kp, hkp⟩ : ∃ kp, kp = keepF s := ⟨_, rfl⟩
    have HKE := Lib.hid hkp
    have hkb : kp ≤ 1048576 := by rw [hkp]; exact HKP.out
    obtain ⟨m', hm'⟩ : ∃ m', m' = min kp m := ⟨_, rfl⟩
    have hmm : m' ≤ m := by omega
    have hM : ∀ (ats : Array TypeId) (ty : TypeId) (w : World), (Builtin.min_ ats ty #[.int .i64 (kp : Int), .int .i64 (m : Int)]).run Try.prog w = .ok (.int .i64 (m' : Int)) w := fun ats ty w => by rw [show (m' : Int) = min (kp : Int) (m : Int) by omega]; exact run_min _ _ ats ty w
    have HT : Hid (l.take m' = l.take kp ∧ (l.take kp).length = m') := Lib.hid (by
      have := HB.out.2.2
      refine ⟨?_, by simp; omega⟩
      rw [hm']
      rcases Nat.lt_or_ge kp m with h1 | h1
      · rw [Nat.min_eq_left (by omega)]
      · rw [Nat.min_eq_right h1, List.take_of_length_le (by omega), List.take_of_length_le (by omega)])
    rw [← hkp]
    have iq0 : (0 : Int) ≤ (m' : Int) := Int.natCast_nonneg _
    have iq1 : (m' : Int) ≤ (c : Int) := by omega
    clear hkp hm'
    go_enter Try.func23, Try.ntmps23
    go_wp2_with (first | (at_builtin; refine Stopped.out ?_) | (at_make; refine Stopped.out ?_))
    refine HA.out.mono ?_
    rintro e w' ⟨rfl, rfl⟩
    go_wp2
    go_quiet (fail)
    go_wp2_with (first | (at_builtin; refine Stopped.out ?_) | (at_make; refine Stopped.out ?_))
    have hbd : Below w.heap.size w (w.drewN nq) := below_drewN (Below.refl _ _) nq
    refine (flash_write _ (h.below hbd) HK.out.writes HK.out.count (by have := HK.out.armed; omega) HK.out.vals).mono ?_
    rintro e w1 ⟨rfl, hst⟩
    rw [HST.out]
    rw [← HKE.out]
    obtain ⟨G1, h1, hk1, hG1⟩ := hst.out
    have hkw : Keep G w w1 := (Keep.of_below hbd G).trans hk1
    have hb1 := HB.out.1.keepz hkw HB.out.2.1
    obtain ⟨v0, v1, va, hblk, r0, r1, ra, k0, k1, ka⟩ := h1.out
    rw [strikeF_b0] at r0
    rw [strikeF_b1] at r1
    obtain ⟨A0, c0', rfl, _, _⟩ := own_sl r0
    have d1 := box_cell hblk 1 (.slice A0 s.b0.length c0') rfl
    clear hst
    go_wp2_with (first | (at_builtin; refine Stopped.out ?_) | (at_make; refine Stopped.out ?_))
    refine Stopped.mk (apk_own EF rfl (.tmp 47) (.tmp 48) rfl rfl r0 rfl (HT.out.1 ▸ hb1.preB hmm) (u8_one (l.take kp)) (by simp only [maxLen]; have := HQ.out; show s.b0.length + m' ≤ _; omega) (by have := HQ.out; show (s.b0.length + m') * 1 ≤ _; omega) (Nat.zero_le _) ?_)
    intro v' w2 o2 hg2 hv2
    rw [← List.map_append] at o2
    have o2' : w2.ownsRow 0 5 1 v' (s.b0 ++ (l.take kp)).length ((s.b0 ++ (l.take kp)).map by8) := by rw [List.length_append, HT.out.2]; exact o2
    have HF := Lib.hid (FStep.thn hkw (fun x hx => (hG1 x hx).imp id (fun h => h)) (h1.app0 hblk (by rw [strikeF_b1]; exact r1) ra k0 k1 ka o2' hg2 hv2))
    have hpb : w2.heap[p]? = _ := (hg2.block p (h1.lts p h1.mem) (fun e => (k0 p e.symm).1 rfl)).trans hblk
    have e1 := box_cell hpb 1 _ rfl
    have f1 := box_free hpb 1
    obtain ⟨A2, c2, rfl, _, _⟩ := own_sl o2'
    clear hblk r0 r1 ra o2 o2' hg2 hv2 hpb d1
    go_wp2
    go_ret
    exact ⟨rfl, by simpa [addB, strikeF_b0] using HF.out⟩
set_option maxRecDepth 100000 in
set_option maxHeartbeats 1600000 in
theorem flash_Append_any1 (w : World) {p : Nat} {G : List Nat} {s : FSt} (h : Fl w p G s) (hk : FOk s) (hd : s.down = false) {A : Option Addr} {m c : Nat} {l : List UInt8} (hb : Sl w 1 A m c (l.map by8)) (hA : ∀ ad, A = some ad → 0 < m → ad.block ∉ G) (hroom : s.b1.length + m ≤ s.size) :
    Calls Try.prog 23 #[.pointer (some ⟨p, 0, none⟩), .int .i64 1, .slice A m c] w fun e w' => e = .returned (.int .i64 (if struckF s then 121 else 0 : Nat)) ∧ FStep w w' p G (addB (strikeF s) 1 (if struckF s then l.take (keepF s) else l)) := by
  obtain ⟨B, d, hc, sb⟩ := h.bank 1 (by decide)
  have c0 := h.cellSize
  have hs := hk.size
  have hl : l.length = m := by simpa using hb.len
  have HA := Lib.hid (flash_at_yes w h 1 (by decide) hd)
  have hbk : bankF s 1 = s.b1 := rfl
  rw [hbk] at hc
  have hc' : w.cell? ⟨p, 2, none⟩ = some (.slice B s.b1.length d) := hc
  obtain ⟨q, hle⟩ : ∃ q, q = s.b1.length := ⟨_, rfl⟩
  obtain ⟨z, hz⟩ : ∃ z, z = s.size := ⟨_, rfl⟩
  have HQ := Lib.hid hle
  have HK := Lib.hid hk
  have HKP := Lib.hid (keepF_le s hk.vals)
  rw [← hle] at hc' hroom
  rw [← hz] at c0 hs hroom
  have i1 : decide ((z : Int) - q < m) = false := decide_eq_false (by omega)
  have hmc := hb.le; have hmx := hb.max
  have HB := Lib.hid (And.intro hb (And.intro hA hl))
  clear hle hz sb hc hbk hk hb hA hl
  cases hst : struckF s
  · rw [if_neg (by simp), if_neg (by simp)]
    have HST := Lib.hid hst
    have HL := Lib.hid (show ∃ l', l' = l ∧ m = l'.length from ⟨l, rfl, HB.out.2.2.symm⟩)
    clear hst
    go_enter Try.func23, Try.ntmps23
    go_wp2_with (first | (at_builtin; refine Stopped.out ?_) | (at_make; refine Stopped.out ?_))
    refine HA.out.mono ?_
    rintro e w' ⟨rfl, rfl⟩
    go_wp2
    go_quiet (fail)
    go_wp2_with (first | (at_builtin; refine Stopped.out ?_) | (at_make; refine Stopped.out ?_))
    have hbd : Below w.heap.size w (w.drewN nq) := below_drewN (Below.refl _ _) nq
    refine (flash_write _ (h.below hbd) HK.out.writes HK.out.count (by have := HK.out.armed; omega) HK.out.vals).mono ?_
    rintro e w1 ⟨rfl, hst⟩
    rw [HST.out]
    skip
    obtain ⟨G1, h1, hk1, hG1⟩ := hst.out
    have hkw : Keep G w w1 := (Keep.of_below hbd G).trans hk1
    have hb1 := HB.out.1.keepz hkw HB.out.2.1
    obtain ⟨v0, v1, va, hblk, r0, r1, ra, k0, k1, ka⟩ := h1.out
    rw [strikeF_b0] at r0
    rw [strikeF_b1] at r1
    obtain ⟨A0, c0', rfl, _, _⟩ := own_sl r1
    have d1 := box_cell hblk 2 (.slice A0 s.b1.length c0') rfl
    clear hst
    go_wp2_with (first | (at_builtin; refine Stopped.out ?_) | (at_make; refine Stopped.out ?_))
    refine Stopped.mk (apk_own EF rfl (.tmp 47) (.tmp 48) rfl rfl r1 rfl hb1 (u8_one l) (by simp only [maxLen]; have := HQ.out; show s.b1.length + m ≤ _; omega) (by have := HQ.out; show (s.b1.length + m) * 1 ≤ _; omega) (Nat.zero_le _) ?_)
    intro v' w2 o2 hg2 hv2
    rw [← List.map_append] at o2
    have o2' : w2.ownsRow 0 5 1 v' (s.b1 ++ l).length ((s.b1 ++ l).map by8) := by rw [List.length_append, HB.out.2.2]; exact o2
    have HF := Lib.hid (FStep.thn hkw (fun x hx => (hG1 x hx).imp id (fun h => h)) (h1.app1 hblk (by rw [strikeF_b0]; exact r0) ra k0 k1 ka o2' hg2 hv2))
    have hpb : w2.heap[p]? = _ := (hg2.block p (h1.lts p h1.mem) (fun e => (k1 p e.symm).1 rfl)).trans hblk
    have e1 := box_cell hpb 2 _ rfl
    have f1 := box_free hpb 2
    obtain ⟨A2, c2, rfl, _, _⟩ := own_sl o2'
    clear hblk r0 r1 ra o2 o2' hg2 hv2 hpb d1
    go_wp2
    go_ret
    exact ⟨rfl, by simpa [addB, strikeF_b1] using HF.out⟩
  · rw [if_pos rfl, if_pos rfl]
    have HST := Lib.hid hst
    clear hst
    obtain ⟨kp, hkp⟩ : ∃ kp, kp = keepF s := ⟨_, rfl⟩
    have HKE := Lib.hid hkp
    have hkb : kp ≤ 1048576 := by rw [hkp]; exact HKP.out
    obtain ⟨m', hm'⟩ : ∃ m', m' = min kp m := ⟨_, rfl⟩
    have hmm : m' ≤ m := by omega
    have hM : ∀ (ats : Array TypeId) (ty : TypeId) (w : World), (Builtin.min_ ats ty #[.int .i64 (kp : Int), .int .i64 (m : Int)]).run Try.prog w = .ok (.int .i64 (m' : Int)) w := fun ats ty w => by rw [show (m' : Int) = min (kp : Int) (m : Int) by omega]; exact run_min _ _ ats ty w
    have HT : Hid (l.take m' = l.take kp ∧ (l.take kp).length = m') := Lib.hid (by
      have := HB.out.2.2
      refine ⟨?_, by simp; omega⟩
      rw [hm']
      rcases Nat.lt_or_ge kp m with h1 | h1
      · rw [Nat.min_eq_left (by omega)]
      · rw [Nat.min_eq_right h1, List.take_of_length_le (by omega), List.take_of_length_le (by omega)])
    rw [← hkp]
    have iq0 : (0 : Int) ≤ (m' : Int) := Int.natCast_nonneg _
    have iq1 : (m' : Int) ≤ (c : Int) := by omega
    clear hkp hm'
    go_enter Try.func23, Try.ntmps23
    go_wp2_with (first | (at_builtin; refine Stopped.out ?_) | (at_make; refine Stopped.out ?_))
    refine HA.out.mono ?_
    rintro e w' ⟨rfl, rfl⟩
    go_wp2
    go_quiet (fail)
    go_wp2_with (first | (at_builtin; refine Stopped.out ?_) | (at_make; refine Stopped.out ?_))
    have hbd : Below w.heap.size w (w.drewN nq) := below_drewN (Below.refl _ _) nq
    refine (flash_write _ (h.below hbd) HK.out.writes HK.out.count (by have := HK.out.armed; omega) HK.out.vals).mono ?_
    rintro e w1 ⟨rfl, hst⟩
    rw [HST.out]
    rw [← HKE.out]
    obtain ⟨G1, h1, hk1, hG1⟩ := hst.out
    have hkw : Keep G w w1 := (Keep.of_below hbd G).trans hk1
    have hb1 := HB.out.1.keepz hkw HB.out.2.1
    obtain ⟨v0, v1, va, hblk, r0, r1, ra, k0, k1, ka⟩ := h1.out
    rw [strikeF_b0] at r0
    rw [strikeF_b1] at r1
    obtain ⟨A0, c0', rfl, _, _⟩ := own_sl r1
    have d1 := box_cell hblk 2 (.slice A0 s.b1.length c0') rfl
    clear hst
    go_wp2_with (first | (at_builtin; refine Stopped.out ?_) | (at_make; refine Stopped.out ?_))
    refine Stopped.mk (apk_own EF rfl (.tmp 47) (.tmp 48) rfl rfl r1 rfl (HT.out.1 ▸ hb1.preB hmm) (u8_one (l.take kp)) (by simp only [maxLen]; have := HQ.out; show s.b1.length + m' ≤ _; omega) (by have := HQ.out; show (s.b1.length + m') * 1 ≤ _; omega) (Nat.zero_le _) ?_)
    intro v' w2 o2 hg2 hv2
    rw [← List.map_append] at o2
    have o2' : w2.ownsRow 0 5 1 v' (s.b1 ++ (l.take kp)).length ((s.b1 ++ (l.take kp)).map by8) := by rw [List.length_append, HT.out.2]; exact o2
    have HF := Lib.hid (FStep.thn hkw (fun x hx => (hG1 x hx).imp id (fun h => h)) (h1.app1 hblk (by rw [strikeF_b0]; exact r0) ra k0 k1 ka o2' hg2 hv2))
    have hpb : w2.heap[p]? = _ := (hg2.block p (h1.lts p h1.mem) (fun e => (k1 p e.symm).1 rfl)).trans hblk
    have e1 := box_cell hpb 2 _ rfl
    have f1 := box_free hpb 2
    obtain ⟨A2, c2, rfl, _, _⟩ := own_sl o2'
    clear hblk r0 r1 ra o2 o2' hg2 hv2 hpb d1
    go_wp2
    go_ret
    exact ⟨rfl, by simpa [addB, strikeF_b1] using HF.out⟩
end Go.Proofs.Ytpjmbhhfpoamnaa
