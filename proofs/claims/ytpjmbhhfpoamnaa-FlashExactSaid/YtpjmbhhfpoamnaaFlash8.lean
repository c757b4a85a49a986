import Derived.Test.YtpjmbhhfpoamnaaFlash7
set_option linter.unusedVariables false
set_option linter.unusedSimpArgs false
namespace Go.Proofs.Ytpjmbhhfpoamnaa
open Go.RowKit
theorem Sl.keepz {M : List Nat} {w w' : World} {sz : Nat} {A : Option Addr} {n c : Nat} {vs : List Value} (h : Sl w sz A n c vs) (k : Keep M w w') (hM : ∀ ad, A = some ad → 0 < n → ad.block ∉ M) : Sl w' sz A n c vs := by
  by_cases h0 : 0 < n
  · exact h.keep k (fun ad e => hM ad e h0)
  · obtain rfl : n = 0 := by omega
    obtain rfl : vs = [] := List.eq_nil_of_length_eq_zero (by have := h.len; simpa using this)
    exact ⟨h.len, h.le, h.max, h.nil, fun ad e h2 => by simp at h2⟩
set_option maxRecDepth 100000 in
set_option maxHeartbeats 800000 in
theorem flash_Append_calm0 (w : World) {p : Nat} {G : List Nat} {s : FSt} (h : Fl w p G s) (hd : s.down = false) (ha0 : s.armed = []) (hw : s.writes ≤ 4611686018427387904) (hs : s.size ≤ 1048576) {A : Option Addr} {m c : Nat} {l : List UInt8} (hb : Sl w 1 A m c (l.map by8)) (hA : ∀ ad, A = some ad → 0 < m → ad.block ∉ G) (hroom : s.b0.length + m ≤ s.size) :
    Calls Try.prog 23 #[.pointer (some ⟨p, 0, none⟩), .int .i64 0, .slice A m c] w fun e w' => e = .returned (.int .i64 0) ∧ FStep w w' p G { s with writes := s.writes + 1, b0 := s.b0 ++ l } := by
  obtain ⟨B, d, hc, sb⟩ := h.bank 0 (by decide)
  have c0 := h.cellSize
  have hl : l.length = m := by simpa using hb.len
  have HA := Lib.hid (flash_at_yes w h 0 (by decide) hd)
  have HW := Lib.hid (fun w' : World => fun (e : w = w') => (e ▸ flash_write_calm w h ha0 hw))
  have hbk : bankF s 0 = s.b0 := rfl
  rw [hbk] at hc
  have hc' : w.cell? ⟨p, 1, none⟩ = some (.slice B s.b0.length d) := hc
  obtain ⟨q, hle⟩ : ∃ q, q = s.b0.length := ⟨_, rfl⟩
  obtain ⟨z, hz⟩ : ∃ z, z = s.size := ⟨_, rfl⟩
  have HQ := Lib.hid hle
  rw [← hle] at hc' hroom
  rw [← hz] at c0 hs hroom
  have i1 : decide ((z : Int) - q < m) = false := decide_eq_false (by omega)
  clear hle hz sb hc hbk
  go_enter Try.func23, Try.ntmps23
  go_wp2_with (first | (at_builtin; refine Stopped.out ?_) | (at_make; refine Stopped.out ?_))
  refine HA.out.mono ?_
  rintro e w' ⟨rfl, rfl⟩
  go_wp2
  go_quiet (fail)
  go_wp2_with (first | (at_builtin; refine Stopped.out ?_) | (at_make; refine Stopped.out ?_))
  have hbd : Below w.heap.size w (w.drewN nq) := below_drewN (Below.refl _ _) nq
  refine (flash_write_calm _ (h.below hbd) ha0 hw).mono ?_
  rintro e w1 ⟨rfl, hst⟩
  obtain ⟨G1, h1, hk1, hG1⟩ := hst.out
  have hkw : Keep G w w1 := (Keep.of_below hbd G).trans hk1
  have hb1 := hb.keepz hkw hA
  obtain ⟨v0, v1, va, hblk, r0, r1, ra, k0, k1, ka⟩ := h1.out
  obtain ⟨A0, c0', rfl, _, _⟩ := own_sl r0
  have d1 := box_cell hblk 1 (.slice A0 s.b0.length c0') rfl
  clear hst
  go_wp2_with (first | (at_builtin; refine Stopped.out ?_) | (at_make; refine Stopped.out ?_))
  refine Stopped.mk (apk_own EF rfl (.tmp 47) (.tmp 48) rfl rfl r0 rfl hb1 (u8_one l) (by simp only [maxLen]; have := HQ.out; show s.b0.length + m ≤ _; omega) (by have := HQ.out; show (s.b0.length + m) * 1 ≤ _; omega) (Nat.zero_le _) ?_)
  intro v' w2 o2 hg2 hv2
  rw [← List.map_append] at o2
  have o2' : w2.ownsRow 0 5 1 v' (s.b0 ++ l).length ((s.b0 ++ l).map by8) := by rw [List.length_append, hl]; exact o2
  have HF := Lib.hid (FStep.thn hkw (fun x hx => (hG1 x hx).imp id (fun h => h)) (h1.app0 hblk r1 ra k0 k1 ka o2' hg2 hv2))
  have hpb : w2.heap[p]? = _ := (hg2.block p (h1.lts p h1.mem) (fun e => (k0 p e.symm).1 rfl)).trans hblk
  have e1 := box_cell hpb 1 _ rfl
  have f1 := box_free hpb 1
  obtain ⟨A2, c2, rfl, _, _⟩ := own_sl o2'
  clear hblk r0 r1 ra o2 o2' hg2 hv2 hpb d1
  go_wp2
  go_ret
  exact ⟨rfl, by simpa [ha0, hd, hl] using HF.out⟩
set_option maxRecDepth 100000 in
set_option maxHeartbeats 800000 in
theorem flash_Append_calm1 (w : World) {p : Nat} {G : List Nat} {s : FSt} (h : Fl w p G s) (hd : s.down = false) (ha0 : s.armed = []) (hw : s.writes ≤ 4611686018427387904) (hs : s.size ≤ 1048576) {A : Option Addr} {m c : Nat} {l : List UInt8} (hb : Sl w 1 A m c (l.map by8)) (hA : ∀ ad, A = some ad → 0 < m → ad.block ∉ G) (hroom : s.b1.length + m ≤ s.size) :
    Calls Try.prog 23 #[.pointer (some ⟨p, 0, none⟩), .int .i64 1, .slice A m c] w fun e w' => e = .returned (.int .i64 0) ∧ FStep w w' p G { s with writes := s.writes + 1, b1 := s.b1 ++ l } := by
  obtain ⟨B, d, hc, sb⟩ := h.bank 1 (by decide)
  have c0 := h.cellSize
  have hl : l.length = m := by simpa using hb.len
  have HA := Lib.hid (flash_at_yes w h 1 (by decide) hd)
  have HW := Lib.hid (fun w' : World => fun (e : w = w') => (e ▸ flash_write_calm w h ha0 hw))
  have hbk : bankF s 1 = s.b1 := rfl
  rw [hbk] at hc
  have hc' : w.cell? ⟨p, 2, none⟩ = some (.slice B s.b1.length d) := hc
  obtain ⟨q, hle⟩ : ∃ q, q = s.b1.length := ⟨_, rfl⟩
  obtain ⟨z, hz⟩ : ∃ z, z = s.size := ⟨_, rfl⟩
  have HQ := Lib.hid hle
  rw [← hle] at hc' hroom
  rw [← hz] at c0 hs hroom
  have i1 : decide ((z : Int) - q < m) = false := decide_eq_false (by omega)
  clear hle hz sb hc hbk
  go_enter Try.func23, Try.ntmps23
  go_wp2_with (first | (at_builtin; refine Stopped.out ?_) | (at_make; refine Stopped.out ?_))
  refine HA.out.mono ?_
  rintro e w' ⟨rfl, rfl⟩
  go_wp2
  go_quiet (fail)
  go_wp2_with (first | (at_builtin; refine Stopped.out ?_) | (at_make; refine Stopped.out ?_))
  have hbd : Below w.heap.size w (w.drewN nq) := below_drewN (Below.refl _ _) nq
  refine (flash_write_calm _ (h.below hbd) ha0 hw).mono ?_
  rintro e w1 ⟨rfl, hst⟩
  obtain ⟨G1, h1, hk1, hG1⟩ := hst.out
  have hkw : Keep G w w1 := (Keep.of_below hbd G).trans hk1
  have hb1 := hb.keepz hkw hA
  obtain ⟨v0, v1, va, hblk, r0, r1, ra, k0, k1, ka⟩ := h1.out
  obtain ⟨A0, c0', rfl, _, _⟩ := own_sl r1
  have d1 := box_cell hblk 2 (.slice A0 s.b1.length c0') rfl
  clear hst
  go_wp2_with (first | (at_builtin; refine Stopped.out ?_) | (at_make; refine Stopped.out ?_))
  refine Stopped.mk (apk_own EF rfl (.tmp 47) (.tmp 48) rfl rfl r1 rfl hb1 (u8_one l) (by simp only [maxLen]; have := HQ.out; show s.b1.length + m ≤ _; omega) (by have := HQ.out; show (s.b1.length + m) * 1 ≤ _; omega) (Nat.zero_le _) ?_)
  intro v' w2 o2 hg2 hv2
  rw [← List.map_append] at o2
  have o2' : w2.ownsRow 0 5 1 v' (s.b1 ++ l).length ((s.b1 ++ l).map by8) := by rw [List.length_append, hl]; exact o2
  have HF := Lib.hid (FStep.thn hkw (fun x hx => (hG1 x hx).imp id (fun h => h)) (h1.app1 hblk r0 ra k0 k1 ka o2' hg2 hv2))
  have hpb : w2.heap[p]? = _ := (hg2.block p (h1.lts p h1.mem) (fun e => (k1 p e.symm).1 rfl)).trans hblk
  have e1 := box_cell hpb 2 _ rfl
  have f1 := box_free hpb 2
  obtain ⟨A2, c2, rfl, _, _⟩ := own_sl o2'
  clear hblk r0 r1 ra o2 o2' hg2 hv2 hpb d1
  go_wp2
  go_ret
  exact ⟨rfl, by simpa [ha0, hd, hl] using HF.out⟩
end Go.Proofs.Ytpjmbhhfpoamnaa
