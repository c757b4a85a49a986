import Derived.Test.YtdooabbeolfgfaaHeads
set_option linter.unusedVariables false
set_option linter.unusedSimpArgs false
namespace Go.Proofs.Ytdooabbeolfgfaa
open Go.RowKit
theorem roomL_len (l : List UInt8) : (roomL l).length = l.length + 64 := by simp [roomL]
theorem roomL_take (l : List UInt8) {n : Nat} (h : l.length = n) : (roomL l).take n = l := by
  unfold roomL
  rw [List.take_append_of_le_length (by omega), List.take_of_length_le (by omega)]
theorem set_by (l : List UInt8) (i q : Nat) : (l.map by8).set i (.int .u8 ((q % 256 : Nat) : Int)) = (l.set i (UInt8.ofNat q)).map by8 := by
  rw [List.map_set]; congr 1
set_option maxRecDepth 100000 in
set_option maxHeartbeats 3200000 in
theorem WireHeads_walk (W : World) (d : Int) (B : Option Addr) (n c : Nat) (l : List UInt8) (ha : Sl W 1 B n c (l.map by8)) (hn0 : n ≤ 140737488351232) :
    Calls Try.prog 6 #[.int .i64 d, .slice B n c] W fun e w' => e = .returned (.bool true) ∧ Below W.heap.size W w' := by
  have hla : l.length = n := by simpa using ha.len
  have hc1 := ha.le; have hc2 := ha.max
  go_enter Try.func6, Try.ntmps6
  by_cases hbig : 100000 < n
  · go_wp2
    go_ret
    exact ⟨rfl, Below.refl _ _⟩
  · have hn : n ≤ 100000 := by omega
    have HL := Lib.hid hla
    clear hbig hn0 hla
    go_wp2_with (first | (at_builtin; refine Stopped.out ?_) | (at_make; refine Stopped.out ?_))
    refine (roomy09 _ ha (by omega)).mono ?_
    rintro e w1 ⟨v, rfl, o1, hb1⟩
    obtain ⟨g1, c1, rfl, hg1, _, _⟩ := own_form o1 (by omega)
    obtain ⟨_, s1, _⟩ := own_sl' o1
    have q1 := s1.le; have q2 := s1.max
    have p1 := s1.preB (m := n) (by omega)
    rw [roomL_take l HL.out] at p1
    have a1 := ha.below hb1
    have HO1 := Lib.hid o1
    clear s1 o1
    go_wp2_with (first | (at_builtin; refine Stopped.out ?_) | (at_make; refine Stopped.out ?_))
    refine (ReadHead_any _ p1).mono ?_
    rintro e w2 ⟨rfl, hb2⟩
    have hB2 := bthen hb1 hb2
    have a2 := a1.below hb2
    clear p1
    go_wp2_with (first | (at_builtin; refine Stopped.out ?_) | (at_make; refine Stopped.out ?_))
    refine (refReadHead_any _ a2).mono ?_
    rintro e w' ⟨rfl, rfl⟩
    obtain ⟨x1, hx1⟩ : ∃ x, x = rdD l := ⟨_, rfl⟩
    obtain ⟨x2, hx2⟩ : ∃ x, x = rdN l := ⟨_, rfl⟩
    obtain ⟨x3, hx3⟩ : ∃ x, x = rdE l := ⟨_, rfl⟩
    rw [← hx1, ← hx2, ← hx3]
    clear hx1 hx2 hx3
    have f1 : ((x1 : Int) != x1) = false := by simp
    have f2 : ((x2 : Int) != x2) = false := by simp
    have f3 : ((x3 : Int) != x3) = false := by simp
    go_wp2_with (first | (at_builtin; refine Stopped.out ?_) | (at_make; refine Stopped.out ?_))
    refine (roomy09 _ a2 (by omega)).mono ?_
    clear f1 f2 f3
    rintro e w3 ⟨v, rfl, o3, hb3⟩
    obtain ⟨A3, c3, rfl, s3, _⟩ := own_sl o3
    have hB3 := bthen hB2 hb3
    have a3 := a2.below hb3
    have HO3 := Lib.hid (own_below HO1.out (bthen hb2 hb3))
    have s13 := (own_sl' HO3.out).2.1
    go_wp2_with (first | (at_builtin; refine Stopped.out ?_) | (at_make; refine Stopped.out ?_))
    refine (same09 _ s13 s3).mono ?_
    rintro e w4 ⟨rfl, hd⟩
    rw [decide_eq_true rfl]
    have hB4 := bthen hB3 hd.below
    have a4 := a3.below hd.below
    have HO4 := Lib.hid (own_below HO3.out hd.below)
    clear s13 s3 o3 hd hB3 HO3 a3 hb3 a1 a2
    go_wp2_with (first | (at_builtin; refine Stopped.out ?_) | (at_make; refine Stopped.out ?_))
    refine (Head_any _ d).mono ?_
    rintro e w5 ⟨A5, n5, c5, rfl, s5, hb5⟩
    have hB5 := bthen hB4 hb5
    have a5 := a4.below hb5
    have HO5 := Lib.hid (own_below HO4.out hb5)
    clear HO4 hB4 a4 hb5
    go_wp2_with (first | (at_builtin; refine Stopped.out ?_) | (at_make; refine Stopped.out ?_))
    refine (refHead_any _ d).mono ?_
    rintro e w6 ⟨A6, n6, c6, rfl, s6, hb6⟩
    have hB6 := bthen hB5 hb6
    have a6 := a5.below hb6
    have s56 := s5.below hb6
    have HO6 := Lib.hid (own_below HO5.out hb6)
    clear HO5 hB5 a5 hb6 s5
    go_wp2_with (first | (at_builtin; refine Stopped.out ?_) | (at_make; refine Stopped.out ?_))
    refine (same09 _ s56 s6).mono ?_
    rintro e w7 ⟨rfl, hd⟩
    rw [decide_eq_true rfl]
    have hB7 := bthen hB6 hd.below
    have a7 := a6.below hd.below
    have HO7 := Lib.hid (own_below HO6.out hd.below)
    clear HO6 hB6 a6 hd s6 s56
    by_cases h4 : n < 4
    · have i4 : (n : Int) < 4 := by omega
      clear h4
      go_wp2
      go_ret
      exact ⟨rfl, hB7⟩
    · have i4 : decide ((n : Int) < 4) = false := decide_eq_false (by omega)
      have s7 := (own_sl' HO7.out).2.1
      have g3 := s7.byte 3 (by omega)
      rw [Nat.zero_add] at g3
      have hf3 := HO7.out.frozenAt 3
      obtain ⟨q, hq⟩ : ∃ q, q = bt (roomL l) 3 := ⟨_, rfl⟩
      have hq2 : q < 256 := by rw [hq]; exact bt_lt _ 3
      rw [← hq] at g3
      have hw : IntKind.u8.wrap ((q : Int) + 1) = (((q + 1) % 256 : Nat) : Int) := by rw [IntKind.wrap_u8]; omega
      have i5 : (3 : Int) < n := by omega
      have hst := HO7.out.stored 3 (.int .u8 (((q + 1) % 256 : Nat) : Int))
      rw [set_by] at hst
      have hqq : (((q + 1) % 256 : Nat) : Int) = ((q : Int) + 1) % 256 := by omega
      rw [hqq] at hst
      clear hqq
      have hB8 : Below W.heap.size W (w7.setCell ⟨g1, 3, none⟩ (.int .u8 (((q : Int) + 1) % 256))) := hB7.setCell hg1 _
      have HW8 := Lib.hid (And.intro hst.1 hB8)
      clear hst hB8
      have i6 : (3 : Int) < n + 64 := by omega
      clear hq s7
      go_wp2_with fail
      obtain ⟨w8, hw8⟩ : ∃ w8, w8 = w7.setCell ⟨g1, 3, none⟩ (.int .u8 (((q : Int) + 1) % 256)) := ⟨_, rfl⟩
      have HW9 := HW8.out
      rw [← hw8] at HW9 ⊢
      clear HW8 hw8 g3 hf3 hw
      obtain ⟨o8, hB8⟩ := HW9
      have p8 := (own_sl' o8).2.1.preB (m := n) (by omega)
      rw [List.take_set, roomL_take l HL.out] at p8
      obtain ⟨l2, hl2⟩ : ∃ l2, l2 = l.set 3 (UInt8.ofNat (q + 1)) := ⟨_, rfl⟩
      have HL2 : Hid (l2.length = n) := Lib.hid (by rw [hl2, List.length_set]; exact HL.out)
      rw [← hl2] at p8
      clear hl2 o8
      refine (ReadHead_any _ p8).mono ?_
      rintro e w9 ⟨rfl, hb9⟩
      have hB9 := bthen hB8 hb9
      have p9 := p8.below hb9
      clear p8 hb9
      go_wp2_with (first | (at_builtin; refine Stopped.out ?_) | (at_make; refine Stopped.out ?_))
      refine Stopped.mk (ap_own EB rfl (.tmp 79) (.tmp 83) rfl rfl (World.ownsRow_lit (base := w9.heap.size) _ #[] 0 (by simp) (by decide) rfl) rfl (p9.alloc _) (u8_one l2) (by simp only [maxLen]; omega) (by omega) (by simp) ?_)
      intro v10 w10 o10 hg10 _
      have hb10 : Below w9.heap.size w9 w10 := ((Below.refl _ w9).alloc (Nat.le_refl _) _).grown hg10 (by simp) (fun k hk => (Option.some.inj hk) ▸ Nat.le_refl _)
      have hB10 := bthen hB9 hb10
      rw [List.nil_append, Nat.zero_add] at o10
      obtain ⟨A10, c10, rfl, s10, _⟩ := own_sl o10
      clear hg10 o10 hb10 hB9 p9
      go_wp2_with (first | (at_builtin; refine Stopped.out ?_) | (at_make; refine Stopped.out ?_))
      refine (refReadHead_any _ s10).mono ?_
      rintro e w' ⟨rfl, rfl⟩
      obtain ⟨y1, hx1⟩ : ∃ x, x = rdD l2 := ⟨_, rfl⟩
      obtain ⟨y2, hx2⟩ : ∃ x, x = rdN l2 := ⟨_, rfl⟩
      obtain ⟨y3, hx3⟩ : ∃ x, x = rdE l2 := ⟨_, rfl⟩
      rw [← hx1, ← hx2, ← hx3]
      clear hx1 hx2 hx3
      go_wp2
      go_ret
      exact ⟨by simp, hB10⟩
end Go.Proofs.Ytdooabbeolfgfaa
