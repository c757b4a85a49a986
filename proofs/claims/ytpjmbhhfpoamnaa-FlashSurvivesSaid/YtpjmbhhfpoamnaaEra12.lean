import Derived.Test.YtpjmbhhfpoamnaaMay12
set_option linter.unusedVariables false
set_option linter.unusedSimpArgs false
namespace Go.Proofs.Ytpjmbhhfpoamnaa
open Go.RowKit
/-- what an Erase may leave -/
def EraP (was now : List UInt8) (e : Nat) (struck : Bool) : Prop := if e = 0 then now = [] else if e = 121 ∧ struck = true then now = [] ∨ ∃ k, k ≤ was.length ∧ now = List.replicate k 255 ++ was.drop k else was = now
set_option maxRecDepth 100000 in
set_option maxHeartbeats 400000 in
theorem erased_same (w : World) {A B : Option Addr} {n c m d : Nat} {was now : List UInt8} (ha : Sl w 1 A n c (was.map by8)) (hb : Sl w 1 B m d (now.map by8)) (e : Nat) (struck : Bool) (h0 : e ≠ 0) (hs : ¬ (e = 121 ∧ struck = true)) (h : was = now) :
    Calls Try.prog 80 #[.slice A n c, .slice B m d, .int .i64 e, .bool struck] w fun e w' => e = .returned (.bool true) ∧ Drawn w w' := by
  have q1 : ((e : Int) == 0) = false := by simp; omega
  have HS := Lib.hid (same12 w ha hb)
  have h1 := ha.le; have h2 := ha.max; have h3 := hb.le; have h4 := hb.max
  have HD : Hid (decide (was = now) = true) := Lib.hid (decide_eq_true h)
  clear ha hb h
  by_cases h121 : e = 121
  · have q2 : ((e : Int) != 121) = false := by simp [h121]
    have hf : struck = false := by cases struck <;> simp_all
    subst hf
    clear h121 h0 hs
    go_enter Try.func80, Try.ntmps80
    go_wp2_with (first | (at_builtin; refine Stopped.out ?_) | (at_make; refine Stopped.out ?_))
    refine HS.out.mono ?_
    rintro e w1 ⟨rfl, hd⟩
    rw [HD.out]
    go_wp2
    go_ret
    exact ⟨rfl, hd⟩
  · have q2 : ((e : Int) != 121) = true := by simp; omega
    clear h121 h0 hs
    go_enter Try.func80, Try.ntmps80
    go_wp2_with (first | (at_builtin; refine Stopped.out ?_) | (at_make; refine Stopped.out ?_))
    refine HS.out.mono ?_
    rintro e w1 ⟨rfl, hd⟩
    rw [HD.out]
    go_wp2
    go_ret
    exact ⟨rfl, hd⟩
set_option maxRecDepth 100000 in
set_option maxHeartbeats 400000 in
theorem erased_nil (w : World) {A B : Option Addr} {n c d : Nat} (e : Nat) (struck : Bool) (hs : e = 0 ∨ (e = 121 ∧ struck = true)) :
    Calls Try.prog 80 #[.slice A n c, .slice B 0 d, .int .i64 e, .bool struck] w fun e w' => e = .returned (.bool true) ∧ Drawn w w' := by
  rcases hs with rfl | ⟨rfl, rfl⟩
  · go_enter Try.func80, Try.ntmps80
    go_wp2
    go_ret
    exact ⟨rfl, Drawn.refl _⟩
  · go_enter Try.func80, Try.ntmps80
    go_wp2
    go_ret
    exact ⟨rfl, Drawn.refl _⟩
set_option maxRecDepth 100000 in
set_option maxHeartbeats 400000 in
theorem erased_part (w : World) {A B : Option Addr} {m c d : Nat} {was now : List UInt8} (ha : Sl w 1 A m c (was.map by8)) (hb : Sl w 1 B m d (now.map by8)) (hm : m ≠ 0) (k : Nat) (hk : k ≤ was.length) (hnow : now = List.replicate k 255 ++ was.drop k) :
    Calls Try.prog 80 #[.slice A m c, .slice B m d, .int .i64 121, .bool true] w fun e w' => e = .returned (.bool true) ∧ Drawn w w' := by
  have hl : was.length = m := by simpa using ha.len
  have hr : now.length = m := by simpa using hb.len
  have h1 := ha.le; have h2 := ha.max; have h3 := hb.le; have h4 := hb.max
  have q1 : ((m : Int) == 0) = false := by simp; omega
  have HS := Lib.hid (And.intro ha (And.intro hb (And.intro (And.intro (And.intro hl hr) hnow) (And.intro h1 h3))))
  obtain ⟨b, off, rfl⟩ := hb.form (by omega)
  have hkm : k ≤ m := by omega
  clear ha hb hk hnow hl hr hm
  go_enter Try.func80, Try.ntmps80
  go_wp2_with (first | (at_builtin; refine Stopped.out ?_) | (at_make; refine Stopped.out ?_))
  go_loopw [9] (fun i wr => ∃ (j : Nat), j ≤ m ∧ i = .int .i64 j ∧ Drawn w wr) (fun i _ => m - (intOf i).toNat)
  case atStart => exact ⟨0, Nat.zero_le _, rfl, by first | exact Drawn.refl _ | exact ⟨⟨_, rfl⟩⟩⟩
  case round =>
    obtain ⟨j, hj, rfl, hw⟩ := hrel
    have k0 : (0 : Int) ≤ (j : Int) := Int.natCast_nonneg _
    by_cases hlt : j < m
    · have k1 : (j : Int) < (m : Int) := by omega
      have hjn : j < now.length := by rw [HS.out.2.2.1.1.2]; exact hlt
      have g0 := (HS.out.2.1.below hw.below).cell j (by simpa using hjn)
      have g1 : wr.cell? ⟨b, off + j, none⟩ = some (by8 now[j]) := by rw [List.getElem_map] at g0; exact g0
      clear g0
      by_cases h255 : now[j] = 255
      · rw [h255] at g1
        have g2 : wr.cell? ⟨b, off + j, none⟩ = some (.int .u8 255) := g1
        clear g1 h255
        go_wp2
        first | go_roundw | refine ⟨?rel, ?measure⟩
        case rel => exact ⟨j + 1, by omega, by go_num, (by first | exact hw | (obtain ⟨t, rfl⟩ := hw.out; first | exact ⟨⟨_, rfl⟩⟩ | exact ⟨⟨_, World.drewN_drewN ..⟩⟩))⟩
        case measure => simp [intOf]; omega
      · have hkj : k ≤ j := by
          rcases Nat.lt_or_ge j k with h5 | h5
          · exact absurd (by have h6 := HS.out.2.2.1.2; simp [h6, List.getElem_append, h5]) h255
          · exact h5
        obtain ⟨x, hx⟩ : ∃ x, x = now[j].toNat := ⟨_, rfl⟩
        have g2 : wr.cell? ⟨b, off + j, none⟩ = some (.int .u8 x) := by rw [hx]; exact g1
        have q3 : ((x : Int) == 255) = false := by
          have : x ≠ 255 := fun h6 => h255 (UInt8.toNat_inj.1 (by rw [← hx, h6]; rfl))
          simp; omega
        clear g1 hx h255
        obtain ⟨A', hA', hPa⟩ := slice_piece A m c j (m - j) (by omega) HS.out.2.2.2.1 HS.out.1.nil (fun ad e h0 => (HS.out.1.at_ ad e (by rw [HS.out.1.len]; omega)).1)
        obtain ⟨B', hB', hPb⟩ := slice_piece (some ⟨b, off, none⟩) m d j (m - j) (by omega) HS.out.2.2.2.2 HS.out.2.1.nil (fun ad e h0 => (HS.out.2.1.at_ ad e (by rw [HS.out.2.1.len]; omega)).1)
        have hB2 : (if d = j then (some ⟨b, off, none⟩ : Option Addr) else some ⟨b, off + j, none⟩) = B' := by rw [← hB']; split <;> simp [Addr.add]
        clear hB'
        have hpa := hPa w was HS.out.1
        have hpb := hPb w now HS.out.2.1
        have heq : (now.drop j).take (m - j) = (was.drop j).take (m - j) := by rw [HS.out.2.2.1.2, List.drop_append, List.drop_replicate]; simp [hkj]
        rw [heq] at hpb
        have HP := Lib.hid (And.intro hpb hpa)
        clear hpa hpb heq hPa hPb
        have i2 : (j : Int) ≤ (m : Int) := by omega
        have hdd : Drawn w wr.drew := by obtain ⟨t, h⟩ := hw.out; exact ⟨⟨t + 1, by rw [h]; rfl⟩⟩
        have HM := Lib.hid ((same12 wr.drew (HP.out.1.below hdd.below) (HP.out.2.below hdd.below)).mono (fun e w' (h : _ ∧ _) => (show e = .returned (.bool true) ∧ Drawn wr.drew w' from ⟨by rw [h.1, decide_eq_true rfl], h.2⟩)))
        go_wp2_with fail
        go_region_held3 (fun _ => True) (exact True.intro) (first | (go_at_call 26; refine HM.out.mono ?_; rintro e w2 ⟨rfl, hd2⟩))
        go_wp2
        go_ret
        exact ⟨by simp, by obtain ⟨n1, h1⟩ := hdd.out; obtain ⟨n2, rfl⟩ := hd2.out; rw [h1]; exact ⟨⟨_, World.drewN_drewN ..⟩⟩⟩
    · obtain rfl : j = m := by omega
      have hkj := hkm
      obtain ⟨A', hA', hPa⟩ := slice_piece A j c j 0 (by omega) HS.out.2.2.2.1 HS.out.1.nil (fun ad e h0 => (HS.out.1.at_ ad e (by rw [HS.out.1.len]; omega)).1)
      obtain ⟨B', hB', hPb⟩ := slice_piece (some ⟨b, off, none⟩) j d j 0 (by omega) HS.out.2.2.2.2 HS.out.2.1.nil (fun ad e h0 => (HS.out.2.1.at_ ad e (by rw [HS.out.2.1.len]; omega)).1)
      have hB2 : (if d = j then (some ⟨b, off, none⟩ : Option Addr) else some ⟨b, off + j, none⟩) = B' := by rw [← hB']; split <;> simp [Addr.add]
      clear hB'
      have hpa := hPa w was HS.out.1
      have hpb := hPb w now HS.out.2.1
      have heq : (now.drop j).take 0 = (was.drop j).take 0 := by simp
      rw [heq] at hpb
      have HP := Lib.hid (And.intro hpb hpa)
      clear hpa hpb heq hPa hPb
      have i2 : (j : Int) ≤ (j : Int) := by omega
      have hdd : Drawn w wr.drew := by obtain ⟨t, h⟩ := hw.out; exact ⟨⟨t + 1, by rw [h]; rfl⟩⟩
      have HM := Lib.hid ((same12 wr.drew (HP.out.1.below hdd.below) (HP.out.2.below hdd.below)).mono (fun e w' (h : _ ∧ _) => (show e = .returned (.bool true) ∧ Drawn wr.drew w' from ⟨by rw [h.1, decide_eq_true rfl], h.2⟩)))
      go_wp2_with fail
      go_region_held3 (fun _ => True) (exact True.intro) (first | (go_at_call 26; refine HM.out.mono ?_; rintro e w2 ⟨rfl, hd2⟩))
      go_wp2
      go_ret
      exact ⟨by simp, by obtain ⟨n1, h1⟩ := hdd.out; obtain ⟨n2, rfl⟩ := hd2.out; rw [h1]; exact ⟨⟨_, World.drewN_drewN ..⟩⟩⟩
end Go.Proofs.Ytpjmbhhfpoamnaa
