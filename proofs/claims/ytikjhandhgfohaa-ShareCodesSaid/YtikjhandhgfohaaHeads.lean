import Derived.Test.YtikjhandhgfohaaBits3
import Derived.Test.YtikjhandhgfohaaSame
import Derived.Deep.RegionHeld3
set_option linter.unusedVariables false
set_option linter.unusedSimpArgs false
namespace Go.Proofs.Ytikjhandhgfohaa
open Go.RowKit

/-! ### heads -/
def headL (d : Nat) : List UInt8 := [70, 66, 1, UInt8.ofNat d]
def headI (d : Int) : List UInt8 := if 1 ≤ d ∧ d ≤ 255 then headL d.toNat else []
def HeadPost (w : World) (d : Int) (e : Ending) (w' : World) : Prop := ∃ A n c, e = .returned (.slice A n c) ∧ Sl w' 1 A n c ((headI d).map by8) ∧ Below w.heap.size w w'
theorem headL_by (d : Nat) (h : d ≤ 255) : [Value.int .u8 70, .int .u8 66, .int .u8 1, .int .u8 (d : Int)] = (headL d).map by8 := by
  simp [headL, by8]; omega
theorem Head_yes (w : World) (d : Nat) (h1 : 1 ≤ d) (h2 : d ≤ 255) :
    Calls Try.prog 17 #[.int .i64 d] w fun e w' => e = .returned (.slice (some ⟨w.heap.size, 0, none⟩) 4 4) ∧ Sl w' 1 (some ⟨w.heap.size, 0, none⟩) 4 4 ((headL d).map by8) ∧ Below w.heap.size w w' := by
  have HH := Lib.hid (headL_by d h2)
  go_enter Try.func17, Try.ntmps17
  go_wp2
  go_ret
  exact ⟨rfl, by rw [← HH.out]; exact Sl.fresh w [_, _, _, _] 5 4 1 rfl (by decide), (Below.refl _ _).alloc (Nat.le_refl _) _⟩
theorem Head_no (w : World) (d : Int) (h : d < 1 ∨ 255 < d) :
    Calls Try.prog 17 #[.int .i64 d] w fun e w' => e = .returned (.slice none 0 0) ∧ w = w' := by
  go_enter Try.func17, Try.ntmps17
  rcases h with h | h
  · go_wp2
    go_ret
    exact ⟨rfl, rfl⟩
  · by_cases h2 : d < 1
    · clear h
      go_wp2
      go_ret
      exact ⟨rfl, rfl⟩
    · go_wp2
      go_ret
      exact ⟨rfl, rfl⟩
theorem Head_any (w : World) (d : Int) : Calls Try.prog 17 #[.int .i64 d] w (HeadPost w d) := by
  by_cases h : 1 ≤ d ∧ d ≤ 255
  · obtain ⟨k, rfl⟩ : ∃ k : Nat, d = (k : Int) := ⟨d.toNat, by omega⟩
    refine (Head_yes w k (by omega) (by omega)).mono ?_
    rintro e w' ⟨rfl, s, b⟩
    exact ⟨_, _, _, rfl, by rw [headI, if_pos h]; exact s, b⟩
  · refine (Head_no w d (by omega)).mono ?_
    rintro e w' ⟨rfl, rfl⟩
    exact ⟨_, _, _, rfl, by rw [headI, if_neg h]; exact Sl.nilS _ _, Below.refl _ _⟩
theorem refHead_yes (w : World) (d : Nat) (h1 : 1 ≤ d) (h2 : d ≤ 255) :
    Calls Try.prog 23 #[.int .i64 d] w fun e w' => e = .returned (.slice (some ⟨w.heap.size, 0, none⟩) 4 4) ∧ Sl w' 1 (some ⟨w.heap.size, 0, none⟩) 4 4 ((headL d).map by8) ∧ Below w.heap.size w w' := by
  have HH := Lib.hid (headL_by d h2)
  go_enter Try.func23, Try.ntmps23
  go_wp2
  go_ret
  exact ⟨rfl, by rw [← HH.out]; exact Sl.fresh w [_, _, _, _] 5 4 1 rfl (by decide), (Below.refl _ _).alloc (Nat.le_refl _) _⟩
theorem refHead_no (w : World) (d : Int) (h : d < 1 ∨ 255 < d) :
    Calls Try.prog 23 #[.int .i64 d] w fun e w' => e = .returned (.slice none 0 0) ∧ w = w' := by
  go_enter Try.func23, Try.ntmps23
  rcases h with h | h
  · go_wp2
    go_ret
    exact ⟨rfl, rfl⟩
  · by_cases h2 : d < 1
    · clear h
      go_wp2
      go_ret
      exact ⟨rfl, rfl⟩
    · go_wp2
      go_ret
      exact ⟨rfl, rfl⟩
theorem refHead_any (w : World) (d : Int) : Calls Try.prog 23 #[.int .i64 d] w (HeadPost w d) := by
  by_cases h : 1 ≤ d ∧ d ≤ 255
  · obtain ⟨k, rfl⟩ : ∃ k : Nat, d = (k : Int) := ⟨d.toNat, by omega⟩
    refine (refHead_yes w k (by omega) (by omega)).mono ?_
    rintro e w' ⟨rfl, s, b⟩
    exact ⟨_, _, _, rfl, by rw [headI, if_pos h]; exact s, b⟩
  · refine (refHead_no w d (by omega)).mono ?_
    rintro e w' ⟨rfl, rfl⟩
    exact ⟨_, _, _, rfl, by rw [headI, if_neg h]; exact Sl.nilS _ _, Below.refl _ _⟩

/-- bytes that begin with a head -/
def IsHead (l : List UInt8) : Prop := 4 ≤ l.length ∧ bt l 3 ≠ 0 ∧ bt l 0 = 70 ∧ bt l 1 = 66 ∧ bt l 2 = 1
instance (l : List UInt8) : Decidable (IsHead l) := by unfold IsHead; infer_instance
def rdD (l : List UInt8) : Nat := if IsHead l then bt l 3 else 0
def rdN (l : List UInt8) : Nat := if IsHead l then 4 else 0
def rdE (l : List UInt8) : Nat := if IsHead l then 0 else 90
theorem isHead_iff (l : List UInt8) (h : 4 ≤ l.length) (h3 : bt l 3 ≠ 0) : (l.take 4 = headL (bt l 3)) ↔ IsHead l := by
  constructor
  · intro e
    have g : ∀ i, i < 4 → bt l i = bt (headL (bt l 3)) i := fun i hi => by rw [← e, bt_take _ _ _ hi]
    exact ⟨h, h3, g 0 (by decide), g 1 (by decide), g 2 (by decide)⟩
  · rintro ⟨_, _, h0, h1, h2⟩
    have hb := bt_lt l 3
    refine bt_ext (by simp [headL]; omega) ?_
    intro i hi
    have hi4 : i < 4 := by simp at hi; omega
    rw [bt_take _ _ _ hi4]
    rcases i with _ | _ | _ | _ | i
    · rw [h0]; rfl
    · rw [h1]; rfl
    · rw [h2]; rfl
    · generalize bt l 3 = q at *
      simp [bt, headL, Nat.mod_eq_of_lt hb]
    · omega
set_option maxHeartbeats 1600000 in
set_option maxRecDepth 100000 in
theorem ReadHead_any (w : World) {A : Option Addr} {n c : Nat} {l : List UInt8} (ha : Sl w 1 A n c (l.map by8)) :
    Calls Try.prog 27 #[.slice A n c] w fun e w' => e = .returned (.tuple #[.int .i64 (rdD l), .int .i64 (rdN l), .int .i64 (rdE l)]) ∧ Below w.heap.size w w' := by
  have hla : l.length = n := by simpa using ha.len
  have h1 := ha.le; have h2 := ha.max
  by_cases h4 : n < 4
  · have HD : Hid (rdD l = 0 ∧ rdN l = 0 ∧ rdE l = 90) := Lib.hid (by
      have : ¬ IsHead l := fun h => by have := h.1; omega
      simp [rdD, rdN, rdE, this])
    clear hla
    have i4 : (n : Int) < 4 := by omega
    go_enter Try.func27, Try.ntmps27
    go_wp2
    go_quiet (fail)
    go_wp2
    go_ret3
    exact ⟨by rw [HD.out.1, HD.out.2.1, HD.out.2.2] <;> rfl, below_drewN (Below.refl _ _) _⟩
  · obtain ⟨b, off, rfl⟩ := ha.form (by omega)
    have g := ha.byte 3 (by omega)
    have i4 : decide ((n : Int) < 4) = false := decide_eq_false (by omega)
    have i5 : (3 : Int) < n := by omega
    have i6 : (4 : Int) ≤ c := by omega
    by_cases h3 : bt l 3 = 0
    · have HD : Hid (rdD l = 0 ∧ rdN l = 0 ∧ rdE l = 90) := Lib.hid (by
        have : ¬ IsHead l := fun h => h.2.1 h3
        simp [rdD, rdN, rdE, this])
      have hz : (((bt l 3 : Nat) : Int) == 0) = true := by rw [h3]; rfl
      obtain ⟨q, hq⟩ : ∃ q, q = bt l 3 := ⟨_, rfl⟩
      rw [← hq] at g hz
      clear hla h3 hq
      go_enter Try.func27, Try.ntmps27
      go_wp2
      go_quiet (fail)
      go_wp2
      go_ret3
      exact ⟨by rw [HD.out.1, HD.out.2.1, HD.out.2.2] <;> rfl, below_drewN (Below.refl _ _) _⟩
    · obtain ⟨q, hq⟩ : ∃ q, q = bt l 3 := ⟨_, rfl⟩
      have hqb : q < 256 := by rw [hq]; exact bt_lt l 3
      have HI := Lib.hid (isHead_iff l (by omega) h3)
      have HQ := Lib.hid hq
      rw [← hq] at g h3
      clear hq
      have hz : ((q : Int) == 0) = false := by simp; omega
      have hw : IntKind.i64.wrap (q : Int) = q := by rw [IntKind.wrap_i64]; omega
      have s4 := ha.preB (m := 4) (by omega)
      have lt0 := cell_lt g
      simp only at lt0
      clear hla
      go_enter Try.func27, Try.ntmps27
      go_wp2
      go_region_held3 (fun w' => w'.cell? ⟨b, off + 3, none⟩ = some (.int .u8 (q : Int)))
        (first | exact cell_below (w := w.drew) g hb6 | exact cell_below (cell_below (w := w.drew) g hb6) hd.below | go_keep)
        (first
          | (go_at_call 17; refine (Head_yes _ q (by omega) (by omega)).mono ?_; rintro e w6 ⟨rfl, o6, hb6⟩)
          | (go_at_call 43; refine (Equal_any _ (s4.drew.below hb6) o6).mono ?_; rintro e w7 ⟨rfl, hd⟩))
      have hb7 : Below w.heap.size w w7 := bthen (bthen ((Below.refl _ _).drew) hb6) hd.below
      have HDec : decide (l.take 4 = headL q) = decide (IsHead l) := decide_eq_decide.2 (by rw [HQ.out]; exact HI.out)
      rw [HDec]
      clear HDec hd hb6 o6
      by_cases his : IsHead l
      · have HD : Hid (rdD l = q ∧ rdN l = 4 ∧ rdE l = 0) := Lib.hid (by simp [rdD, rdN, rdE, his, HQ.out])
        rw [decide_eq_true his]
        clear his
        go_wp2
        go_ret3
        exact ⟨by rw [HD.out.1, HD.out.2.1, HD.out.2.2] <;> rfl, hb7⟩
      · have HD : Hid (rdD l = 0 ∧ rdN l = 0 ∧ rdE l = 90) := Lib.hid (by simp [rdD, rdN, rdE, his])
        rw [decide_eq_false his]
        clear his
        go_wp2
        go_ret3
        exact ⟨by rw [HD.out.1, HD.out.2.1, HD.out.2.2] <;> rfl, hb7⟩
set_option maxRecDepth 100000 in
set_option maxHeartbeats 1600000 in
theorem refReadHead_any (w : World) {A : Option Addr} {n c : Nat} {l : List UInt8} (ha : Sl w 1 A n c (l.map by8)) :
    Calls Try.prog 33 #[.slice A n c] w fun e w' => e = .returned (.tuple #[.int .i64 (rdD l), .int .i64 (rdN l), .int .i64 (rdE l)]) ∧ w = w' := by
  have hla : l.length = n := by simpa using ha.len
  have h1 := ha.le; have h2 := ha.max
  by_cases h4 : n < 4
  · have HD : Hid (rdD l = 0 ∧ rdN l = 0 ∧ rdE l = 90) := Lib.hid (by
      have : ¬ IsHead l := fun h => by have := h.1; omega
      simp [rdD, rdN, rdE, this])
    clear hla
    have i4 : (n : Int) < 4 := by omega
    go_enter Try.func33, Try.ntmps33
    go_wp2
    go_ret3
    exact ⟨by rw [HD.out.1, HD.out.2.1, HD.out.2.2] <;> rfl, rfl⟩
  · obtain ⟨b, off, rfl⟩ := ha.form (by omega)
    have g0 := ha.byte 0 (by omega)
    have g1 := ha.byte 1 (by omega)
    have g2 := ha.byte 2 (by omega)
    have g3 := ha.byte 3 (by omega)
    rw [Nat.add_zero] at g0
    have i4 : decide ((n : Int) < 4) = false := decide_eq_false (by omega)
    have i5 : (3 : Int) < n := by omega
    have i6 : (0 : Int) < n := by omega
    have i7 : (1 : Int) < n := by omega
    have i8 : (2 : Int) < n := by omega
    have hw : IntKind.i64.wrap ((bt l 3 : Nat) : Int) = (bt l 3 : Nat) := by have := bt_lt l 3; rw [IntKind.wrap_i64]; omega
    have HI : Hid (IsHead l ↔ bt l 3 ≠ 0 ∧ bt l 0 = 70 ∧ bt l 1 = 66 ∧ bt l 2 = 1) := Lib.hid ⟨fun h => h.2, fun h => ⟨by omega, h⟩⟩
    have HQ : Hid (IsHead l → rdD l = bt l 3 ∧ rdN l = 4 ∧ rdE l = 0) := Lib.hid (fun h => by simp [rdD, rdN, rdE, h])
    have HN : Hid (¬ IsHead l → rdD l = 0 ∧ rdN l = 0 ∧ rdE l = 90) := Lib.hid (fun h => by simp [rdD, rdN, rdE, h])
    obtain ⟨q0, hq0⟩ : ∃ q, q = bt l 0 := ⟨_, rfl⟩
    obtain ⟨q1, hq1⟩ : ∃ q, q = bt l 1 := ⟨_, rfl⟩
    obtain ⟨q2, hq2⟩ : ∃ q, q = bt l 2 := ⟨_, rfl⟩
    obtain ⟨q3, hq3⟩ : ∃ q, q = bt l 3 := ⟨_, rfl⟩
    rw [← hq0] at g0 HI; rw [← hq1] at g1 HI; rw [← hq2] at g2 HI; rw [← hq3] at g3 HI hw HQ
    clear hq0 hq1 hq2 hq3 hla
    go_enter Try.func33, Try.ntmps33
    by_cases e0 : q0 = 70
    · have f0 : ((q0 : Int) != 70) = false := by simp; omega
      by_cases e1 : q1 = 66
      · have f1 : ((q1 : Int) != 66) = false := by simp; omega
        by_cases e2 : q2 = 1
        · have f2 : ((q2 : Int) != 1) = false := by simp; omega
          by_cases e3 : q3 = 0
          · have f3 : ((q3 : Int) == 0) = true := by simp; omega
            have HD := Lib.hid (HN.out (by rw [HI.out]; omega))
            clear e0 e1 e2 e3
            go_wp2
            go_ret3
            exact ⟨by rw [HD.out.1, HD.out.2.1, HD.out.2.2] <;> rfl, rfl⟩
          · have f3 : ((q3 : Int) == 0) = false := by simp; omega
            have HD := Lib.hid (HQ.out (by rw [HI.out]; omega))
            clear e0 e1 e2 e3
            go_wp2
            go_ret3
            exact ⟨by rw [HD.out.1, HD.out.2.1, HD.out.2.2] <;> rfl, rfl⟩
        · have f2 : ((q2 : Int) != 1) = true := by simp; omega
          have HD := Lib.hid (HN.out (by rw [HI.out]; omega))
          clear e0 e1 e2
          go_wp2
          go_ret3
          exact ⟨by rw [HD.out.1, HD.out.2.1, HD.out.2.2] <;> rfl, rfl⟩
      · have f1 : ((q1 : Int) != 66) = true := by simp; omega
        have HD := Lib.hid (HN.out (by rw [HI.out]; omega))
        clear e0 e1
        go_wp2
        go_ret3
        exact ⟨by rw [HD.out.1, HD.out.2.1, HD.out.2.2] <;> rfl, rfl⟩
    · have f0 : ((q0 : Int) != 70) = true := by simp; omega
      have HD := Lib.hid (HN.out (by rw [HI.out]; omega))
      clear e0
      go_wp2
      go_ret3
      exact ⟨by rw [HD.out.1, HD.out.2.1, HD.out.2.2] <;> rfl, rfl⟩

/-- what the law lays with room behind it -/
def roomL (l : List UInt8) : List UInt8 := l ++ List.replicate 64 201
end Go.Proofs.Ytikjhandhgfohaa
