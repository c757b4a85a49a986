import Derived.Test.YtpjmbhhfpoamnaaRefH
import Derived.Test.YtpjmbhhfpoamnaaPiece
set_option linter.unusedVariables false
set_option linter.unusedSimpArgs false
namespace Go.Proofs.Ytpjmbhhfpoamnaa
open Go.RowKit
set_option maxRecDepth 100000 in
set_option maxHeartbeats 1600000 in
/-- what Load makes, the size cut to its bounds -/
theorem ref_Load_at (w : World) (n : Int) (z : Nat) (hz : (n < 0 ∧ z = 0) ∨ (1048576 < n ∧ z = 1048576) ∨ (0 ≤ n ∧ n ≤ 1048576 ∧ n = z)) {A B : Option Addr} {m c k d : Nat} {l r : List UInt8} (ha : Sl w 1 A m c (l.map by8)) (hb : Sl w 1 B k d (r.map by8)) (hm : m ≤ 140737488351232) (hk : k ≤ 140737488351232) {Xs : List Nat} (hXs : ∀ x ∈ Xs, x < w.heap.size) :
    Calls Try.prog 42 #[.int .i64 n, .slice A m c, .slice B k d] w fun e w' => ∃ v, e = .returned (.agg v.toArray) ∧ RFl w' v ⟨z, l.take z, r.take z, [], 0, 0, false⟩ Xs ∧ Below w.heap.size w w' := by
  obtain ⟨w1, hw1⟩ : ∃ w1, w1 = w.alloc (.cells #[.int .i64 0, .slice none 0 0, .slice none 0 0, .slice none 0 0, .int .i64 0, .int .i64 0, .bool false] 37) := ⟨_, rfl⟩
  have hb1 : Below w.heap.size w w1 := by rw [hw1]; exact (Below.refl _ _).alloc (Nat.le_refl _) _
  have x0 : w1.heap[w.heap.size]? = some (.cells #[.int .i64 0, .slice none 0 0, .slice none 0 0, .slice none 0 0, .int .i64 0, .int .i64 0, .bool false] 37 (0, 0)) := by rw [hw1]; exact heap_alloc_new _ _
  have H1 := ref_upTo w1 (ha.below hb1) z hm
  have H2 := fun w2 (h : Below w1.heap.size w1 w2) => ref_upTo w2 ((hb.below hb1).below h) z hk
  obtain ⟨L1, hL1⟩ : ∃ L, L = l.take z := ⟨_, rfl⟩
  obtain ⟨L2, hL2⟩ : ∃ L, L = r.take z := ⟨_, rfl⟩
  rw [← hL1] at H1
  rw [← hL2] at H2
  rw [← hL1, ← hL2]
  have H1 := Lib.hid H1
  have H2 := Lib.hid H2
  clear hL1 hL2
  have HB := Lib.hid hb1
  have HW := Lib.hid (cell_lt (box_cell x0 0 _ rfl))
  clear ha hb hb1
  rcases hz with ⟨h, rfl⟩ | ⟨h, rfl⟩ | ⟨h0, h1, rfl⟩
  · go_enter Try.func42, Try.ntmps42
    go_wp2_with (first | (at_builtin; refine Stopped.out ?_) | (at_make; refine Stopped.out ?_))
    rw [← hw1]
    clear hw1
    refine H1.out.mono ?_
    rintro e w2 ⟨u1, rfl, o1, hb2⟩
    have HO := Lib.hid (And.intro o1 (And.intro hb2 (bthen HB.out hb2)))
    have x2 := heap_below x0 hb2
    obtain ⟨A1, c1, rfl, _, _⟩ := own_sl o1
    clear o1 hb2 x0 H1
    go_wp2_with (first | (at_builtin; refine Stopped.out ?_) | (at_make; refine Stopped.out ?_))
    refine (H2.out _ HO.out.2.1).mono ?_
    rintro e w3 ⟨u2, rfl, o2, hb3⟩
    obtain ⟨A2, c2, rfl, _, _⟩ := own_sl o2
    have x3 := heap_below x2 hb3
    have HP := Lib.hid (And.intro (own_below HO.out.1 hb3) (And.intro o2 (bthen HO.out.2.2 hb3)))
    have m0 : w3.cell? ⟨w.heap.size, 0, none⟩ = some (.int .i64 0) := box_cell x3 0 _ rfl
    have m1 : w3.cell? ⟨w.heap.size, 1, none⟩ = some (.slice none 0 0) := box_cell x3 1 _ rfl
    have m2 : w3.cell? ⟨w.heap.size, 2, none⟩ = some (.slice none 0 0) := box_cell x3 2 _ rfl
    have m3 : w3.cell? ⟨w.heap.size, 3, none⟩ = some (.slice none 0 0) := box_cell x3 3 _ rfl
    have m4 : w3.cell? ⟨w.heap.size, 4, none⟩ = some (.int .i64 0) := box_cell x3 4 _ rfl
    have m5 : w3.cell? ⟨w.heap.size, 5, none⟩ = some (.int .i64 0) := box_cell x3 5 _ rfl
    have m6 : w3.cell? ⟨w.heap.size, 6, none⟩ = some (.bool false) := box_cell x3 6 _ rfl
    have f0 := box_free x3 0
    have f1 := box_free x3 1
    have f2 := box_free x3 2
    have f3 := box_free x3 3
    have f4 := box_free x3 4
    have f5 := box_free x3 5
    have f6 := box_free x3 6
    have HX := Lib.hid x3
    clear o2 hb3 x2 x3 H2
    go_wp2
    have s7 := set7 (.int .i64 0) (.slice A1 L1.length c1) (.slice A2 L2.length c2) (.slice none 0 0) (.int .i64 0) (.int .i64 0) (.bool false) HX.out
    refine bodyPost_ret (results_cell_row (P := Try.prog) rfl _ _ _ _ _ _ _ (by rfl) s7.1 Try.underlying37 rfl (by kernel_rfl)) rfl ?_
    have hbx := s7.2.below HP.out.2.2 HP.out.2.2.size (fun x hx => by simp at hx; omega)
    have hsz := HB.out.size
    have hwl := cell_lt (box_cell HX.out 0 _ rfl)
    refine ⟨_, rfl, ⟨A1, A2, none, c1, c2, 0, rfl, (own_sl' HP.out.1).2.1.keep s7.2 (fun ad e hx => ?_), (own_sl' HP.out.2.1).2.1.keep s7.2 (fun ad e hx => ?_), Sl.nilS _ _, Ap.new hXs (fun ad e => Nat.le_trans HB.out.size ((own_sl' HP.out.1).2.2 ad e).1), Ap.new hXs (fun ad e => Nat.le_trans HO.out.2.2.size ((own_sl' HP.out.2.1).2.2 ad e).1), Ap.none⟩, hbx⟩
    · have h1 := ((own_sl' HP.out.1).2.2 ad e).1
      have h2 := HW.out
      simp at hx; omega
    · have h1 := ((own_sl' HP.out.2.1).2.2 ad e).1
      have h2 := HW.out
      have h3 := HO.out.2.1.size
      simp at hx; omega
  · have d0 : decide (n < 0) = false := decide_eq_false (by omega)
    go_enter Try.func42, Try.ntmps42
    go_wp2_with (first | (at_builtin; refine Stopped.out ?_) | (at_make; refine Stopped.out ?_))
    rw [← hw1]
    clear hw1
    refine H1.out.mono ?_
    rintro e w2 ⟨u1, rfl, o1, hb2⟩
    have HO := Lib.hid (And.intro o1 (And.intro hb2 (bthen HB.out hb2)))
    have x2 := heap_below x0 hb2
    obtain ⟨A1, c1, rfl, _, _⟩ := own_sl o1
    clear o1 hb2 x0 H1
    go_wp2_with (first | (at_builtin; refine Stopped.out ?_) | (at_make; refine Stopped.out ?_))
    refine (H2.out _ HO.out.2.1).mono ?_
    rintro e w3 ⟨u2, rfl, o2, hb3⟩
    obtain ⟨A2, c2, rfl, _, _⟩ := own_sl o2
    have x3 := heap_below x2 hb3
    have HP := Lib.hid (And.intro (own_below HO.out.1 hb3) (And.intro o2 (bthen HO.out.2.2 hb3)))
    have m0 : w3.cell? ⟨w.heap.size, 0, none⟩ = some (.int .i64 0) := box_cell x3 0 _ rfl
    have m1 : w3.cell? ⟨w.heap.size, 1, none⟩ = some (.slice none 0 0) := box_cell x3 1 _ rfl
    have m2 : w3.cell? ⟨w.heap.size, 2, none⟩ = some (.slice none 0 0) := box_cell x3 2 _ rfl
    have m3 : w3.cell? ⟨w.heap.size, 3, none⟩ = some (.slice none 0 0) := box_cell x3 3 _ rfl
    have m4 : w3.cell? ⟨w.heap.size, 4, none⟩ = some (.int .i64 0) := box_cell x3 4 _ rfl
    have m5 : w3.cell? ⟨w.heap.size, 5, none⟩ = some (.int .i64 0) := box_cell x3 5 _ rfl
    have m6 : w3.cell? ⟨w.heap.size, 6, none⟩ = some (.bool false) := box_cell x3 6 _ rfl
    have f0 := box_free x3 0
    have f1 := box_free x3 1
    have f2 := box_free x3 2
    have f3 := box_free x3 3
    have f4 := box_free x3 4
    have f5 := box_free x3 5
    have f6 := box_free x3 6
    have HX := Lib.hid x3
    clear o2 hb3 x2 x3 H2
    go_wp2
    have s7 := set7 (.int .i64 1048576) (.slice A1 L1.length c1) (.slice A2 L2.length c2) (.slice none 0 0) (.int .i64 0) (.int .i64 0) (.bool false) HX.out
    refine bodyPost_ret (results_cell_row (P := Try.prog) rfl _ _ _ _ _ _ _ (by rfl) s7.1 Try.underlying37 rfl (by kernel_rfl)) rfl ?_
    have hbx := s7.2.below HP.out.2.2 HP.out.2.2.size (fun x hx => by simp at hx; omega)
    have hsz := HB.out.size
    have hwl := cell_lt (box_cell HX.out 0 _ rfl)
    refine ⟨_, rfl, ⟨A1, A2, none, c1, c2, 0, rfl, (own_sl' HP.out.1).2.1.keep s7.2 (fun ad e hx => ?_), (own_sl' HP.out.2.1).2.1.keep s7.2 (fun ad e hx => ?_), Sl.nilS _ _, Ap.new hXs (fun ad e => Nat.le_trans HB.out.size ((own_sl' HP.out.1).2.2 ad e).1), Ap.new hXs (fun ad e => Nat.le_trans HO.out.2.2.size ((own_sl' HP.out.2.1).2.2 ad e).1), Ap.none⟩, hbx⟩
    · have h1 := ((own_sl' HP.out.1).2.2 ad e).1
      have h2 := HW.out
      simp at hx; omega
    · have h1 := ((own_sl' HP.out.2.1).2.2 ad e).1
      have h2 := HW.out
      have h3 := HO.out.2.1.size
      simp at hx; omega
  · have d0 : decide ((z : Int) < 0) = false := decide_eq_false (by omega)
    have d2 : decide (1048576 < (z : Int)) = false := decide_eq_false (by omega)
    go_enter Try.func42, Try.ntmps42
    go_wp2_with (first | (at_builtin; refine Stopped.out ?_) | (at_make; refine Stopped.out ?_))
    rw [← hw1]
    clear hw1
    refine H1.out.mono ?_
    rintro e w2 ⟨u1, rfl, o1, hb2⟩
    have HO := Lib.hid (And.intro o1 (And.intro hb2 (bthen HB.out hb2)))
    have x2 := heap_below x0 hb2
    obtain ⟨A1, c1, rfl, _, _⟩ := own_sl o1
    clear o1 hb2 x0 H1
    go_wp2_with (first | (at_builtin; refine Stopped.out ?_) | (at_make; refine Stopped.out ?_))
    refine (H2.out _ HO.out.2.1).mono ?_
    rintro e w3 ⟨u2, rfl, o2, hb3⟩
    obtain ⟨A2, c2, rfl, _, _⟩ := own_sl o2
    have x3 := heap_below x2 hb3
    have HP := Lib.hid (And.intro (own_below HO.out.1 hb3) (And.intro o2 (bthen HO.out.2.2 hb3)))
    have m0 : w3.cell? ⟨w.heap.size, 0, none⟩ = some (.int .i64 0) := box_cell x3 0 _ rfl
    have m1 : w3.cell? ⟨w.heap.size, 1, none⟩ = some (.slice none 0 0) := box_cell x3 1 _ rfl
    have m2 : w3.cell? ⟨w.heap.size, 2, none⟩ = some (.slice none 0 0) := box_cell x3 2 _ rfl
    have m3 : w3.cell? ⟨w.heap.size, 3, none⟩ = some (.slice none 0 0) := box_cell x3 3 _ rfl
    have m4 : w3.cell? ⟨w.heap.size, 4, none⟩ = some (.int .i64 0) := box_cell x3 4 _ rfl
    have m5 : w3.cell? ⟨w.heap.size, 5, none⟩ = some (.int .i64 0) := box_cell x3 5 _ rfl
    have m6 : w3.cell? ⟨w.heap.size, 6, none⟩ = some (.bool false) := box_cell x3 6 _ rfl
    have f0 := box_free x3 0
    have f1 := box_free x3 1
    have f2 := box_free x3 2
    have f3 := box_free x3 3
    have f4 := box_free x3 4
    have f5 := box_free x3 5
    have f6 := box_free x3 6
    have HX := Lib.hid x3
    clear o2 hb3 x2 x3 H2
    go_wp2
    have s7 := set7 (.int .i64 (z : Int)) (.slice A1 L1.length c1) (.slice A2 L2.length c2) (.slice none 0 0) (.int .i64 0) (.int .i64 0) (.bool false) HX.out
    refine bodyPost_ret (results_cell_row (P := Try.prog) rfl _ _ _ _ _ _ _ (by rfl) s7.1 Try.underlying37 rfl (by kernel_rfl)) rfl ?_
    have hbx := s7.2.below HP.out.2.2 HP.out.2.2.size (fun x hx => by simp at hx; omega)
    have hsz := HB.out.size
    have hwl := cell_lt (box_cell HX.out 0 _ rfl)
    refine ⟨_, rfl, ⟨A1, A2, none, c1, c2, 0, rfl, (own_sl' HP.out.1).2.1.keep s7.2 (fun ad e hx => ?_), (own_sl' HP.out.2.1).2.1.keep s7.2 (fun ad e hx => ?_), Sl.nilS _ _, Ap.new hXs (fun ad e => Nat.le_trans HB.out.size ((own_sl' HP.out.1).2.2 ad e).1), Ap.new hXs (fun ad e => Nat.le_trans HO.out.2.2.size ((own_sl' HP.out.2.1).2.2 ad e).1), Ap.none⟩, hbx⟩
    · have h1 := ((own_sl' HP.out.1).2.2 ad e).1
      have h2 := HW.out
      simp at hx; omega
    · have h1 := ((own_sl' HP.out.2.1).2.2 ad e).1
      have h2 := HW.out
      have h3 := HO.out.2.1.size
      simp at hx; omega
theorem ref_Load (w : World) (n : Int) {A B : Option Addr} {m c k d : Nat} {l r : List UInt8} (ha : Sl w 1 A m c (l.map by8)) (hb : Sl w 1 B k d (r.map by8)) (hm : m ≤ 140737488351232) (hk : k ≤ 140737488351232) {Xs : List Nat} (hXs : ∀ x ∈ Xs, x < w.heap.size) :
    Calls Try.prog 42 #[.int .i64 n, .slice A m c, .slice B k d] w fun e w' => ∃ v, e = .returned (.agg v.toArray) ∧ RFl w' v ⟨capF n, l.take (capF n), r.take (capF n), [], 0, 0, false⟩ Xs ∧ Below w.heap.size w w' :=
  ref_Load_at w n (capF n) (by have := capF_eq n; omega) ha hb hm hk hXs
set_option maxHeartbeats 800000 in
theorem ref_New (w : World) (n : Int) {Xs : List Nat} (hXs : ∀ x ∈ Xs, x < w.heap.size) :
    Calls Try.prog 27 #[.int .i64 n] w fun e w' => ∃ v, e = .returned (.agg v.toArray) ∧ RFl w' v ⟨capF n, [], [], [], 0, 0, false⟩ Xs ∧ Below w.heap.size w w' := by
  obtain ⟨w1, hw1⟩ : ∃ w1, w1 = w.alloc (.cells #[.int .i64 0, .slice none 0 0, .slice none 0 0, .slice none 0 0, .int .i64 0, .int .i64 0, .bool false] 37) := ⟨_, rfl⟩
  have hb1 : Below w.heap.size w w1 := by rw [hw1]; exact (Below.refl _ _).alloc (Nat.le_refl _) _
  have x0 : w1.heap[w.heap.size]? = some (.cells #[.int .i64 0, .slice none 0 0, .slice none 0 0, .slice none 0 0, .int .i64 0, .int .i64 0, .bool false] 37 (0, 0)) := by rw [hw1]; exact heap_alloc_new _ _
  have HL := Lib.hid (ref_Load w1 n (l := []) (r := []) (Sl.nilS w1 1) (Sl.nilS w1 1) (by decide) (by decide) (Xs := Xs) (fun x hx => Nat.lt_of_lt_of_le (hXs x hx) hb1.size))
  have HB := Lib.hid hb1
  clear hb1
  go_enter Try.func27, Try.ntmps27
  go_wp2_with (first | (at_builtin; refine Stopped.out ?_) | (at_make; refine Stopped.out ?_))
  rw [← hw1]
  clear hw1
  refine HL.out.mono ?_
  rintro e w2 ⟨v, rfl, hr, hb2⟩
  have x2 := heap_below x0 hb2
  obtain ⟨A, B, C, a, b, c, rfl, hA, hB, hC, hAp⟩ := hr.out
  have HAp := Lib.hid hAp
  clear hAp
  rw [refV_eq]
  simp only [List.take_nil, List.length_nil] at hA hB hC ⊢
  obtain ⟨z, hz⟩ : ∃ z, z = capF n := ⟨_, rfl⟩
  rw [← hz]
  have HZ := Lib.hid hz
  have HR := Lib.hid (And.intro hA (And.intro hB (And.intro hC (bthen HB.out hb2))))
  have m0 : w2.cell? ⟨w.heap.size, 0, none⟩ = some (.int .i64 0) := box_cell x2 0 _ rfl
  have m1 : w2.cell? ⟨w.heap.size, 1, none⟩ = some (.slice none 0 0) := box_cell x2 1 _ rfl
  have m2 : w2.cell? ⟨w.heap.size, 2, none⟩ = some (.slice none 0 0) := box_cell x2 2 _ rfl
  have m3 : w2.cell? ⟨w.heap.size, 3, none⟩ = some (.slice none 0 0) := box_cell x2 3 _ rfl
  have m4 : w2.cell? ⟨w.heap.size, 4, none⟩ = some (.int .i64 0) := box_cell x2 4 _ rfl
  have m5 : w2.cell? ⟨w.heap.size, 5, none⟩ = some (.int .i64 0) := box_cell x2 5 _ rfl
  have m6 : w2.cell? ⟨w.heap.size, 6, none⟩ = some (.bool false) := box_cell x2 6 _ rfl
  have f0 := box_free x2 0
  have f1 := box_free x2 1
  have f2 := box_free x2 2
  have f3 := box_free x2 3
  have f4 := box_free x2 4
  have f5 := box_free x2 5
  have f6 := box_free x2 6
  have HX := Lib.hid x2
  have hlt := cell_lt m0
  clear hA hB hC hb2 x0 x2 hz hr HL
  go_wp2
  have s7 := set7 (.int .i64 (z : Int)) (.slice A 0 a) (.slice B 0 b) (.slice C 0 c) (.int .i64 0) (.int .i64 0) (.bool false) HX.out
  refine bodyPost_ret (results_cell_row (P := Try.prog) rfl _ _ _ _ _ _ _ (by rfl) s7.1 Try.underlying37 rfl (by kernel_rfl)) rfl ?_
  have hbx := s7.2.below HR.out.2.2.2 HR.out.2.2.2.size (fun x hx => by simp at hx; omega)
  refine ⟨_, rfl, ?_, hbx⟩
  rw [← HZ.out]
  exact ⟨A, B, C, a, b, c, rfl, Sl.zero _ A a HR.out.1.nil HR.out.1.max, Sl.zero _ B b HR.out.2.1.nil HR.out.2.1.max, ⟨rfl, Nat.zero_le _, HR.out.2.2.1.max, HR.out.2.2.1.nil, fun _ _ hp => by simp [crashL] at hp⟩, HAp.out.1.cast (by simp), HAp.out.2.1.cast (by simp), HAp.out.2.2⟩
end Go.Proofs.Ytpjmbhhfpoamnaa
