import Derived.Test.YtpjmbhhfpoamnaaJn9
set_option linter.unusedVariables false
set_option linter.unusedSimpArgs false
namespace Go.Proofs.Ytpjmbhhfpoamnaa
open Go.RowKit
theorem EShj : ElemT Try.prog 34 22 (.slice none 0 0) 1 24 := ⟨Try.underlying34, by kernel_rfl, rfl, by decide⟩
set_option maxRecDepth 100000 in
set_option maxHeartbeats 1600000 in
theorem read_no_lo (w : World) {A : Option Addr} {n c : Nat} {l : List UInt8} (h : Sl w 1 A n c (l.map by8)) (hn : n ≤ 140737488351232) (hx : (wholeD l).2.2.1 ≠ 0) (ht : (wholeD l).2.2.2 = 0) (hk : (wholeD l).1 = 72) (hp12 : 12 ≤ (wholeD l).2.1.length) (hz : be ((wholeD l).2.1.take 8) < 1) :
    Calls Try.prog 103 #[.slice A n c] w (ReadP w l) := by
  have hl : l.length = n := by simpa using h.len
  obtain ⟨W0, hW0⟩ : ∃ W0, W0 = w.alloc (.cells #[.int .i64 0, .slice none 0 0, .slice none 0 0, .int .i64 0] 162) := ⟨_, rfl⟩
  have hb0 : Below w.heap.size w W0 := by rw [hW0]; exact (Below.refl _ w).alloc (Nat.le_refl _) _
  have z0 : W0.heap[w.heap.size]? = some (.cells #[.int .i64 0, .slice none 0 0, .slice none 0 0, .int .i64 0] 162 (0, 0)) := by rw [hW0]; exact heap_alloc_new w _
  obtain ⟨p, hp⟩ : ∃ p, p = (wholeD l).2.1 := ⟨_, rfl⟩
  obtain ⟨K, hK⟩ : ∃ K, K = (wholeD l).1.toNat := ⟨_, rfl⟩
  obtain ⟨P, hP⟩ : ∃ P, P = p.length := ⟨_, rfl⟩
  obtain ⟨E, hE⟩ : ∃ E, E = (wholeD l).2.2.1 := ⟨_, rfl⟩
  obtain ⟨T, hT⟩ : ∃ T, T = (wholeD l).2.2.2 := ⟨_, rfl⟩
  have HD : Hid (Calls Try.prog 46 #[.slice A n c, .int .i64 0] W0 fun e w' => ∃ g, e = .returned (.tuple #[.agg #[.int .u8 K, .slice (some ⟨g, 0, none⟩) P P], .int .i64 E, .int .i64 T]) ∧ w'.ownsRow W0.heap.size 5 1 (.slice (some ⟨g, 0, none⟩) P P) P (p.map by8) ∧ Below W0.heap.size W0 w') := Lib.hid (Decode_at W0 (h.below hb0) hn 0 (Nat.zero_le _) K P E T p hK hp hP (by simpa using hE) hT)
  obtain ⟨EP, hEP⟩ : ∃ EP, EP = be (p.take 8) := ⟨_, rfl⟩
  obtain ⟨NB, hNB⟩ : ∃ NB, NB = be ((p.drop 8).take 4) := ⟨_, rfl⟩
  have q1 : ((E : Int) == 0) = false := by simp; omega
  have q2 : ((T : Int) != 0) = false := by simp; omega
  have hk2 : K = 72 := by rw [hK, hk]; rfl
  have q3 : ((K : Int) != 72) = false := by simp; omega
  have q4 : (12 : Int) ≤ (P : Int) := by rw [hP, hp]; omega
  have q4n : 12 ≤ P := by omega
  clear hk2
  have HNo : Hid (readB l = none) := Lib.hid (by rw [readB, if_neg (fun hh => Nat.not_lt.2 hh.1.2.2.2.2.1 hz)])
  have q5 : (EP : Int) < 1 := by rw [hEP, hp]; omega
  have HE := Lib.hid (And.intro hEP hNB)
  clear hEP hNB hl h hp hK hP hE hT
  go_enter Try.func103, Try.ntmps103
  go_wp2_with (rw [← hW0])
  clear hW0
  refine HD.out.mono ?_
  rintro e w1 ⟨g, rfl, o1, hb1⟩
  clear HD
  obtain ⟨W2, hW2⟩ : ∃ W2, W2 = w1.alloc (.cells #[.int .u8 K, .slice (some ⟨g, 0, none⟩) P P] 70) := ⟨_, rfl⟩
  have hb2 : Below w1.heap.size w1 W2 := by rw [hW2]; exact (Below.refl _ w1).alloc (Nat.le_refl _) _
  have z1 : W2.heap[w.heap.size]? = some (.cells #[.int .i64 0, .slice none 0 0, .slice none 0 0, .int .i64 0] 162 (0, 0)) := heap_below (heap_below z0 hb1) hb2
  have zf : W2.heap[w1.heap.size]? = some (.cells #[.int .u8 K, .slice (some ⟨g, 0, none⟩) P P] 70 (0, 0)) := by rw [hW2]; exact heap_alloc_new w1 _
  have x0 : W2.cell? ⟨w1.heap.size, 0, none⟩ = some (.int .u8 K) := box_cell zf 0 _ rfl
  have x1 : W2.cell? ⟨w1.heap.size, 1, none⟩ = some (.slice (some ⟨g, 0, none⟩) P P) := box_cell zf 1 _ rfl
  have o2 := own_below o1 hb2
  have SP := (own_sl' o2).2.1
  have H64 : Hid (Calls Try.prog 131 #[.slice (some ⟨g, 0, none⟩) P P, .int .i64 (0 : Int)] W2 fun e w' => e = .returned (.tuple #[.int .u64 (EP : Int), .bool true]) ∧ W2 = w') := Lib.hid (by rw [HE.out.1]; simpa using LoadBE64_yes W2 SP 0 (by omega))
  have H32 : Hid (Calls Try.prog 124 #[.slice (some ⟨g, 0, none⟩) P P, .int .i64 (8 : Int)] W2 fun e w' => e = .returned (.tuple #[.int .u32 (NB : Int), .bool true]) ∧ W2 = w') := Lib.hid (by rw [HE.out.2]; exact LoadBE32_yes W2 SP 8 (by omega))
  have zz := set4 (.int .i64 0) (.slice none 0 0) (.slice none 0 0) (.int .i64 0) z1
  have y0 : W2.cell? ⟨w.heap.size, 0, none⟩ = some (.int .i64 0) := box_cell z1 0 _ rfl
  have yf0 := box_free z1 0
  have y1 : W2.cell? ⟨w.heap.size, 1, none⟩ = some (.slice none 0 0) := box_cell z1 1 _ rfl
  have yf1 := box_free z1 1
  have y2 : W2.cell? ⟨w.heap.size, 2, none⟩ = some (.slice none 0 0) := box_cell z1 2 _ rfl
  have yf2 := box_free z1 2
  have y3 : W2.cell? ⟨w.heap.size, 3, none⟩ = some (.int .i64 0) := box_cell z1 3 _ rfl
  have yf3 := box_free z1 3
  have HW2 := Lib.hid hW2
  have HB := Lib.hid (bthen hb0 (bthen hb1 hb2))
  have hsz := hb1.size
  clear z0 z1 zf hW2 hb0 hb1 hb2 o1 o2 SP
  go_wp2_with (rw [← HW2.out])
  refine H64.out.mono ?_
  rintro e w3 ⟨rfl, rfl⟩
  clear H64
  go_wp2_with fail
  refine H32.out.mono ?_
  rintro e w3 ⟨rfl, rfl⟩
  clear H32
  go_wp2
  refine bodyPost_ret (results_c2r (P := Try.prog) rfl _ _ _ _ _ _ _ (by rfl) zz.1 Try.underlying162 rfl (by kernel_rfl)) rfl ?_
  exact ReadP.no HNo.out (zz.2.below HB.out HB.out.size (by simp))
set_option maxRecDepth 100000 in
set_option maxHeartbeats 1600000 in
theorem read_no_hi (w : World) {A : Option Addr} {n c : Nat} {l : List UInt8} (h : Sl w 1 A n c (l.map by8)) (hn : n ≤ 140737488351232) (hx : (wholeD l).2.2.1 ≠ 0) (ht : (wholeD l).2.2.2 = 0) (hk : (wholeD l).1 = 72) (hp12 : 12 ≤ (wholeD l).2.1.length) (hz : 9223372036854775807 < be ((wholeD l).2.1.take 8)) :
    Calls Try.prog 103 #[.slice A n c] w (ReadP w l) := by
  have hl : l.length = n := by simpa using h.len
  obtain ⟨W0, hW0⟩ : ∃ W0, W0 = w.alloc (.cells #[.int .i64 0, .slice none 0 0, .slice none 0 0, .int .i64 0] 162) := ⟨_, rfl⟩
  have hb0 : Below w.heap.size w W0 := by rw [hW0]; exact (Below.refl _ w).alloc (Nat.le_refl _) _
  have z0 : W0.heap[w.heap.size]? = some (.cells #[.int .i64 0, .slice none 0 0, .slice none 0 0, .int .i64 0] 162 (0, 0)) := by rw [hW0]; exact heap_alloc_new w _
  obtain ⟨p, hp⟩ : ∃ p, p = (wholeD l).2.1 := ⟨_, rfl⟩
  obtain ⟨K, hK⟩ : ∃ K, K = (wholeD l).1.toNat := ⟨_, rfl⟩
  obtain ⟨P, hP⟩ : ∃ P, P = p.length := ⟨_, rfl⟩
  obtain ⟨E, hE⟩ : ∃ E, E = (wholeD l).2.2.1 := ⟨_, rfl⟩
  obtain ⟨T, hT⟩ : ∃ T, T = (wholeD l).2.2.2 := ⟨_, rfl⟩
  have HD : Hid (Calls Try.prog 46 #[.slice A n c, .int .i64 0] W0 fun e w' => ∃ g, e = .returned (.tuple #[.agg #[.int .u8 K, .slice (some ⟨g, 0, none⟩) P P], .int .i64 E, .int .i64 T]) ∧ w'.ownsRow W0.heap.size 5 1 (.slice (some ⟨g, 0, none⟩) P P) P (p.map by8) ∧ Below W0.heap.size W0 w') := Lib.hid (Decode_at W0 (h.below hb0) hn 0 (Nat.zero_le _) K P E T p hK hp hP (by simpa using hE) hT)
  obtain ⟨EP, hEP⟩ : ∃ EP, EP = be (p.take 8) := ⟨_, rfl⟩
  obtain ⟨NB, hNB⟩ : ∃ NB, NB = be ((p.drop 8).take 4) := ⟨_, rfl⟩
  have q1 : ((E : Int) == 0) = false := by simp; omega
  have q2 : ((T : Int) != 0) = false := by simp; omega
  have hk2 : K = 72 := by rw [hK, hk]; rfl
  have q3 : ((K : Int) != 72) = false := by simp; omega
  have q4 : (12 : Int) ≤ (P : Int) := by rw [hP, hp]; omega
  have q4n : 12 ≤ P := by omega
  clear hk2
  have HNo : Hid (readB l = none) := Lib.hid (by rw [readB, if_neg (fun hh => Nat.not_lt.2 hh.1.2.2.2.2.2 hz)])
  have q5 : (1 : Int) ≤ (EP : Int) := by rw [hEP, hp]; omega
  have q6 : (9223372036854775807 : Int) < (EP : Int) := by rw [hEP, hp]; omega
  have HE := Lib.hid (And.intro hEP hNB)
  clear hEP hNB hl h hp hK hP hE hT
  go_enter Try.func103, Try.ntmps103
  go_wp2_with (rw [← hW0])
  clear hW0
  refine HD.out.mono ?_
  rintro e w1 ⟨g, rfl, o1, hb1⟩
  clear HD
  obtain ⟨W2, hW2⟩ : ∃ W2, W2 = w1.alloc (.cells #[.int .u8 K, .slice (some ⟨g, 0, none⟩) P P] 70) := ⟨_, rfl⟩
  have hb2 : Below w1.heap.size w1 W2 := by rw [hW2]; exact (Below.refl _ w1).alloc (Nat.le_refl _) _
  have z1 : W2.heap[w.heap.size]? = some (.cells #[.int .i64 0, .slice none 0 0, .slice none 0 0, .int .i64 0] 162 (0, 0)) := heap_below (heap_below z0 hb1) hb2
  have zf : W2.heap[w1.heap.size]? = some (.cells #[.int .u8 K, .slice (some ⟨g, 0, none⟩) P P] 70 (0, 0)) := by rw [hW2]; exact heap_alloc_new w1 _
  have x0 : W2.cell? ⟨w1.heap.size, 0, none⟩ = some (.int .u8 K) := box_cell zf 0 _ rfl
  have x1 : W2.cell? ⟨w1.heap.size, 1, none⟩ = some (.slice (some ⟨g, 0, none⟩) P P) := box_cell zf 1 _ rfl
  have o2 := own_below o1 hb2
  have SP := (own_sl' o2).2.1
  have H64 : Hid (Calls Try.prog 131 #[.slice (some ⟨g, 0, none⟩) P P, .int .i64 (0 : Int)] W2 fun e w' => e = .returned (.tuple #[.int .u64 (EP : Int), .bool true]) ∧ W2 = w') := Lib.hid (by rw [HE.out.1]; simpa using LoadBE64_yes W2 SP 0 (by omega))
  have H32 : Hid (Calls Try.prog 124 #[.slice (some ⟨g, 0, none⟩) P P, .int .i64 (8 : Int)] W2 fun e w' => e = .returned (.tuple #[.int .u32 (NB : Int), .bool true]) ∧ W2 = w') := Lib.hid (by rw [HE.out.2]; exact LoadBE32_yes W2 SP 8 (by omega))
  have zz := set4 (.int .i64 0) (.slice none 0 0) (.slice none 0 0) (.int .i64 0) z1
  have y0 : W2.cell? ⟨w.heap.size, 0, none⟩ = some (.int .i64 0) := box_cell z1 0 _ rfl
  have yf0 := box_free z1 0
  have y1 : W2.cell? ⟨w.heap.size, 1, none⟩ = some (.slice none 0 0) := box_cell z1 1 _ rfl
  have yf1 := box_free z1 1
  have y2 : W2.cell? ⟨w.heap.size, 2, none⟩ = some (.slice none 0 0) := box_cell z1 2 _ rfl
  have yf2 := box_free z1 2
  have y3 : W2.cell? ⟨w.heap.size, 3, none⟩ = some (.int .i64 0) := box_cell z1 3 _ rfl
  have yf3 := box_free z1 3
  have HW2 := Lib.hid hW2
  have HB := Lib.hid (bthen hb0 (bthen hb1 hb2))
  have hsz := hb1.size
  clear z0 z1 zf hW2 hb0 hb1 hb2 o1 o2 SP
  go_wp2_with (rw [← HW2.out])
  refine H64.out.mono ?_
  rintro e w3 ⟨rfl, rfl⟩
  clear H64
  go_wp2_with fail
  refine H32.out.mono ?_
  rintro e w3 ⟨rfl, rfl⟩
  clear H32
  go_wp2
  refine bodyPost_ret (results_c2r (P := Try.prog) rfl _ _ _ _ _ _ _ (by rfl) zz.1 Try.underlying162 rfl (by kernel_rfl)) rfl ?_
  exact ReadP.no HNo.out (zz.2.below HB.out HB.out.size (by simp))
end Go.Proofs.Ytpjmbhhfpoamnaa
