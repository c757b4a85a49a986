import Derived.Test.YtikjhandhgfohaaDc33b
set_option linter.unusedVariables false
set_option linter.unusedSimpArgs false
namespace Go.Proofs.Ytikjhandhgfohaa
open Go.RowKit
def zpc : Array Value := #[.int .u8 0, .int .i64 0, .int .u8 0, .int .u8 0, .int .u8 0, .int .u8 0, .int .u8 0, .int .u8 0, .int .u8 0, .int .u8 0, .slice none 0 0]
/-- what Decode tells -/
def DecP (w : World) (l : List UInt8) (e : Ending) (w' : World) : Prop :=
  ∃ B m d, e = .returned (.tuple #[.agg (pcA (decX l) (decN l) (decT l) B m d), .int .i64 (decE l : Nat)]) ∧ w'.ownsRow w.heap.size 5 1 (.slice B m d) (decB l).length ((decB l).map by8) ∧ Below w.heap.size w w'
theorem DecP.no {w w' : World} {l : List UInt8} {k : Nat} (h : ¬ decS l) (hk : decE l = k) (hb : Below w.heap.size w w') : DecP w l (.returned (.tuple #[.agg zpc, .int .i64 (k : Int)])) w' := by
  refine ⟨none, 0, 0, ?_, ?_, hb⟩
  · rw [hk, decX, decN, decT, if_neg h, if_neg h, if_neg h]
    rfl
  · rw [decB, if_neg h]
    exact World.ownsRow_nil ..
set_option maxRecDepth 100000 in
set_option maxHeartbeats 1600000 in
theorem dec33_91 (w : World) {A : Option Addr} {n c : Nat} {l : List UInt8} (ha : Sl w 1 A n c (l.map by8)) (hh0 : IsHead l) (hh : ¬ bt l 3 = 12) :
    Calls Try.prog 8 #[.slice A n c] w (DecP w l) := by
  have hl : l.length = n := by simpa using ha.len
  obtain ⟨W0, hW0⟩ : ∃ W0, W0 = w.alloc (.cells #[.int .u8 0, .int .i64 0, .int .u8 0, .int .u8 0, .int .u8 0, .int .u8 0, .int .u8 0, .int .u8 0, .int .u8 0, .int .u8 0, .slice none 0 0] 25) := ⟨_, rfl⟩
  have hb0 : Below w.heap.size w W0 := by rw [hW0]; exact (Below.refl _ w).alloc (Nat.le_refl _) _
  have z0 : W0.heap[w.heap.size]? = some (.cells #[.int .u8 0, .int .i64 0, .int .u8 0, .int .u8 0, .int .u8 0, .int .u8 0, .int .u8 0, .int .u8 0, .int .u8 0, .int .u8 0, .slice none 0 0] 25 (0, 0)) := by rw [hW0]; exact heap_alloc_new w _
  have hs0 : W0.heap.size = w.heap.size + 1 := by rw [hW0]; simp
  have HH := Lib.hid (ReadHead_any W0 (ha.below hb0))
  have h1 := ha.le; have h2 := ha.max
  have HD : Hid (¬ decS l ∧ decE l = 91) := Lib.hid ⟨fun h => hh h.2.1, by rw [decE, if_neg (fun k => k hh0)]; exact if_pos hh⟩
  have HE : Hid (rdE l = 0) := Lib.hid (by rw [rdE, if_pos hh0])
  have HF : Hid (rdD l = bt l 3) := Lib.hid (by rw [rdD, if_pos hh0])
  have hq : ((bt l 3 : Int) != 12) = true := by simp; omega
  clear hh
  rw [HE.out, HF.out] at HH
  go_enter Try.func8, Try.ntmps8
  go_wp2_with (rw [← hW0])
  clear hW0
  refine HH.out.mono ?_
  rintro e w1 ⟨rfl, hb1⟩
  have z1 := heap_below z0 hb1
  have zz := set11 (.int .u8 0) (.int .i64 0) (.int .u8 0) (.int .u8 0) (.int .u8 0) (.int .u8 0) (.int .u8 0) (.int .u8 0) (.int .u8 0) (.int .u8 0) (.slice none 0 0) z1
  have y0 : w1.cell? ⟨w.heap.size, 0, none⟩ = some (.int .u8 0) := box_cell z1 0 _ rfl
  have yf0 := box_free z1 0
  have y1 : w1.cell? ⟨w.heap.size, 1, none⟩ = some (.int .i64 0) := box_cell z1 1 _ rfl
  have yf1 := box_free z1 1
  have y2 : w1.cell? ⟨w.heap.size, 2, none⟩ = some (.int .u8 0) := box_cell z1 2 _ rfl
  have yf2 := box_free z1 2
  have y3 : w1.cell? ⟨w.heap.size, 3, none⟩ = some (.int .u8 0) := box_cell z1 3 _ rfl
  have yf3 := box_free z1 3
  have y4 : w1.cell? ⟨w.heap.size, 4, none⟩ = some (.int .u8 0) := box_cell z1 4 _ rfl
  have yf4 := box_free z1 4
  have y5 : w1.cell? ⟨w.heap.size, 5, none⟩ = some (.int .u8 0) := box_cell z1 5 _ rfl
  have yf5 := box_free z1 5
  have y6 : w1.cell? ⟨w.heap.size, 6, none⟩ = some (.int .u8 0) := box_cell z1 6 _ rfl
  have yf6 := box_free z1 6
  have y7 : w1.cell? ⟨w.heap.size, 7, none⟩ = some (.int .u8 0) := box_cell z1 7 _ rfl
  have yf7 := box_free z1 7
  have y8 : w1.cell? ⟨w.heap.size, 8, none⟩ = some (.int .u8 0) := box_cell z1 8 _ rfl
  have yf8 := box_free z1 8
  have y9 : w1.cell? ⟨w.heap.size, 9, none⟩ = some (.int .u8 0) := box_cell z1 9 _ rfl
  have yf9 := box_free z1 9
  have y10 : w1.cell? ⟨w.heap.size, 10, none⟩ = some (.slice none 0 0) := box_cell z1 10 _ rfl
  have yf10 := box_free z1 10
  have HZ := Lib.hid z1
  clear HH z1 z0
  go_wp2
  refine bodyPost_ret (results_c2 (P := Try.prog) rfl _ _ _ _ _ _ _ (by rfl) zz.1 Try.underlying25 rfl (by kernel_rfl)) rfl ?_
  exact DecP.no HD.out.1 HD.out.2 (zz.2.below (bthen hb0 hb1) (by have := hb1.size; omega) (by simp))
set_option maxRecDepth 100000 in
set_option maxHeartbeats 1600000 in
theorem dec33_90 (w : World) {A : Option Addr} {n c : Nat} {l : List UInt8} (ha : Sl w 1 A n c (l.map by8)) (hh : ¬ IsHead l) :
    Calls Try.prog 8 #[.slice A n c] w (DecP w l) := by
  have hl : l.length = n := by simpa using ha.len
  obtain ⟨W0, hW0⟩ : ∃ W0, W0 = w.alloc (.cells #[.int .u8 0, .int .i64 0, .int .u8 0, .int .u8 0, .int .u8 0, .int .u8 0, .int .u8 0, .int .u8 0, .int .u8 0, .int .u8 0, .slice none 0 0] 25) := ⟨_, rfl⟩
  have hb0 : Below w.heap.size w W0 := by rw [hW0]; exact (Below.refl _ w).alloc (Nat.le_refl _) _
  have z0 : W0.heap[w.heap.size]? = some (.cells #[.int .u8 0, .int .i64 0, .int .u8 0, .int .u8 0, .int .u8 0, .int .u8 0, .int .u8 0, .int .u8 0, .int .u8 0, .int .u8 0, .slice none 0 0] 25 (0, 0)) := by rw [hW0]; exact heap_alloc_new w _
  have hs0 : W0.heap.size = w.heap.size + 1 := by rw [hW0]; simp
  have HH := Lib.hid (ReadHead_any W0 (ha.below hb0))
  have h1 := ha.le; have h2 := ha.max
  have HD : Hid (¬ decS l ∧ decE l = 90) := Lib.hid ⟨fun h => hh h.1, by rw [decE, if_pos hh]⟩
  have HE : Hid (rdE l = 90) := Lib.hid (by rw [rdE, if_neg hh])
  clear hh
  rw [HE.out] at HH
  go_enter Try.func8, Try.ntmps8
  go_wp2_with (rw [← hW0])
  clear hW0
  refine HH.out.mono ?_
  rintro e w1 ⟨rfl, hb1⟩
  have z1 := heap_below z0 hb1
  have zz := set11 (.int .u8 0) (.int .i64 0) (.int .u8 0) (.int .u8 0) (.int .u8 0) (.int .u8 0) (.int .u8 0) (.int .u8 0) (.int .u8 0) (.int .u8 0) (.slice none 0 0) z1
  have y0 : w1.cell? ⟨w.heap.size, 0, none⟩ = some (.int .u8 0) := box_cell z1 0 _ rfl
  have yf0 := box_free z1 0
  have y1 : w1.cell? ⟨w.heap.size, 1, none⟩ = some (.int .i64 0) := box_cell z1 1 _ rfl
  have yf1 := box_free z1 1
  have y2 : w1.cell? ⟨w.heap.size, 2, none⟩ = some (.int .u8 0) := box_cell z1 2 _ rfl
  have yf2 := box_free z1 2
  have y3 : w1.cell? ⟨w.heap.size, 3, none⟩ = some (.int .u8 0) := box_cell z1 3 _ rfl
  have yf3 := box_free z1 3
  have y4 : w1.cell? ⟨w.heap.size, 4, none⟩ = some (.int .u8 0) := box_cell z1 4 _ rfl
  have yf4 := box_free z1 4
  have y5 : w1.cell? ⟨w.heap.size, 5, none⟩ = some (.int .u8 0) := box_cell z1 5 _ rfl
  have yf5 := box_free z1 5
  have y6 : w1.cell? ⟨w.heap.size, 6, none⟩ = some (.int .u8 0) := box_cell z1 6 _ rfl
  have yf6 := box_free z1 6
  have y7 : w1.cell? ⟨w.heap.size, 7, none⟩ = some (.int .u8 0) := box_cell z1 7 _ rfl
  have yf7 := box_free z1 7
  have y8 : w1.cell? ⟨w.heap.size, 8, none⟩ = some (.int .u8 0) := box_cell z1 8 _ rfl
  have yf8 := box_free z1 8
  have y9 : w1.cell? ⟨w.heap.size, 9, none⟩ = some (.int .u8 0) := box_cell z1 9 _ rfl
  have yf9 := box_free z1 9
  have y10 : w1.cell? ⟨w.heap.size, 10, none⟩ = some (.slice none 0 0) := box_cell z1 10 _ rfl
  have yf10 := box_free z1 10
  have HZ := Lib.hid z1
  clear HH z1 z0
  go_wp2
  refine bodyPost_ret (results_c2 (P := Try.prog) rfl _ _ _ _ _ _ _ (by rfl) zz.1 Try.underlying25 rfl (by kernel_rfl)) rfl ?_
  exact DecP.no HD.out.1 HD.out.2 (zz.2.below (bthen hb0 hb1) (by have := hb1.size; omega) (by simp))
set_option maxRecDepth 100000 in
set_option maxHeartbeats 1600000 in
theorem refDec33_91 (w : World) {A : Option Addr} {n c : Nat} {l : List UInt8} (ha : Sl w 1 A n c (l.map by8)) (hh0 : IsHead l) (hh : ¬ bt l 3 = 12) :
    Calls Try.prog 9 #[.slice A n c] w (DecP w l) := by
  have hl : l.length = n := by simpa using ha.len
  obtain ⟨W0, hW0⟩ : ∃ W0, W0 = w.alloc (.cells #[.int .u8 0, .int .i64 0, .int .u8 0, .int .u8 0, .int .u8 0, .int .u8 0, .int .u8 0, .int .u8 0, .int .u8 0, .int .u8 0, .slice none 0 0] 25) := ⟨_, rfl⟩
  have hb0 : Below w.heap.size w W0 := by rw [hW0]; exact (Below.refl _ w).alloc (Nat.le_refl _) _
  have z0 : W0.heap[w.heap.size]? = some (.cells #[.int .u8 0, .int .i64 0, .int .u8 0, .int .u8 0, .int .u8 0, .int .u8 0, .int .u8 0, .int .u8 0, .int .u8 0, .int .u8 0, .slice none 0 0] 25 (0, 0)) := by rw [hW0]; exact heap_alloc_new w _
  have hs0 : W0.heap.size = w.heap.size + 1 := by rw [hW0]; simp
  have HH := Lib.hid ((refReadHead_any W0 (ha.below hb0)).mono (fun e w1 h => And.intro h.1 (show Below W0.heap.size W0 w1 from h.2 ▸ Below.refl _ _)))
  have h1 := ha.le; have h2 := ha.max
  have HD : Hid (¬ decS l ∧ decE l = 91) := Lib.hid ⟨fun h => hh h.2.1, by rw [decE, if_neg (fun k => k hh0)]; exact if_pos hh⟩
  have HE : Hid (rdE l = 0) := Lib.hid (by rw [rdE, if_pos hh0])
  have HF : Hid (rdD l = bt l 3) := Lib.hid (by rw [rdD, if_pos hh0])
  have hq : ((bt l 3 : Int) != 12) = true := by simp; omega
  clear hh
  rw [HE.out, HF.out] at HH
  go_enter Try.func9, Try.ntmps9
  go_wp2_with (rw [← hW0])
  clear hW0
  refine HH.out.mono ?_
  rintro e w1 ⟨rfl, hb1⟩
  have z1 := heap_below z0 hb1
  have zz := set11 (.int .u8 0) (.int .i64 0) (.int .u8 0) (.int .u8 0) (.int .u8 0) (.int .u8 0) (.int .u8 0) (.int .u8 0) (.int .u8 0) (.int .u8 0) (.slice none 0 0) z1
  have y0 : w1.cell? ⟨w.heap.size, 0, none⟩ = some (.int .u8 0) := box_cell z1 0 _ rfl
  have yf0 := box_free z1 0
  have y1 : w1.cell? ⟨w.heap.size, 1, none⟩ = some (.int .i64 0) := box_cell z1 1 _ rfl
  have yf1 := box_free z1 1
  have y2 : w1.cell? ⟨w.heap.size, 2, none⟩ = some (.int .u8 0) := box_cell z1 2 _ rfl
  have yf2 := box_free z1 2
  have y3 : w1.cell? ⟨w.heap.size, 3, none⟩ = some (.int .u8 0) := box_cell z1 3 _ rfl
  have yf3 := box_free z1 3
  have y4 : w1.cell? ⟨w.heap.size, 4, none⟩ = some (.int .u8 0) := box_cell z1 4 _ rfl
  have yf4 := box_free z1 4
  have y5 : w1.cell? ⟨w.heap.size, 5, none⟩ = some (.int .u8 0) := box_cell z1 5 _ rfl
  have yf5 := box_free z1 5
  have y6 : w1.cell? ⟨w.heap.size, 6, none⟩ = some (.int .u8 0) := box_cell z1 6 _ rfl
  have yf6 := box_free z1 6
  have y7 : w1.cell? ⟨w.heap.size, 7, none⟩ = some (.int .u8 0) := box_cell z1 7 _ rfl
  have yf7 := box_free z1 7
  have y8 : w1.cell? ⟨w.heap.size, 8, none⟩ = some (.int .u8 0) := box_cell z1 8 _ rfl
  have yf8 := box_free z1 8
  have y9 : w1.cell? ⟨w.heap.size, 9, none⟩ = some (.int .u8 0) := box_cell z1 9 _ rfl
  have yf9 := box_free z1 9
  have y10 : w1.cell? ⟨w.heap.size, 10, none⟩ = some (.slice none 0 0) := box_cell z1 10 _ rfl
  have yf10 := box_free z1 10
  have HZ := Lib.hid z1
  clear HH z1 z0
  go_wp2
  refine bodyPost_ret (results_c2 (P := Try.prog) rfl _ _ _ _ _ _ _ (by rfl) zz.1 Try.underlying25 rfl (by kernel_rfl)) rfl ?_
  exact DecP.no HD.out.1 HD.out.2 (zz.2.below (bthen hb0 hb1) (by have := hb1.size; omega) (by simp))
set_option maxRecDepth 100000 in
set_option maxHeartbeats 1600000 in
theorem refDec33_90 (w : World) {A : Option Addr} {n c : Nat} {l : List UInt8} (ha : Sl w 1 A n c (l.map by8)) (hh : ¬ IsHead l) :
    Calls Try.prog 9 #[.slice A n c] w (DecP w l) := by
  have hl : l.length = n := by simpa using ha.len
  obtain ⟨W0, hW0⟩ : ∃ W0, W0 = w.alloc (.cells #[.int .u8 0, .int .i64 0, .int .u8 0, .int .u8 0, .int .u8 0, .int .u8 0, .int .u8 0, .int .u8 0, .int .u8 0, .int .u8 0, .slice none 0 0] 25) := ⟨_, rfl⟩
  have hb0 : Below w.heap.size w W0 := by rw [hW0]; exact (Below.refl _ w).alloc (Nat.le_refl _) _
  have z0 : W0.heap[w.heap.size]? = some (.cells #[.int .u8 0, .int .i64 0, .int .u8 0, .int .u8 0, .int .u8 0, .int .u8 0, .int .u8 0, .int .u8 0, .int .u8 0, .int .u8 0, .slice none 0 0] 25 (0, 0)) := by rw [hW0]; exact heap_alloc_new w _
  have hs0 : W0.heap.size = w.heap.size + 1 := by rw [hW0]; simp
  have HH := Lib.hid ((refReadHead_any W0 (ha.below hb0)).mono (fun e w1 h => And.intro h.1 (show Below W0.heap.size W0 w1 from h.2 ▸ Below.refl _ _)))
  have h1 := ha.le; have h2 := ha.max
  have HD : Hid (¬ decS l ∧ decE l = 90) := Lib.hid ⟨fun h => hh h.1, by rw [decE, if_pos hh]⟩
  have HE : Hid (rdE l = 90) := Lib.hid (by rw [rdE, if_neg hh])
  clear hh
  rw [HE.out] at HH
  go_enter Try.func9, Try.ntmps9
  go_wp2_with (rw [← hW0])
  clear hW0
  refine HH.out.mono ?_
  rintro e w1 ⟨rfl, hb1⟩
  have z1 := heap_below z0 hb1
  have zz := set11 (.int .u8 0) (.int .i64 0) (.int .u8 0) (.int .u8 0) (.int .u8 0) (.int .u8 0) (.int .u8 0) (.int .u8 0) (.int .u8 0) (.int .u8 0) (.slice none 0 0) z1
  have y0 : w1.cell? ⟨w.heap.size, 0, none⟩ = some (.int .u8 0) := box_cell z1 0 _ rfl
  have yf0 := box_free z1 0
  have y1 : w1.cell? ⟨w.heap.size, 1, none⟩ = some (.int .i64 0) := box_cell z1 1 _ rfl
  have yf1 := box_free z1 1
  have y2 : w1.cell? ⟨w.heap.size, 2, none⟩ = some (.int .u8 0) := box_cell z1 2 _ rfl
  have yf2 := box_free z1 2
  have y3 : w1.cell? ⟨w.heap.size, 3, none⟩ = some (.int .u8 0) := box_cell z1 3 _ rfl
  have yf3 := box_free z1 3
  have y4 : w1.cell? ⟨w.heap.size, 4, none⟩ = some (.int .u8 0) := box_cell z1 4 _ rfl
  have yf4 := box_free z1 4
  have y5 : w1.cell? ⟨w.heap.size, 5, none⟩ = some (.int .u8 0) := box_cell z1 5 _ rfl
  have yf5 := box_free z1 5
  have y6 : w1.cell? ⟨w.heap.size, 6, none⟩ = some (.int .u8 0) := box_cell z1 6 _ rfl
  have yf6 := box_free z1 6
  have y7 : w1.cell? ⟨w.heap.size, 7, none⟩ = some (.int .u8 0) := box_cell z1 7 _ rfl
  have yf7 := box_free z1 7
  have y8 : w1.cell? ⟨w.heap.size, 8, none⟩ = some (.int .u8 0) := box_cell z1 8 _ rfl
  have yf8 := box_free z1 8
  have y9 : w1.cell? ⟨w.heap.size, 9, none⟩ = some (.int .u8 0) := box_cell z1 9 _ rfl
  have yf9 := box_free z1 9
  have y10 : w1.cell? ⟨w.heap.size, 10, none⟩ = some (.slice none 0 0) := box_cell z1 10 _ rfl
  have yf10 := box_free z1 10
  have HZ := Lib.hid z1
  clear HH z1 z0
  go_wp2
  refine bodyPost_ret (results_c2 (P := Try.prog) rfl _ _ _ _ _ _ _ (by rfl) zz.1 Try.underlying25 rfl (by kernel_rfl)) rfl ?_
  exact DecP.no HD.out.1 HD.out.2 (zz.2.below (bthen hb0 hb1) (by have := hb1.size; omega) (by simp))
end Go.Proofs.Ytikjhandhgfohaa
