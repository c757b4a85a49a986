import Derived.Test.YtikjhandhgfohaaRoom33
set_option linter.unusedVariables false
set_option linter.unusedSimpArgs false
namespace Go.Proofs.Ytikjhandhgfohaa
open Go.RowKit
/-- a piece's cells -/
def pcA (x : Nat) (nd : Int) (t : Nat → Nat) (A : Option Addr) (n c : Nat) : Array Value := #[.int .u8 x, .int .i64 nd, .int .u8 (t 0), .int .u8 (t 1), .int .u8 (t 2), .int .u8 (t 3), .int .u8 (t 4), .int .u8 (t 5), .int .u8 (t 6), .int .u8 (t 7), .slice A n c]
/-- within its range -/
def rgP (x : Nat) (nd : Int) (n : Nat) : Prop := x ≠ 0 ∧ 1 ≤ nd ∧ nd ≤ 255 ∧ 1 ≤ n ∧ n ≤ 64
instance (x : Nat) (nd : Int) (n : Nat) : Decidable (rgP x nd n) := by unfold rgP; infer_instance
theorem ranged_any (w : World) (x : Nat) (nd : Int) (t : Nat → Nat) (A : Option Addr) (n c : Nat) :
    Calls Try.prog 14 #[.agg (pcA x nd t A n c)] w fun e w' => e = .returned (.bool (decide (rgP x nd n))) ∧ Below w.heap.size w w' := by
  have hblk := heap_alloc_new w (.cells (pcA x nd t A n c) 25)
  have HR : ∀ b, b = decide (rgP x nd n) → Hid (decide (rgP x nd n) = b) := fun b e => Lib.hid e.symm
  unfold pcA at hblk ⊢
  have g0 := box_cell hblk 0 _ rfl
  have g1 := box_cell hblk 1 _ rfl
  have g10 := box_cell hblk 10 _ rfl
  clear hblk
  by_cases h1 : x = 0
  · have q0 : ((x : Int) != 0) = false := by simp [h1]
    have HR := HR false (by simp [rgP, h1])
    rw [HR.out]
    clear h1 HR
    go_enter Try.func14, Try.ntmps14
    go_wp2
    go_ret
    exact ⟨rfl, (Below.refl _ _).alloc (Nat.le_refl _) _⟩
  have q0 : ((x : Int) != 0) = true := by simp; omega
  by_cases h2 : 1 ≤ nd
  · by_cases h3 : nd ≤ 255
    · by_cases h4 : 1 ≤ n
      · have q4 : (1 : Int) ≤ (n : Int) := by omega
        by_cases h5 : n ≤ 64
        · have q5 : (n : Int) ≤ 64 := by omega
          have HR := HR true (by simp [rgP, h1, h2, h3, h4, h5])
          rw [HR.out]
          clear h1 h4 h5 HR
          go_enter Try.func14, Try.ntmps14
          go_wp2
          go_ret
          exact ⟨rfl, (Below.refl _ _).alloc (Nat.le_refl _) _⟩
        · have q5 : ¬ (n : Int) ≤ 64 := by omega
          have HR := HR false (by simp [rgP, h5])
          rw [HR.out]
          clear h1 h4 h5 HR
          go_enter Try.func14, Try.ntmps14
          go_wp2
          go_ret
          exact ⟨rfl, (Below.refl _ _).alloc (Nat.le_refl _) _⟩
      · have q4 : ¬ (1 : Int) ≤ (n : Int) := by omega
        have HR := HR false (by simp [rgP, h4])
        rw [HR.out]
        clear h1 h4 HR
        go_enter Try.func14, Try.ntmps14
        go_wp2
        go_ret
        exact ⟨rfl, (Below.refl _ _).alloc (Nat.le_refl _) _⟩
    · have HR := HR false (by simp [rgP, h3])
      rw [HR.out]
      clear h1 HR
      go_enter Try.func14, Try.ntmps14
      go_wp2
      go_ret
      exact ⟨rfl, (Below.refl _ _).alloc (Nat.le_refl _) _⟩
  · have HR := HR false (by simp [rgP, h2])
    rw [HR.out]
    clear h1 HR
    go_enter Try.func14, Try.ntmps14
    go_wp2
    go_ret
    exact ⟨rfl, (Below.refl _ _).alloc (Nat.le_refl _) _⟩
theorem refRanged_any (w : World) (x : Nat) (nd : Int) (t : Nat → Nat) (A : Option Addr) (n c : Nat) :
    Calls Try.prog 21 #[.agg (pcA x nd t A n c)] w fun e w' => e = .returned (.bool (decide (rgP x nd n))) ∧ Below w.heap.size w w' := by
  have hblk := heap_alloc_new w (.cells (pcA x nd t A n c) 25)
  have HR : ∀ b, b = decide (rgP x nd n) → Hid (decide (rgP x nd n) = b) := fun b e => Lib.hid e.symm
  unfold pcA at hblk ⊢
  have g0 := box_cell hblk 0 _ rfl
  have g1 := box_cell hblk 1 _ rfl
  have g10 := box_cell hblk 10 _ rfl
  clear hblk
  by_cases h1 : x = 0
  · have q0 : ((x : Int) != 0) = false := by simp [h1]
    have HR := HR false (by simp [rgP, h1])
    rw [HR.out]
    clear h1 HR
    go_enter Try.func21, Try.ntmps21
    go_wp2
    go_ret
    exact ⟨rfl, (Below.refl _ _).alloc (Nat.le_refl _) _⟩
  have q0 : ((x : Int) != 0) = true := by simp; omega
  by_cases h2 : 1 ≤ nd
  · by_cases h3 : nd ≤ 255
    · by_cases h4 : 1 ≤ n
      · have q4 : (1 : Int) ≤ (n : Int) := by omega
        by_cases h5 : n ≤ 64
        · have q5 : (n : Int) ≤ 64 := by omega
          have HR := HR true (by simp [rgP, h1, h2, h3, h4, h5])
          rw [HR.out]
          clear h1 h4 h5 HR
          go_enter Try.func21, Try.ntmps21
          go_wp2
          go_ret
          exact ⟨rfl, (Below.refl _ _).alloc (Nat.le_refl _) _⟩
        · have q5 : ¬ (n : Int) ≤ 64 := by omega
          have HR := HR false (by simp [rgP, h5])
          rw [HR.out]
          clear h1 h4 h5 HR
          go_enter Try.func21, Try.ntmps21
          go_wp2
          go_ret
          exact ⟨rfl, (Below.refl _ _).alloc (Nat.le_refl _) _⟩
      · have q4 : ¬ (1 : Int) ≤ (n : Int) := by omega
        have HR := HR false (by simp [rgP, h4])
        rw [HR.out]
        clear h1 h4 HR
        go_enter Try.func21, Try.ntmps21
        go_wp2
        go_ret
        exact ⟨rfl, (Below.refl _ _).alloc (Nat.le_refl _) _⟩
    · have HR := HR false (by simp [rgP, h3])
      rw [HR.out]
      clear h1 HR
      go_enter Try.func21, Try.ntmps21
      go_wp2
      go_ret
      exact ⟨rfl, (Below.refl _ _).alloc (Nat.le_refl _) _⟩
  · have HR := HR false (by simp [rgP, h2])
    rw [HR.out]
    clear h1 HR
    go_enter Try.func21, Try.ntmps21
    go_wp2
    go_ret
    exact ⟨rfl, (Below.refl _ _).alloc (Nat.le_refl _) _⟩
theorem eqItems_same {P : Program} {e : TypeId} (hp : P.plainKey e = true) (hc : P.cellsOf e = 1) (hu : P.underlying e = some (.int .u8)) (d : Nat) (xs : Array Value) (w : World) : ∀ (is : List Nat), (∀ i ∈ is, ∃ k, xs[i]? = some (.int .u8 k)) →
    (Op.eqItems (d + 1) e (P.cellsOf e) xs xs is).run P w = .ok true w
  | [], _ => by simp [Op.eqItems]
  | i :: is, h => by
    obtain ⟨k, hk⟩ := h i (by simp)
    have ih := eqItems_same hp hc hu d xs w is (fun j hj => h j (by simp [hj]))
    simp [Op.eqItems, hc, run_part_plain w hp hk, run_equalIn_int w d e .u8 .u8 k k hu]
    rw [hc] at ih
    exact ih
/-- an array of bytes and itself -/
theorem eq_arr_same {P : Program} {T e : TypeId} {n : Nat} {i : TypeInfo} (hT : P.underlying T = some (.array n e)) (hi : P.info? e = some i) (hp : P.plainKey e = true) (hc : P.cellsOf e = 1) (hu : P.underlying e = some (.int .u8)) (xs : Array Value)
    (h : ∀ i, i < n → ∃ k, xs[i]? = some (.int .u8 k)) (w : World) : (Op.equalIn 10000 T (.agg xs) (.agg xs)).run P w = .ok true w := by
  rw [run_equalIn_array w 9999 xs xs hT hi]
  exact eqItems_same hp hc hu 9998 xs w _ (fun j hj => h j (by simpa using hj))
theorem bound8 {Q : Nat → Prop} (h : Q 0 ∧ Q 1 ∧ Q 2 ∧ Q 3 ∧ Q 4 ∧ Q 5 ∧ Q 6 ∧ Q 7) : ∀ i, i < 8 → Q i
  | 0, _ => h.1 | 1, _ => h.2.1 | 2, _ => h.2.2.1 | 3, _ => h.2.2.2.1 | 4, _ => h.2.2.2.2.1 | 5, _ => h.2.2.2.2.2.1 | 6, _ => h.2.2.2.2.2.2.1 | 7, _ => h.2.2.2.2.2.2.2
  | i + 8, hi => by omega
theorem eq8 (t : Nat → Nat) (w : World) : (Op.equalIn 10000 22 (.agg #[.int .u8 (t 0), .int .u8 (t 1), .int .u8 (t 2), .int .u8 (t 3), .int .u8 (t 4), .int .u8 (t 5), .int .u8 (t 6), .int .u8 (t 7)]) (.agg #[.int .u8 (t 0), .int .u8 (t 1), .int .u8 (t 2), .int .u8 (t 3), .int .u8 (t 4), .int .u8 (t 5), .int .u8 (t 6), .int .u8 (t 7)])).run Try.prog w = .ok true w := by
  obtain ⟨i, hi, _⟩ := info_parts EBw33.info
  exact eq_arr_same Try.underlying22 hi (by kernel_rfl) (by kernel_rfl) Try.underlying5 _ (bound8 ⟨⟨_, rfl⟩, ⟨_, rfl⟩, ⟨_, rfl⟩, ⟨_, rfl⟩, ⟨_, rfl⟩, ⟨_, rfl⟩, ⟨_, rfl⟩, ⟨_, rfl⟩⟩) w
set_option maxRecDepth 100000 in
set_option maxHeartbeats 800000 in
/-- a piece and its like -/
theorem samePiece_like (w : World) (x : Nat) (nd : Int) (t : Nat → Nat) {A B : Option Addr} {n c m d : Nat} {l : List UInt8} (ha : Sl w 1 A n c (l.map by8)) (hb : Sl w 1 B m d (l.map by8)) :
    Calls Try.prog 11 #[.agg (pcA x nd t A n c), .agg (pcA x nd t B m d)] w fun e w' => e = .returned (.bool true) ∧ Below w.heap.size w w' := by
  obtain ⟨W1, hW1⟩ : ∃ W1, W1 = (w.alloc (.cells (pcA x nd t A n c) 25)).alloc (.cells (pcA x nd t B m d) 25) := ⟨_, rfl⟩
  have b1 : w.heap[w.heap.size]? = none := by simp
  have hbl : Below w.heap.size w W1 := by rw [hW1]; exact ((Below.refl _ w).alloc (Nat.le_refl _) _).alloc (by simp) _
  have x0 : W1.heap[w.heap.size]? = some (.cells (pcA x nd t A n c) 25 (0, 0)) := by rw [hW1]; exact heap_below (heap_alloc_new w _) ((Below.refl _ _).alloc (Nat.le_refl _) _)
  have x1 : W1.heap[w.heap.size + 1]? = some (.cells (pcA x nd t B m d) 25 (0, 0)) := by
    rw [hW1]
    have := heap_alloc_new (w.alloc (.cells (pcA x nd t A n c) 25)) (.cells (pcA x nd t B m d) 25)
    rwa [World.size_alloc] at this
  have HS := Lib.hid (same33 W1 (ha.below hbl) (hb.below hbl))
  clear b1 ha hb
  unfold pcA at hW1 x0 x1 ⊢
  have c00 : W1.cell? ⟨w.heap.size, 0, none⟩ = some (.int .u8 x) := box_cell x0 0 _ rfl
  have c01 : W1.cell? ⟨w.heap.size, 1, none⟩ = some (.int .i64 nd) := box_cell x0 1 _ rfl
  have c02 : W1.cell? ⟨w.heap.size, 2, none⟩ = some (.int .u8 (t 0)) := box_cell x0 2 _ rfl
  have c03 : W1.cell? ⟨w.heap.size, 3, none⟩ = some (.int .u8 (t 1)) := box_cell x0 3 _ rfl
  have c04 : W1.cell? ⟨w.heap.size, 4, none⟩ = some (.int .u8 (t 2)) := box_cell x0 4 _ rfl
  have c05 : W1.cell? ⟨w.heap.size, 5, none⟩ = some (.int .u8 (t 3)) := box_cell x0 5 _ rfl
  have c06 : W1.cell? ⟨w.heap.size, 6, none⟩ = some (.int .u8 (t 4)) := box_cell x0 6 _ rfl
  have c07 : W1.cell? ⟨w.heap.size, 7, none⟩ = some (.int .u8 (t 5)) := box_cell x0 7 _ rfl
  have c08 : W1.cell? ⟨w.heap.size, 8, none⟩ = some (.int .u8 (t 6)) := box_cell x0 8 _ rfl
  have c09 : W1.cell? ⟨w.heap.size, 9, none⟩ = some (.int .u8 (t 7)) := box_cell x0 9 _ rfl
  have c010 : W1.cell? ⟨w.heap.size, 10, none⟩ = some (.slice A n c) := box_cell x0 10 _ rfl
  have c10 : W1.cell? ⟨w.heap.size + 1, 0, none⟩ = some (.int .u8 x) := box_cell x1 0 _ rfl
  have c11 : W1.cell? ⟨w.heap.size + 1, 1, none⟩ = some (.int .i64 nd) := box_cell x1 1 _ rfl
  have c12 : W1.cell? ⟨w.heap.size + 1, 2, none⟩ = some (.int .u8 (t 0)) := box_cell x1 2 _ rfl
  have c13 : W1.cell? ⟨w.heap.size + 1, 3, none⟩ = some (.int .u8 (t 1)) := box_cell x1 3 _ rfl
  have c14 : W1.cell? ⟨w.heap.size + 1, 4, none⟩ = some (.int .u8 (t 2)) := box_cell x1 4 _ rfl
  have c15 : W1.cell? ⟨w.heap.size + 1, 5, none⟩ = some (.int .u8 (t 3)) := box_cell x1 5 _ rfl
  have c16 : W1.cell? ⟨w.heap.size + 1, 6, none⟩ = some (.int .u8 (t 4)) := box_cell x1 6 _ rfl
  have c17 : W1.cell? ⟨w.heap.size + 1, 7, none⟩ = some (.int .u8 (t 5)) := box_cell x1 7 _ rfl
  have c18 : W1.cell? ⟨w.heap.size + 1, 8, none⟩ = some (.int .u8 (t 6)) := box_cell x1 8 _ rfl
  have c19 : W1.cell? ⟨w.heap.size + 1, 9, none⟩ = some (.int .u8 (t 7)) := box_cell x1 9 _ rfl
  have c110 : W1.cell? ⟨w.heap.size + 1, 10, none⟩ = some (.slice B m d) := box_cell x1 10 _ rfl
  have q0 : ((x : Int) == x) = true := by simp
  have q1 : (nd == nd) = true := by simp
  have hEq := eq8 t
  clear x0 x1
  go_enter Try.func11, Try.ntmps11
  go_wp2_with (rw [← hW1])
  clear hW1
  refine HS.out.mono ?_
  rintro e w' ⟨rfl, ⟨q, rfl⟩⟩
  clear c00 c01 c02 c03 c04 c05 c06 c07 c08 c09 c010 c10 c11 c12 c13 c14 c15 c16 c17 c18 c19 c110 HS
  go_wp2
  go_ret
  exact ⟨rfl, below_drewN hbl q⟩
end Go.Proofs.Ytikjhandhgfohaa
