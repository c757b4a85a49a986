import Derived.Test.YtpjmbhhfpoamnaaJn3
import Derived.Deep.RegionHeld3
set_option linter.unusedVariables false
set_option linter.unusedSimpArgs false
namespace Go.Proofs.Ytpjmbhhfpoamnaa
open Go.RowKit
/-- an open journal, as a value -/
structure JSt where
  bank : Nat
  epoch : Nat
  count : Nat
  used : Nat
  dead : Bool
def jCells (p : Nat) (j : JSt) : Array Value := #[fI p, .int .i64 j.bank, .int .i64 j.epoch, .int .i64 j.count, .int .i64 j.used, .bool j.dead]
def Jo (w : World) (q p : Nat) (j : JSt) : Prop := w.heap[q]? = some (.cells (jCells p j) 169 (0, 0))
theorem Jo.below {w w' : World} {q p : Nat} {j : JSt} (h : Jo w q p j) (k : Below w.heap.size w w') : Jo w' q p j := heap_below h k
theorem Jo.keep {w w' : World} {q p : Nat} {j : JSt} {M : List Nat} (h : Jo w q p j) (k : Keep M w w') (hM : q ∉ M) : Jo w' q p j := k.heap h hM
def jroom (j : JSt) (s : FSt) : Nat := if j.dead then 0 else if s.down then 0 else s.size - (bankF s j.bank).length
set_option maxRecDepth 100000 in
set_option maxHeartbeats 1600000 in
theorem JRoom_any (w : World) {q p : Nat} {G : List Nat} {j : JSt} {s : FSt} (hj : Jo w q p j) (h : Fl w p G s) (hk : FOk s) (hb : j.bank ≤ 1) :
    Calls Try.prog 62 #[.pointer (some ⟨q, 0, none⟩)] w fun e w' => e = .returned (.int .i64 (jroom j s : Nat)) ∧ Below w.heap.size w w' := by
  have hj2 := hj
  unfold Jo jCells fI at hj2
  have c0 : w.cell? ⟨q, 0, none⟩ = some (.iface 23 (.pointer (some ⟨p, 0, none⟩))) := box_cell hj2 0 _ rfl
  have c1 : w.cell? ⟨q, 1, none⟩ = some (.int .i64 j.bank) := box_cell hj2 1 _ rfl
  have c5 : w.cell? ⟨q, 5, none⟩ = some (.bool j.dead) := box_cell hj2 5 _ rfl
  have mM := mRoom p
  clear hj2
  by_cases hd : j.dead = true
  · have HJ : Hid (jroom j s = 0) := Lib.hid (by rw [jroom, if_pos hd])
    rw [hd] at c5
    clear hd c0 c1
    go_enter Try.func62, Try.ntmps62
    go_wp2
    go_ret
    rw [HJ.out]
    exact ⟨rfl, Below.refl _ _⟩
  · have hd0 : j.dead = false := by simpa using hd
    have HM : Hid (∀ w1, Below w.heap.size w w1 → Calls Try.prog 28 #[.pointer (some ⟨p, 0, none⟩), .int .i64 j.bank] w1 fun e w' => ∃ er : Int, e = .returned (.tuple #[.int .i64 (jroom j s : Nat), .int .i64 er]) ∧ Below w1.heap.size w1 w') := Lib.hid fun w1 k => by
      by_cases hs : s.down = true
      · refine (flash_Room_no w1 (h.below k) j.bank (by rw [refused_bank hb, hs]; decide)).mono fun e w' ⟨he, hw⟩ => ?_
        subst hw
        exact ⟨_, by rw [he, jroom, hd0, hs]; rfl, Below.refl _ _⟩
      · have hs0 : s.down = false := by simpa using hs
        refine (flash_Room_yes w1 (h.below k) j.bank hb hs0 hk.size (by have := hk.b0; have := hk.b1; unfold bankF; split <;> omega)).mono fun e w' ⟨he, hw⟩ => ?_
        exact ⟨_, by rw [he, jroom, hd0, hs0]; rfl, hw.below⟩
    obtain ⟨R, hR⟩ : ∃ R, R = jroom j s := ⟨_, rfl⟩
    rw [← hR] at HM ⊢
    rw [hd0] at c5
    have SB : Hid (∀ w', Below w.heap.size w w' → w'.cell? ⟨q, 0, none⟩ = some (.iface 23 (.pointer (some ⟨p, 0, none⟩))) ∧ w'.cell? ⟨q, 1, none⟩ = some (.int .i64 j.bank)) := Lib.hid fun w' k => ⟨cell_below c0 k, cell_below c1 k⟩
    clear hd hd0 hR hj h hk hb
    go_enter Try.func62, Try.ntmps62
    go_wp2_with fail
    refine wp_region_held_drew (S := (fun w' => w'.cell? ⟨q, 0, none⟩ = some (.iface 23 (.pointer (some ⟨p, 0, none⟩))) ∧ w'.cell? ⟨q, 1, none⟩ = some (.int .i64 j.bank))) (by kernel_rfl) (by (first | exact SB.out _ k2 | exact SB.out _ (Below.refl _ _) | exact SB.out _ (Below.refl _ _).drew)) (fun hHeld => ?_)
    refine wpAnyH_take (i := 0) (v := ?_) (by simp only [List.getElem?_toArray, List.getElem?_cons_succ, List.getElem?_cons_zero]; rfl) (by kernel_rfl) (by kernel_rfl) (by kernel_rfl) (by exact fun _ _ _ h => h) (Or.inl ⟨by rfl, ?_⟩) (by assumption) ?_
    rotate_left
    · (intro w hSw; (try dsimp only at hSw); go_simp; try with_reducible rfl)
    try simp only [Act.put, List.setIfInBounds_toArray, List.set_cons_zero, List.set_cons_succ]
    refine wpAnyH_take (i := 1) (v := ?_) (by simp only [List.getElem?_toArray, List.getElem?_cons_succ, List.getElem?_cons_zero]; rfl) (by kernel_rfl) (by kernel_rfl) (by kernel_rfl) (by exact fun _ _ _ h => h) (Or.inl ⟨by rfl, ?_⟩) (by assumption) ?_
    rotate_left
    · (intro w hSw; (try dsimp only at hSw); go_simp; try with_reducible rfl)
    try simp only [Act.put, List.setIfInBounds_toArray, List.set_cons_zero, List.set_cons_succ]
    refine wpAnyH_take (i := 2) (v := ?_) (by simp only [List.getElem?_toArray, List.getElem?_cons_succ, List.getElem?_cons_zero]; rfl) (by kernel_rfl) (by kernel_rfl) (by kernel_rfl) (by exact fun _ _ _ h => h) (Or.inl ⟨by rfl, ?_⟩) (by assumption) ?_
    rotate_left
    · (intro w hSw; (try dsimp only at hSw); go_simp; try with_reducible rfl)
    try simp only [Act.put, List.setIfInBounds_toArray, List.set_cons_zero, List.set_cons_succ]
    refine wpAnyH_take (i := 3) (v := ?_) (by simp only [List.getElem?_toArray, List.getElem?_cons_succ, List.getElem?_cons_zero]; rfl) (by kernel_rfl) (by kernel_rfl) (by kernel_rfl) (by exact fun _ _ _ h => h) (Or.inl ⟨by rfl, ?_⟩) (by assumption) ?_
    rotate_left
    · (intro w hSw; (try dsimp only at hSw); go_simp; try with_reducible rfl)
    try simp only [Act.put, List.setIfInBounds_toArray, List.set_cons_zero, List.set_cons_succ]
    refine wpAnyH_take (i := 4) (v := ?_) (by simp only [List.getElem?_toArray, List.getElem?_cons_succ, List.getElem?_cons_zero]; rfl) (by kernel_rfl) (by kernel_rfl) (by kernel_rfl) (by exact fun _ _ _ h => h) (Or.inl ⟨by rfl, ?_⟩) (by assumption) ?_
    rotate_left
    · (intro w hSw; (try dsimp only at hSw); go_simp; try with_reducible rfl)
    try simp only [Act.put, List.setIfInBounds_toArray, List.set_cons_zero, List.set_cons_succ]
    refine wpAnyH_take (i := 5) (v := ?_) (by simp only [List.getElem?_toArray, List.getElem?_cons_succ, List.getElem?_cons_zero]; rfl) (by kernel_rfl) (by kernel_rfl) (by kernel_rfl) (by exact fun _ _ _ h => h) (Or.inl ⟨by rfl, ?_⟩) (by assumption) ?_
    rotate_left
    · (intro w hSw; (try dsimp only at hSw); go_simp; try with_reducible rfl)
    try simp only [Act.put, List.setIfInBounds_toArray, List.set_cons_zero, List.set_cons_succ]
    refine wpAnyH_take (i := 6) (v := ?_) (by simp only [List.getElem?_toArray, List.getElem?_cons_succ, List.getElem?_cons_zero]; rfl) (by kernel_rfl) (by kernel_rfl) (by kernel_rfl) (by exact fun _ _ _ h => h) (Or.inl ⟨by rfl, ?_⟩) (by assumption) ?_
    rotate_left
    · (intro w hSw; (try dsimp only at hSw); go_simp; try with_reducible rfl)
    try simp only [Act.put, List.setIfInBounds_toArray, List.set_cons_zero, List.set_cons_succ]
    refine wpAnyH_take (i := 7) (v := ?_) (by simp only [List.getElem?_toArray, List.getElem?_cons_succ, List.getElem?_cons_zero]; rfl) (by kernel_rfl) (by kernel_rfl) (by kernel_rfl) (by exact fun _ _ _ h => h) (Or.inl ⟨by rfl, ?_⟩) (by assumption) ?_
    rotate_left
    · (intro w hSw; (try dsimp only at hSw); go_simp; try with_reducible rfl)
    try simp only [Act.put, List.setIfInBounds_toArray, List.set_cons_zero, List.set_cons_succ]
    refine wpAnyH_take (i := 8) (v := ?_) (by simp only [List.getElem?_toArray, List.getElem?_cons_succ, List.getElem?_cons_zero]; rfl) (by kernel_rfl) (by kernel_rfl) (by kernel_rfl) (by exact fun _ _ _ h => h) (Or.inl ⟨by rfl, ?_⟩) (by assumption) ?_
    rotate_left
    · (intro w hSw; (try dsimp only at hSw); go_simp; try with_reducible rfl)
    try simp only [Act.put, List.setIfInBounds_toArray, List.set_cons_zero, List.set_cons_succ]
    refine wpAnyH_take (i := 9) (v := ?_) (by simp only [List.getElem?_toArray, List.getElem?_cons_succ, List.getElem?_cons_zero]; rfl) (by kernel_rfl) (by kernel_rfl) (by kernel_rfl) (by exact fun _ _ _ h => h) (Or.inl ⟨by rfl, ?_⟩) (by assumption) ?_
    rotate_left
    · (intro w hSw; (try dsimp only at hSw); go_simp; try with_reducible rfl)
    try simp only [Act.put, List.setIfInBounds_toArray, List.set_cons_zero, List.set_cons_succ]
    refine wpAnyH_ready (rs := [10]) (by kernel_rfl) (by simp) ?_
    refine AllReadyH.cons rfl (fun K hK => ?_) AllReadyH.nil
    rw [if_pos (by rfl)]
    (go_wp2_with fail; refine (HM.out _ (by first | exact (Below.refl _ _).drew | exact below_drewN (Below.refl _ _) _)).mono ?_; rintro e w2 ⟨er, rfl, hb2⟩; have k2 : Below w.heap.size w w2 := bthen (by first | exact (Below.refl _ _).drew | exact below_drewN (Below.refl _ _) _) hb2; try dsimp only)
    refine hK.out _ _ (by (first | exact SB.out _ k2 | exact SB.out _ (Below.refl _ _) | exact SB.out _ (Below.refl _ _).drew)) (fun hHeld => ?_)
    clear hK K
    try simp only [Act.put, List.setIfInBounds_toArray, List.set_cons_zero, List.set_cons_succ]
    refine wpAnyH_take (i := 11) (v := ?_) (by simp only [List.getElem?_toArray, List.getElem?_cons_succ, List.getElem?_cons_zero]; rfl) (by kernel_rfl) (by kernel_rfl) (by kernel_rfl) (by exact fun _ _ _ h => h) (Or.inl ⟨by rfl, ?_⟩) (by assumption) ?_
    rotate_left
    · (intro w hSw; (try dsimp only at hSw); go_simp; try with_reducible rfl)
    try simp only [Act.put, List.setIfInBounds_toArray, List.set_cons_zero, List.set_cons_succ]
    refine wpAnyH_take (i := 12) (v := ?_) (by simp only [List.getElem?_toArray, List.getElem?_cons_succ, List.getElem?_cons_zero]; rfl) (by kernel_rfl) (by kernel_rfl) (by kernel_rfl) (by exact fun _ _ _ h => h) (Or.inl ⟨by rfl, ?_⟩) (by assumption) ?_
    rotate_left
    · (intro w hSw; (try dsimp only at hSw); go_simp; try with_reducible rfl)
    try simp only [Act.put, List.setIfInBounds_toArray, List.set_cons_zero, List.set_cons_succ]
    refine wpAnyH_take (i := 13) (v := ?_) (by simp only [List.getElem?_toArray, List.getElem?_cons_succ, List.getElem?_cons_zero]; rfl) (by kernel_rfl) (by kernel_rfl) (by kernel_rfl) (by exact fun _ _ _ h => h) (Or.inl ⟨by rfl, ?_⟩) (by assumption) ?_
    rotate_left
    · (intro w hSw; (try dsimp only at hSw); go_simp; try with_reducible rfl)
    try simp only [Act.put, List.setIfInBounds_toArray, List.set_cons_zero, List.set_cons_succ]
    refine wpAnyH_take (i := 14) (v := ?_) (by simp only [List.getElem?_toArray, List.getElem?_cons_succ, List.getElem?_cons_zero]; rfl) (by kernel_rfl) (by kernel_rfl) (by kernel_rfl) (by exact fun _ _ _ h => h) (Or.inl ⟨by rfl, ?_⟩) (by assumption) ?_
    rotate_left
    · (intro w hSw; (try dsimp only at hSw); go_simp; try with_reducible rfl)
    try simp only [Act.put, List.setIfInBounds_toArray, List.set_cons_zero, List.set_cons_succ]
    refine wpAnyH_take (i := 15) (v := ?_) (by simp only [List.getElem?_toArray, List.getElem?_cons_succ, List.getElem?_cons_zero]; rfl) (by kernel_rfl) (by kernel_rfl) (by kernel_rfl) (by exact fun _ _ _ h => h) (Or.inl ⟨by rfl, ?_⟩) (by assumption) ?_
    rotate_left
    · (intro w hSw; (try dsimp only at hSw); go_simp; try with_reducible rfl)
    try simp only [Act.put, List.setIfInBounds_toArray, List.set_cons_zero, List.set_cons_succ]
    refine wpAnyH_done (by kernel_rfl) ?_ _
    go_wp2
    go_ret
    exact ⟨rfl, k2⟩
end Go.Proofs.Ytpjmbhhfpoamnaa
