import Derived.Test.YtikjhandhgfohaaHand33
import Derived.Test.YtikjhandhgfohaaOpen
import Derived.Deep.RegionHeld3
set_option linter.unusedVariables false
set_option linter.unusedSimpArgs false
namespace Go.Proofs.Ytikjhandhgfohaa
open Go.RowKit
theorem marks_get (i k : Nat) (hi : i < 8) (v : Value) (hv : markL[k]? = some v) : (marksL 8)[i * 11 + k]? = some v := by
  unfold marksL
  exact flatten_get 11 (List.replicate 8 markL) i k markL v (fun r hr => by rw [(List.mem_replicate.1 hr).2]; rfl) (by rw [List.getElem?_replicate, if_pos hi]) hv
theorem marks_at {w : World} {g C : Nat} {P : List Value} (hP : P.length = 11) (s : Sl w 11 (some ⟨g, 0, none⟩) 9 C (P ++ marksL 8)) (j k : Nat) (h1 : 1 ≤ j) (h9 : j < 9) (v : Value) (hv : markL[k]? = some v) (hk : k < 11) : w.cell? ⟨g, j * 11 + k, none⟩ = some v := by
  have h3 : (P ++ marksL 8)[j * 11 + k]? = some v := by
    rw [List.getElem?_append_right (by omega), hP, show j * 11 + k - 11 = (j - 1) * 11 + k by omega]
    exact marks_get (j - 1) k (by omega) v hv
  obtain ⟨h4, h5⟩ := List.getElem?_eq_some_iff.1 h3
  have := s.cell (j * 11 + k) h4
  rwa [Nat.zero_add, h5] at this
set_option maxRecDepth 100000 in
set_option maxHeartbeats 3200000 in
theorem left33 (w : World) {B g C h Ch bR cR z : Nat} (x : Nat) (nd : Int) (t : Nat → Nat) {A : Option Addr} {n c : Nat} {l : List UInt8} (og : w.ownsRow B 25 11 (.slice (some ⟨g, 0, none⟩) 9 C) 9 (pcL x nd t (some ⟨bR, 0, none⟩) n cR ++ marksL 8))
    (oh : w.ownsRow B 23 1 (.slice (some ⟨h, 0, none⟩) 1 Ch) 1 [.slice (some ⟨bR, 0, none⟩) (n + 64) cR]) (oR : w.ownsRow B 5 1 (.slice (some ⟨bR, 0, none⟩) (n + 64) cR) (n + 64) ((room33 l).map by8))
    (hz : w.heap[z]? = some (.cells (pcA x nd t A n c) 25 (0, 0))) (hs : Sl w 1 A n c (l.map by8)) (hn : n ≤ 3000) :
    Calls Try.prog 12 #[.slice (some ⟨g, 0, none⟩) 9 C, .slice (some ⟨h, 0, none⟩) 1 Ch, .slice (some ⟨z, 0, none⟩) 1 1] w fun e w' => e = .returned (.bool true) ∧ Below w.heap.size w w' := by
  have hl : l.length = n := by simpa using hs.len
  have sg := (own_sl' og).2.1
  have sh := (own_sl' oh).2.1
  have sR := (own_sl' oR).2.1
  have sP : Sl w 1 (some ⟨bR, 0, none⟩) n cR (l.map by8) := by
    have := sR.preB (m := n) (by omega)
    rwa [show (room33 l).take n = l by unfold room33; rw [List.take_append_of_le_length (by omega), List.take_of_length_le (by omega)]] at this
  have gc : ∀ k v, (pcL x nd t (some ⟨bR, 0, none⟩) n cR)[k]? = some v → w.cell? ⟨g, k, none⟩ = some v := fun k v hv => by
    obtain ⟨h1, h2⟩ := List.getElem?_eq_some_iff.1 hv
    have h3 := sg.cell k (by rw [List.length_append]; omega)
    rw [List.getElem_append_left h1, h2, Nat.zero_add] at h3
    exact h3
  have hc0 : w.cell? ⟨h, 0, none⟩ = some (.slice (some ⟨bR, 0, none⟩) (n + 64) cR) := sh.cell 0 (by simp)
  have SB : ∀ w', Below w.heap.size w w' → w'.cell? ⟨g, 0, none⟩ = some (.int .u8 x) ∧ w'.cell? ⟨g, 1, none⟩ = some (.int .i64 nd) ∧ w'.cell? ⟨g, 2, none⟩ = some (.int .u8 (t 0)) ∧ w'.cell? ⟨g, 3, none⟩ = some (.int .u8 (t 1)) ∧ w'.cell? ⟨g, 4, none⟩ = some (.int .u8 (t 2)) ∧ w'.cell? ⟨g, 5, none⟩ = some (.int .u8 (t 3)) ∧ w'.cell? ⟨g, 6, none⟩ = some (.int .u8 (t 4)) ∧ w'.cell? ⟨g, 7, none⟩ = some (.int .u8 (t 5)) ∧ w'.cell? ⟨g, 8, none⟩ = some (.int .u8 (t 6)) ∧ w'.cell? ⟨g, 9, none⟩ = some (.int .u8 (t 7)) ∧ w'.cell? ⟨g, 10, none⟩ = some (.slice (some ⟨bR, 0, none⟩) n cR) ∧ w'.cell? ⟨z, 0, none⟩ = some (.int .u8 x) ∧ w'.cell? ⟨z, 1, none⟩ = some (.int .i64 nd) ∧ w'.cell? ⟨z, 2, none⟩ = some (.int .u8 (t 0)) ∧ w'.cell? ⟨z, 3, none⟩ = some (.int .u8 (t 1)) ∧ w'.cell? ⟨z, 4, none⟩ = some (.int .u8 (t 2)) ∧ w'.cell? ⟨z, 5, none⟩ = some (.int .u8 (t 3)) ∧ w'.cell? ⟨z, 6, none⟩ = some (.int .u8 (t 4)) ∧ w'.cell? ⟨z, 7, none⟩ = some (.int .u8 (t 5)) ∧ w'.cell? ⟨z, 8, none⟩ = some (.int .u8 (t 6)) ∧ w'.cell? ⟨z, 9, none⟩ = some (.int .u8 (t 7)) ∧ w'.cell? ⟨z, 10, none⟩ = some (.slice A n c) ∧ w'.cell? ⟨h, 0, none⟩ = some (.slice (some ⟨bR, 0, none⟩) (n + 64) cR) := fun w' k => ⟨cell_below (gc 0 _ rfl) k, cell_below (gc 1 _ rfl) k, cell_below (gc 2 _ rfl) k, cell_below (gc 3 _ rfl) k, cell_below (gc 4 _ rfl) k, cell_below (gc 5 _ rfl) k, cell_below (gc 6 _ rfl) k, cell_below (gc 7 _ rfl) k, cell_below (gc 8 _ rfl) k, cell_below (gc 9 _ rfl) k, cell_below (gc 10 _ rfl) k, cell_below (box_cell hz 0 _ rfl) k, cell_below (box_cell hz 1 _ rfl) k, cell_below (box_cell hz 2 _ rfl) k, cell_below (box_cell hz 3 _ rfl) k, cell_below (box_cell hz 4 _ rfl) k, cell_below (box_cell hz 5 _ rfl) k, cell_below (box_cell hz 6 _ rfl) k, cell_below (box_cell hz 7 _ rfl) k, cell_below (box_cell hz 8 _ rfl) k, cell_below (box_cell hz 9 _ rfl) k, cell_below (box_cell hz 10 _ rfl) k, cell_below hc0 k⟩
  have HS1 : Hid (∀ w', Below w.heap.size w w' → Calls Try.prog 11 #[.agg (pcA x nd t (some ⟨bR, 0, none⟩) n cR), .agg (pcA x nd t A n c)] w' fun e w'' => e = .returned (.bool true) ∧ Below w'.heap.size w' w'') := Lib.hid fun w' k => samePiece_like w' x nd t (sP.below k) (hs.below k)
  have HS2 : Hid (∀ w', Below w.heap.size w w' → Calls Try.prog 7 #[.slice A n c] w' fun e w'' => ∃ v, e = .returned v ∧ w''.ownsRow w'.heap.size 5 1 v (n + 64) ((room33 l).map by8) ∧ Below w'.heap.size w' w'') := Lib.hid fun w' k => roomy33 w' (hs.below k) (by omega)
  have HSR := Lib.hid sR
  have HM : Hid (∀ w', Below w.heap.size w w' → ∀ j, 1 ≤ j → j < 9 → w'.cell? ⟨g, j * 11, none⟩ = some (.int .u8 (77 : Nat)) ∧ w'.cell? ⟨g, j * 11 + 10, none⟩ = some (.slice none 0 0)) := Lib.hid fun w' k j h1 h9 => ⟨cell_below (marks_at (pcL_len _ _ _ _ _ _) sg j 0 h1 h9 _ rfl (by omega)) k, cell_below (marks_at (pcL_len _ _ _ _ _ _) sg j 10 h1 h9 _ rfl (by omega)) k⟩
  have hC := sg.le
  have HSB := Lib.hid SB
  clear og oh oR hz hs sg sh sR sP gc hc0 SB
  go_enter Try.func12, Try.ntmps12
  go_wp2
  go_loopw [7] (fun i wr => (i = .int .i64 0 ∨ i = .int .i64 1) ∧ Below w.heap.size w wr) (fun i _ => 1 - (intOf i).toNat)
  case atStart => exact ⟨.inl rfl, Below.refl _ _⟩
  case round =>
    obtain ⟨rfl | rfl, hb⟩ := hrel
    · go_wp2_with fail
      refine wp_region_held_drew (S := (fun w' => w'.cell? ⟨g, 0, none⟩ = some (.int .u8 x) ∧ w'.cell? ⟨g, 1, none⟩ = some (.int .i64 nd) ∧ w'.cell? ⟨g, 2, none⟩ = some (.int .u8 (t 0)) ∧ w'.cell? ⟨g, 3, none⟩ = some (.int .u8 (t 1)) ∧ w'.cell? ⟨g, 4, none⟩ = some (.int .u8 (t 2)) ∧ w'.cell? ⟨g, 5, none⟩ = some (.int .u8 (t 3)) ∧ w'.cell? ⟨g, 6, none⟩ = some (.int .u8 (t 4)) ∧ w'.cell? ⟨g, 7, none⟩ = some (.int .u8 (t 5)) ∧ w'.cell? ⟨g, 8, none⟩ = some (.int .u8 (t 6)) ∧ w'.cell? ⟨g, 9, none⟩ = some (.int .u8 (t 7)) ∧ w'.cell? ⟨g, 10, none⟩ = some (.slice (some ⟨bR, 0, none⟩) n cR) ∧ w'.cell? ⟨z, 0, none⟩ = some (.int .u8 x) ∧ w'.cell? ⟨z, 1, none⟩ = some (.int .i64 nd) ∧ w'.cell? ⟨z, 2, none⟩ = some (.int .u8 (t 0)) ∧ w'.cell? ⟨z, 3, none⟩ = some (.int .u8 (t 1)) ∧ w'.cell? ⟨z, 4, none⟩ = some (.int .u8 (t 2)) ∧ w'.cell? ⟨z, 5, none⟩ = some (.int .u8 (t 3)) ∧ w'.cell? ⟨z, 6, none⟩ = some (.int .u8 (t 4)) ∧ w'.cell? ⟨z, 7, none⟩ = some (.int .u8 (t 5)) ∧ w'.cell? ⟨z, 8, none⟩ = some (.int .u8 (t 6)) ∧ w'.cell? ⟨z, 9, none⟩ = some (.int .u8 (t 7)) ∧ w'.cell? ⟨z, 10, none⟩ = some (.slice A n c) ∧ w'.cell? ⟨h, 0, none⟩ = some (.slice (some ⟨bR, 0, none⟩) (n + 64) cR))) (by kernel_rfl) (by (first | exact HSB.out _ k6 | exact HSB.out _ k5 | exact HSB.out _ k4 | exact HSB.out _ (bthen hb (by first | exact (Below.refl _ _).drew | exact below_drewN (Below.refl _ _) _)) | exact HSB.out _ hb)) (fun hHeld => ?_)
      refine wpAnyH_take (i := 0) (v := ?_) (by simp only [List.getElem?_toArray, List.getElem?_cons_succ, List.getElem?_cons_zero]; rfl) (by kernel_rfl) (by kernel_rfl) (by kernel_rfl) (by exact fun _ _ _ h => h) (Or.inl ⟨by rfl, ?_⟩) (by assumption) ?_
      rotate_left
      · (intro w hSw; (try dsimp only at hSw); go_simp; try with_reducible rfl)
      try simp only [Act.put, List.setIfInBounds_toArray, List.set_cons_zero, List.set_cons_succ]
      refine wpAnyH_take (i := 1) (v := ?_) (by simp only [List.getElem?_toArray, List.getElem?_cons_succ, List.getElem?_cons_zero]; rfl) (by kernel_rfl) (by kernel_rfl) (by kernel_rfl) (by exact fun _ _ _ h => h) (Or.inl ⟨by rfl, ?_⟩) (by assumption) ?_
      rotate_left
      · (intro w hSw; (try dsimp only at hSw); go_simp; try with_reducible rfl)
      try simp only [Act.put, List.setIfInBounds_toArray, List.set_cons_zero, List.set_cons_succ]
      refine wpAnyH_take (i := 2) (v := ?_) (by simp only [List.getElem?_toArray, List.getElem?_cons_succ, List.getElem?_cons_zero]; rfl) (by kernel_rfl) (by kernel_rfl) (by kernel_rfl) (by exact fun _ _ _ h => h) (Or.inl ⟨by rfl, ?_⟩) (by assumption) ?_
      rotate_left
      · (intro w hSw; (try dsimp only at hSw); go_simp; try with_reducible rfl)
      try simp only [Act.put, List.setIfInBounds_toArray, List.set_cons_zero, List.set_cons_succ]
      refine wpAnyH_take (i := 3) (v := ?_) (by simp only [List.getElem?_toArray, List.getElem?_cons_succ, List.getElem?_cons_zero]; rfl) (by kernel_rfl) (by kernel_rfl) (by kernel_rfl) (by exact fun _ _ _ h => h) (Or.inl ⟨by rfl, ?_⟩) (by assumption) ?_
      rotate_left
      · (intro w hSw; (try dsimp only at hSw); go_simp; try with_reducible rfl)
      try simp only [Act.put, List.setIfInBounds_toArray, List.set_cons_zero, List.set_cons_succ]
      refine wpAnyH_take (i := 4) (v := ?_) (by simp only [List.getElem?_toArray, List.getElem?_cons_succ, List.getElem?_cons_zero]; rfl) (by kernel_rfl) (by kernel_rfl) (by kernel_rfl) (by exact fun _ _ _ h => h) (Or.inl ⟨by rfl, ?_⟩) (by assumption) ?_
      rotate_left
      · (intro w hSw; (try dsimp only at hSw); go_simp; try with_reducible rfl)
      try simp only [Act.put, List.setIfInBounds_toArray, List.set_cons_zero, List.set_cons_succ]
      refine wpAnyH_take (i := 5) (v := ?_) (by simp only [List.getElem?_toArray, List.getElem?_cons_succ, List.getElem?_cons_zero]; rfl) (by kernel_rfl) (by kernel_rfl) (by kernel_rfl) (by exact fun _ _ _ h => h) (Or.inl ⟨by rfl, ?_⟩) (by assumption) ?_
      rotate_left
      · (intro w hSw; (try dsimp only at hSw); go_simp; try with_reducible rfl)
      try simp only [Act.put, List.setIfInBounds_toArray, List.set_cons_zero, List.set_cons_succ]
      refine wpAnyH_take (i := 6) (v := ?_) (by simp only [List.getElem?_toArray, List.getElem?_cons_succ, List.getElem?_cons_zero]; rfl) (by kernel_rfl) (by kernel_rfl) (by kernel_rfl) (by exact fun _ _ _ h => h) (Or.inl ⟨by rfl, ?_⟩) (by assumption) ?_
      rotate_left
      · (intro w hSw; (try dsimp only at hSw); go_simp; try with_reducible rfl)
      try simp only [Act.put, List.setIfInBounds_toArray, List.set_cons_zero, List.set_cons_succ]
      refine wpAnyH_take (i := 7) (v := ?_) (by simp only [List.getElem?_toArray, List.getElem?_cons_succ, List.getElem?_cons_zero]; rfl) (by kernel_rfl) (by kernel_rfl) (by kernel_rfl) (by exact fun _ _ _ h => h) (Or.inl ⟨by rfl, ?_⟩) (by assumption) ?_
      rotate_left
      · (intro w hSw; (try dsimp only at hSw); go_simp; try with_reducible rfl)
      try simp only [Act.put, List.setIfInBounds_toArray, List.set_cons_zero, List.set_cons_succ]
      refine wpAnyH_ready (rs := [8]) (by kernel_rfl) (by simp) ?_
      refine AllReadyH.cons rfl (fun K hK => ?_) AllReadyH.nil
      rw [if_pos (by rfl)]
      (go_wp2_with fail; refine (HS1.out _ (bthen hb (by first | exact (Below.refl _ _).drew | exact below_drewN (Below.refl _ _) _))).mono ?_; rintro e w4 ⟨rfl, hb4⟩; have k4 : Below w.heap.size w w4 := bthen (bthen hb (by first | exact (Below.refl _ _).drew | exact below_drewN (Below.refl _ _) _)) hb4; try dsimp only)
      refine hK.out _ _ (by (first | exact HSB.out _ k6 | exact HSB.out _ k5 | exact HSB.out _ k4 | exact HSB.out _ (bthen hb (by first | exact (Below.refl _ _).drew | exact below_drewN (Below.refl _ _) _)) | exact HSB.out _ hb)) (fun hHeld => ?_)
      clear hK K
      try simp only [Act.put, List.setIfInBounds_toArray, List.set_cons_zero, List.set_cons_succ]
      refine wpAnyH_take (i := 9) (v := ?_) (by simp only [List.getElem?_toArray, List.getElem?_cons_succ, List.getElem?_cons_zero]; rfl) (by kernel_rfl) (by kernel_rfl) (by kernel_rfl) (by exact fun _ _ _ h => h) (Or.inl ⟨by rfl, ?_⟩) (by assumption) ?_
      rotate_left
      · (intro w hSw; (try dsimp only at hSw); go_simp; try with_reducible rfl)
      try simp only [Act.put, List.setIfInBounds_toArray, List.set_cons_zero, List.set_cons_succ]
      refine wpAnyH_take (i := 10) (v := ?_) (by simp only [List.getElem?_toArray, List.getElem?_cons_succ, List.getElem?_cons_zero]; rfl) (by kernel_rfl) (by kernel_rfl) (by kernel_rfl) (by exact fun _ _ _ h => h) (Or.inl ⟨by rfl, ?_⟩) (by assumption) ?_
      rotate_left
      · (intro w hSw; (try dsimp only at hSw); go_simp; try with_reducible rfl)
      try simp only [Act.put, List.setIfInBounds_toArray, List.set_cons_zero, List.set_cons_succ]
      refine wpAnyH_take (i := 11) (v := ?_) (by simp only [List.getElem?_toArray, List.getElem?_cons_succ, List.getElem?_cons_zero]; rfl) (by kernel_rfl) (by kernel_rfl) (by kernel_rfl) (by exact fun _ _ _ h => h) (Or.inl ⟨by rfl, ?_⟩) (by assumption) ?_
      rotate_left
      · (intro w hSw; (try dsimp only at hSw); go_simp; try with_reducible rfl)
      try simp only [Act.put, List.setIfInBounds_toArray, List.set_cons_zero, List.set_cons_succ]
      refine wpAnyH_take (i := 12) (v := ?_) (by simp only [List.getElem?_toArray, List.getElem?_cons_succ, List.getElem?_cons_zero]; rfl) (by kernel_rfl) (by kernel_rfl) (by kernel_rfl) (by exact fun _ _ _ h => h) (Or.inl ⟨by rfl, ?_⟩) (by assumption) ?_
      rotate_left
      · (intro w hSw; (try dsimp only at hSw); go_simp; try with_reducible rfl)
      try simp only [Act.put, List.setIfInBounds_toArray, List.set_cons_zero, List.set_cons_succ]
      refine wpAnyH_take (i := 13) (v := ?_) (by simp only [List.getElem?_toArray, List.getElem?_cons_succ, List.getElem?_cons_zero]; rfl) (by kernel_rfl) (by kernel_rfl) (by kernel_rfl) (by exact fun _ _ _ h => h) (Or.inl ⟨by rfl, ?_⟩) (by assumption) ?_
      rotate_left
      · (intro w hSw; (try dsimp only at hSw); go_simp; try with_reducible rfl)
      try simp only [Act.put, List.setIfInBounds_toArray, List.set_cons_zero, List.set_cons_succ]
      refine wpAnyH_take (i := 14) (v := ?_) (by simp only [List.getElem?_toArray, List.getElem?_cons_succ, List.getElem?_cons_zero]; rfl) (by kernel_rfl) (by kernel_rfl) (by kernel_rfl) (by exact fun _ _ _ h => h) (Or.inl ⟨by rfl, ?_⟩) (by assumption) ?_
      rotate_left
      · (intro w hSw; (try dsimp only at hSw); go_simp; try with_reducible rfl)
      try simp only [Act.put, List.setIfInBounds_toArray, List.set_cons_zero, List.set_cons_succ]
      refine wpAnyH_take (i := 15) (v := ?_) (by simp only [List.getElem?_toArray, List.getElem?_cons_succ, List.getElem?_cons_zero]; rfl) (by kernel_rfl) (by kernel_rfl) (by kernel_rfl) (by exact fun _ _ _ h => h) (Or.inl ⟨by rfl, ?_⟩) (by assumption) ?_
      rotate_left
      · (intro w hSw; (try dsimp only at hSw); go_simp; try with_reducible rfl)
      try simp only [Act.put, List.setIfInBounds_toArray, List.set_cons_zero, List.set_cons_succ]
      refine wpAnyH_take (i := 16) (v := ?_) (by simp only [List.getElem?_toArray, List.getElem?_cons_succ, List.getElem?_cons_zero]; rfl) (by kernel_rfl) (by kernel_rfl) (by kernel_rfl) (by exact fun _ _ _ h => h) (Or.inl ⟨by rfl, ?_⟩) (by assumption) ?_
      rotate_left
      · (intro w hSw; (try dsimp only at hSw); go_simp; try with_reducible rfl)
      try simp only [Act.put, List.setIfInBounds_toArray, List.set_cons_zero, List.set_cons_succ]
      refine wpAnyH_take (i := 17) (v := ?_) (by simp only [List.getElem?_toArray, List.getElem?_cons_succ, List.getElem?_cons_zero]; rfl) (by kernel_rfl) (by kernel_rfl) (by kernel_rfl) (by exact fun _ _ _ h => h) (Or.inl ⟨by rfl, ?_⟩) (by assumption) ?_
      rotate_left
      · (intro w hSw; (try dsimp only at hSw); go_simp; try with_reducible rfl)
      try simp only [Act.put, List.setIfInBounds_toArray, List.set_cons_zero, List.set_cons_succ]
      refine wpAnyH_take (i := 18) (v := ?_) (by simp only [List.getElem?_toArray, List.getElem?_cons_succ, List.getElem?_cons_zero]; rfl) (by kernel_rfl) (by kernel_rfl) (by kernel_rfl) (by exact fun _ _ _ h => h) (Or.inl ⟨by rfl, ?_⟩) (by assumption) ?_
      rotate_left
      · (intro w hSw; (try dsimp only at hSw); go_simp; try with_reducible rfl)
      try simp only [Act.put, List.setIfInBounds_toArray, List.set_cons_zero, List.set_cons_succ]
      refine wpAnyH_take (i := 19) (v := ?_) (by simp only [List.getElem?_toArray, List.getElem?_cons_succ, List.getElem?_cons_zero]; rfl) (by kernel_rfl) (by kernel_rfl) (by kernel_rfl) (by exact fun _ _ _ h => h) (Or.inl ⟨by rfl, ?_⟩) (by assumption) ?_
      rotate_left
      · (intro w hSw; (try dsimp only at hSw); go_simp; try with_reducible rfl)
      try simp only [Act.put, List.setIfInBounds_toArray, List.set_cons_zero, List.set_cons_succ]
      refine wpAnyH_ready (rs := [20]) (by kernel_rfl) (by simp) ?_
      refine AllReadyH.cons rfl (fun K hK => ?_) AllReadyH.nil
      rw [if_pos (by rfl)]
      (go_wp2_with fail; refine (HS2.out _ k4).mono ?_; rintro e w5 ⟨v5, rfl, o5, hb5⟩; have k5 : Below w.heap.size w w5 := bthen k4 hb5; try dsimp only)
      refine hK.out _ _ (by (first | exact HSB.out _ k6 | exact HSB.out _ k5 | exact HSB.out _ k4 | exact HSB.out _ (bthen hb (by first | exact (Below.refl _ _).drew | exact below_drewN (Below.refl _ _) _)) | exact HSB.out _ hb)) (fun hHeld => ?_)
      clear hK K
      try simp only [Act.put, List.setIfInBounds_toArray, List.set_cons_zero, List.set_cons_succ]
      obtain ⟨A5, c5, rfl, s5, -⟩ := own_sl o5
      refine wpAnyH_ready (rs := [21]) (by kernel_rfl) (by simp) ?_
      refine AllReadyH.cons rfl (fun K hK => ?_) AllReadyH.nil
      rw [if_pos (by rfl)]
      (go_wp2_with fail; refine (same33 _ (HSR.out.below k5) s5).mono ?_; rintro e w6 ⟨rfl, hd⟩; have k6 : Below w.heap.size w w6 := bthen k5 hd.below; rw [decide_eq_true rfl]; try dsimp only)
      refine hK.out _ _ (by (first | exact HSB.out _ k6 | exact HSB.out _ k5 | exact HSB.out _ k4 | exact HSB.out _ (bthen hb (by first | exact (Below.refl _ _).drew | exact below_drewN (Below.refl _ _) _)) | exact HSB.out _ hb)) (fun hHeld => ?_)
      clear hK K
      try simp only [Act.put, List.setIfInBounds_toArray, List.set_cons_zero, List.set_cons_succ]
      refine wpAnyH_take (i := 22) (v := ?_) (by simp only [List.getElem?_toArray, List.getElem?_cons_succ, List.getElem?_cons_zero]; rfl) (by kernel_rfl) (by kernel_rfl) (by kernel_rfl) (by exact fun _ _ _ h => h) (Or.inl ⟨by rfl, ?_⟩) (by assumption) ?_
      rotate_left
      · (intro w hSw; (try dsimp only at hSw); go_simp; try with_reducible rfl)
      try simp only [Act.put, List.setIfInBounds_toArray, List.set_cons_zero, List.set_cons_succ]
      refine wpAnyH_take (i := 23) (v := ?_) (by simp only [List.getElem?_toArray, List.getElem?_cons_succ, List.getElem?_cons_zero]; rfl) (by kernel_rfl) (by kernel_rfl) (by kernel_rfl) (by exact fun _ _ _ h => h) (Or.inl ⟨by rfl, ?_⟩) (by assumption) ?_
      rotate_left
      · (intro w hSw; (try dsimp only at hSw); go_simp; try with_reducible rfl)
      try simp only [Act.put, List.setIfInBounds_toArray, List.set_cons_zero, List.set_cons_succ]
      refine wpAnyH_done (by kernel_rfl) ?_ _
      clear o5 s5 hb4 hb5 hd
      go_wp2
      first | go_roundw | refine ⟨?rel, ?measure⟩
      case rel => exact ⟨.inr (by go_num), k6⟩
      case measure => simp [intOf]
    · have H1 := Lib.hid hb
      clear hb
      go_wp2
      go_loopw [8] (fun i w5 => ∃ j : Nat, 1 ≤ j ∧ j ≤ 9 ∧ i = .int .i64 j ∧ Below w.heap.size w w5) (fun i _ => 9 - (intOf i).toNat)
      case atStart => exact ⟨1, by omega, by omega, rfl, H1.out⟩
      case round =>
        clear H1
        obtain ⟨j, hj1, hj9, rfl, hb⟩ := hrel
        by_cases hlt : j < 9
        · obtain ⟨m0, m1⟩ := HM.out _ hb j hj1 hlt
          have hj0 : (0 : Int) ≤ (j : Int) := Int.natCast_nonneg _
          have hj2 : (j : Int) < 9 := by omega
          have HB := Lib.hid hb
          clear hb
          go_wp2
          first | go_roundw | refine ⟨?rel, ?measure⟩
          case rel => exact ⟨j + 1, by omega, by omega, by go_num, HB.out⟩
          case measure => simp [intOf]; omega
        · have hj2 : (9 : Int) ≤ (j : Int) := by omega
          have HB := Lib.hid hb
          clear hb
          go_wp2
          go_ret
          exact ⟨rfl, HB.out⟩
end Go.Proofs.Ytikjhandhgfohaa
