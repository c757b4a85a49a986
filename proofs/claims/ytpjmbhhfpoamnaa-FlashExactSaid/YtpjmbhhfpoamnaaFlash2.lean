import Derived.Test.YtpjmbhhfpoamnaaFlash
import Derived.Deep.RegionHeld3
set_option linter.unusedVariables false
set_option linter.unusedSimpArgs false
namespace Go.Proofs.Ytpjmbhhfpoamnaa
open Go.RowKit
def bankF (s : FSt) (n : Nat) : List UInt8 := if n = 0 then s.b0 else s.b1
/-- a bank's slice, as the block holds it -/
theorem Fl.bank {w : World} {p : Nat} {G : List Nat} {s : FSt} (h : Fl w p G s) (n : Nat) (hn : n ≤ 1) : ∃ A c, w.cell? ⟨p, 1 + n, none⟩ = some (.slice A (bankF s n).length c) ∧ Sl w 1 A (bankF s n).length c ((bankF s n).map by8) := by
  obtain ⟨v0, v1, va, hb, h0, h1, _⟩ := h.out
  rcases (show n = 0 ∨ n = 1 by omega) with rfl | rfl
  · obtain ⟨A, c, rfl, s0, _⟩ := own_sl h0
    exact ⟨A, c, box_cell hb 1 _ rfl, s0⟩
  · obtain ⟨A, c, rfl, s0, _⟩ := own_sl h1
    exact ⟨A, c, box_cell hb 2 _ rfl, s0⟩
theorem Fl.cellSize {w : World} {p : Nat} {G : List Nat} {s : FSt} (h : Fl w p G s) : w.cell? ⟨p, 0, none⟩ = some (.int .i64 s.size) := by
  obtain ⟨v0, v1, va, hb, _⟩ := h.out
  exact box_cell hb 0 _ rfl
set_option maxHeartbeats 400000 in
theorem flash_Read_yes (w : World) {p : Nat} {G : List Nat} {s : FSt} (h : Fl w p G s) (n : Nat) (hn : n ≤ 1) (hd : s.down = false) (hl : (bankF s n).length ≤ 140737488355328) :
    Calls Try.prog 24 #[.pointer (some ⟨p, 0, none⟩), .int .i64 n] w fun e w' => e = .returned (.tuple #[.slice (some ⟨w.heap.size, 0, none⟩) (bankF s n).length (bankF s n).length, .int .i64 0]) ∧
      w'.ownsRow w.heap.size 5 1 (.slice (some ⟨w.heap.size, 0, none⟩) (bankF s n).length (bankF s n).length) (bankF s n).length ((bankF s n).map by8) ∧ Below w.heap.size w w' := by
  obtain ⟨A, c, hc, sb⟩ := h.bank n hn
  obtain ⟨l, hle⟩ : ∃ l, l = bankF s n := ⟨_, rfl⟩
  rw [← hle] at hc sb hl ⊢
  clear hle
  go_enter Try.func24, Try.ntmps24
  go_wp2_with (first | (at_builtin; refine Stopped.out ?_) | (at_make; refine Stopped.out ?_))
  refine (flash_at_yes _ h n hn hd).mono ?_
  rintro e w' ⟨rfl, rfl⟩
  go_wp2_with (first | (at_builtin; refine Stopped.out ?_) | (at_make; refine Stopped.out ?_))
  refine (flash_own _ sb hl).mono ?_
  rintro e w1 ⟨rfl, o1, hb1⟩
  go_wp2
  go_ret2
  exact ⟨rfl, o1, hb1⟩
theorem flash_Read_no (w : World) {p : Nat} {G : List Nat} {s : FSt} (h : Fl w p G s) (n : Int) (hr : refusedF s n ≠ 0) :
    Calls Try.prog 24 #[.pointer (some ⟨p, 0, none⟩), .int .i64 n] w fun e w' => e = .returned (.tuple #[.slice none 0 0, .int .i64 (refusedF s n : Nat)]) ∧ w = w' := by
  have HA := Lib.hid (flash_at_no w h n hr)
  have q : (((refusedF s n : Nat) : Int) != 0) = true := by simp; omega
  obtain ⟨r, hre⟩ : ∃ r, r = refusedF s n := ⟨_, rfl⟩
  rw [← hre] at HA q ⊢
  clear hre hr
  go_enter Try.func24, Try.ntmps24
  go_wp2_with (first | (at_builtin; refine Stopped.out ?_) | (at_make; refine Stopped.out ?_))
  refine HA.out.mono ?_
  rintro e w' ⟨rfl, rfl⟩
  go_wp2
  go_ret2
  exact ⟨rfl, rfl⟩
theorem flash_Room_no (w : World) {p : Nat} {G : List Nat} {s : FSt} (h : Fl w p G s) (n : Int) (hr : refusedF s n ≠ 0) :
    Calls Try.prog 28 #[.pointer (some ⟨p, 0, none⟩), .int .i64 n] w fun e w' => e = .returned (.tuple #[.int .i64 0, .int .i64 (refusedF s n : Nat)]) ∧ w = w' := by
  have HA := Lib.hid (flash_at_no w h n hr)
  have q : (((refusedF s n : Nat) : Int) != 0) = true := by simp; omega
  obtain ⟨r, hre⟩ : ∃ r, r = refusedF s n := ⟨_, rfl⟩
  rw [← hre] at HA q ⊢
  clear hre hr
  go_enter Try.func28, Try.ntmps28
  go_wp2_with (first | (at_builtin; refine Stopped.out ?_) | (at_make; refine Stopped.out ?_))
  refine HA.out.mono ?_
  rintro e w' ⟨rfl, rfl⟩
  go_wp2
  go_ret2
  exact ⟨rfl, rfl⟩
set_option maxHeartbeats 400000 in
theorem flash_Room_yes (w : World) {p : Nat} {G : List Nat} {s : FSt} (h : Fl w p G s) (n : Nat) (hn : n ≤ 1) (hd : s.down = false) (hs : s.size ≤ 1048576) (hl : (bankF s n).length ≤ s.size) :
    Calls Try.prog 28 #[.pointer (some ⟨p, 0, none⟩), .int .i64 n] w fun e w' => e = .returned (.tuple #[.int .i64 (s.size - (bankF s n).length : Nat), .int .i64 0]) ∧ Drawn w w' := by
  obtain ⟨A, c, hc, sb⟩ := h.bank n hn
  have c0 := h.cellSize
  obtain ⟨m, hle⟩ : ∃ m, m = (bankF s n).length := ⟨_, rfl⟩
  obtain ⟨z, hz⟩ : ∃ z, z = s.size := ⟨_, rfl⟩
  have HA := Lib.hid (flash_at_yes w h n hn hd)
  rw [← hle] at hc hl ⊢
  rw [← hz] at c0 hs hl ⊢
  have hsub : ((z - m : Nat) : Int) = (z : Int) - m := by omega
  clear hle hz sb
  rw [hsub]
  clear hsub
  go_enter Try.func28, Try.ntmps28
  go_wp2_with (first | (at_builtin; refine Stopped.out ?_) | (at_make; refine Stopped.out ?_))
  refine HA.out.mono ?_
  rintro e w' ⟨rfl, rfl⟩
  go_wp2
  go_quiet (fail)
  go_wp2
  go_ret2
  exact ⟨by simp, (by first | exact ⟨⟨_, rfl⟩⟩ | exact ⟨⟨_, World.drewN_drewN ..⟩⟩)⟩
theorem flash_Restart (w : World) {p : Nat} {G : List Nat} {s : FSt} (h : Fl w p G s) :
    Calls Try.prog 34 #[.pointer (some ⟨p, 0, none⟩)] w fun e w' => e = .returned (.int .i64 (if s.down then 0 else 123)) ∧ FStep w w' p G { s with down := false } := by
  obtain ⟨v0, v1, va, hb, h0, h1, ha, k0, k1, ka⟩ := h.out
  have hm := h.mem; have hlts := h.lts
  cases hsd : s.down
  · have c6 := box_cell hb 6 (.bool false) (by rw [hsd]; rfl)
    have HK : Hid (FStep w w p G { s with down := false }) := Lib.hid ⟨G, by
      have : ({ s with down := false } : FSt) = s := by cases s; simp at hsd; simp [hsd]
      rw [this]; exact h, Keep.refl _ _, fun x hx => .inl hx⟩
    clear hb h0 h1 ha k0 k1 ka
    go_enter Try.func34, Try.ntmps34
    go_wp2
    go_ret
    exact ⟨rfl, HK.out⟩
  · have c6 := box_cell hb 6 (.bool true) (by rw [hsd]; rfl)
    have f6 := box_free hb 6
    have HK : Hid (FStep w (w.setCell ⟨p, 6, none⟩ (.bool false)) p G { s with down := false }) := Lib.hid (by
      have k2 : Keep [p] w (w.setCell ⟨p, 6, none⟩ (.bool false)) := (Keep.refl [p] w).setCell (.inl (by simp)) _
      refine ⟨G, ⟨⟨v0, v1, va, ?_, k2.own h0 (fun k hk => by have := (k0 k hk).1; simpa using this), k2.own h1 (fun k hk => by have := (k1 k hk).1; simpa using this), k2.own ha (fun k hk => by have := (ka k hk).1; simpa using this), k0, k1, ka⟩, hm, fun x hx => by have := hlts x hx; simpa using this⟩, (Keep.refl G w).setCell (.inl hm) _, fun x hx => .inl hx⟩
      have := heap_setCell_same w p 6 _ _ (.bool false) hb
      simpa using this)
    clear hb h0 h1 ha k0 k1 ka
    go_enter Try.func34, Try.ntmps34
    go_wp2
    go_ret
    exact ⟨rfl, HK.out⟩
end Go.Proofs.Ytpjmbhhfpoamnaa
