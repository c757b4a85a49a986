import Derived.Test.YtpjmbhhfpoamnaaSteps12
import Derived.Test.YtpjmbhhfpoamnaaFlCrash0
set_option linter.unusedVariables false
set_option linter.unusedSimpArgs false
namespace Go.Proofs.Ytpjmbhhfpoamnaa
open Go.RowKit
def appF (s : FSt) (n : Int) (l : List UInt8) : FSt × Nat :=
  if refusedF s n ≠ 0 then (s, refusedF s n) else if s.size < (bankF s n.toNat).length + l.length then (s, 122) else (addB (strikeF s) n.toNat (if struckF s then l.take (keepF s) else l), if struckF s then 121 else 0)
def eraF (s : FSt) (n : Int) : FSt × Nat :=
  if refusedF s n ≠ 0 then (s, refusedF s n) else (setB (strikeF s) n.toNat (eraL s (bankF s n.toNat)), if struckF s then 121 else 0)
def armF (s : FSt) (a k : Int) : FSt × Nat :=
  if a < 1 ∨ 1000000 < a ∨ k < 0 ∨ 1048576 < k then (s, 2) else if 64 ≤ s.armed.length then (s, 1) else ({ s with armed := s.armed ++ [(a.toNat, k.toNat)] }, 0)
def rstF (s : FSt) : FSt × Nat := ({ s with down := false }, if s.down then 0 else 123)
def doesF (s : FSt) (t : St12) : FSt × Nat :=
  if t.kd = 1 then appF s t.bank t.b else if t.kd = 2 then eraF s t.bank else if t.kd = 5 then armF s t.x t.y else if t.kd = 6 then ({ s with armed := [], count := 0 }, 0) else if t.kd = 7 then rstF s else (s, 0)
theorem refused_zero {s : FSt} {n : Int} (h : refusedF s n = 0) : (n = 0 ∨ n = 1) ∧ s.down = false := by
  unfold refusedF at h
  split at h
  · cases h
  · split at h
    · cases h
    · rename_i h1 h2
      refine ⟨by omega, by simpa using h2⟩
theorem flash_Append (w : World) {p : Nat} {G : List Nat} {s : FSt} (h : Fl w p G s) (hk : FOk s) (n : Int) {A : Option Addr} {m c : Nat} {l : List UInt8} (hb : Sl w 1 A m c (l.map by8)) (hA : ∀ ad, A = some ad → 0 < m → ad.block ∉ G) (hm : m ≤ 140737488355328) :
    Calls Try.prog 23 #[.pointer (some ⟨p, 0, none⟩), .int .i64 n, .slice A m c] w fun e w' => e = .returned (.int .i64 ((appF s n l).2 : Nat)) ∧ FStep w w' p G (appF s n l).1 := by
  have hl : l.length = m := by simpa using hb.len
  have hstay : FStep w w p G s := ⟨G, h, Keep.refl _ _, fun x hx => .inl hx⟩
  by_cases hr : refusedF s n ≠ 0
  · refine (flash_Append_no w h n hr A m c).mono fun e w' ⟨he, hw⟩ => ?_
    subst hw
    rw [appF, if_pos hr]
    exact ⟨he, hstay⟩
  · have hr0 : refusedF s n = 0 := by omega
    obtain ⟨hn, hd⟩ := refused_zero hr0
    by_cases hf : s.size < (bankF s n.toNat).length + l.length
    · have hbl : (bankF s n.toNat).length ≤ s.size := by unfold bankF; split; exact hk.b0; exact hk.b1
      have := flash_Append_full w h n.toNat (by omega) hd hk.size hbl (A := A) (m := m) (c := c) hm (by omega)
      rw [show ((n.toNat : Nat) : Int) = n by omega] at this
      refine this.mono fun e w' ⟨he, hw⟩ => ?_
      rw [appF, if_neg hr, if_pos hf]
      exact ⟨he, G, h.below hw.below, hw.keep G, fun x hx => .inl hx⟩
    · rw [appF, if_neg hr, if_neg hf]
      rcases hn with rfl | rfl
      · exact flash_Append_any0 w h hk hd hb hA (by have : bankF s (0 : Int).toNat = s.b0 := rfl; rw [this] at hf; omega)
      · exact flash_Append_any1 w h hk hd hb hA (by have : bankF s (1 : Int).toNat = s.b1 := rfl; rw [this] at hf; omega)
theorem flash_Erase (w : World) {p : Nat} {G : List Nat} {s : FSt} (h : Fl w p G s) (hk : FOk s) (n : Int) :
    Calls Try.prog 35 #[.pointer (some ⟨p, 0, none⟩), .int .i64 n] w fun e w' => e = .returned (.int .i64 ((eraF s n).2 : Nat)) ∧ FStep w w' p G (eraF s n).1 := by
  by_cases hr : refusedF s n ≠ 0
  · refine (flash_Erase_no w h n hr).mono fun e w' ⟨he, hw⟩ => ?_
    subst hw
    rw [eraF, if_pos hr]
    exact ⟨he, G, h, Keep.refl _ _, fun x hx => .inl hx⟩
  · obtain ⟨hn, hd⟩ := refused_zero (show refusedF s n = 0 by omega)
    rw [eraF, if_neg hr]
    rcases hn with rfl | rfl
    · exact flash_Erase_any0 w h hk hd
    · exact flash_Erase_any1 w h hk hd
set_option maxHeartbeats 800000 in
theorem flash_Arm_no (w : World) (p : Nat) (a k : Int) (h : a < 1 ∨ 1000000 < a ∨ k < 0 ∨ 1048576 < k) :
    Calls Try.prog 31 #[.pointer (some ⟨p, 0, none⟩), .int .i64 a, .int .i64 k] w fun e w' => e = .returned (.int .i64 2) ∧ w = w' := by
  by_cases h1 : a < 1
  · go_enter Try.func31, Try.ntmps31
    go_wp2
    go_ret
    exact ⟨rfl, rfl⟩
  have d1 : decide (a < 1) = false := decide_eq_false h1
  by_cases h2 : 1000000 < a
  · clear h1
    go_enter Try.func31, Try.ntmps31
    go_wp2
    go_ret
    exact ⟨rfl, rfl⟩
  have d2 : decide (1000000 < a) = false := decide_eq_false h2
  by_cases h3 : k < 0
  · clear h1 h2
    go_enter Try.func31, Try.ntmps31
    go_wp2
    go_ret
    exact ⟨rfl, rfl⟩
  have d3 : decide (k < 0) = false := decide_eq_false h3
  have h4 : 1048576 < k := by omega
  clear h1 h2 h3 h
  go_enter Try.func31, Try.ntmps31
  go_wp2
  go_ret
  exact ⟨rfl, rfl⟩
set_option maxHeartbeats 800000 in
theorem flash_Arm_full (w : World) {p : Nat} {G : List Nat} {s : FSt} (h : Fl w p G s) (a k : Int) (h1 : ¬ (a < 1 ∨ 1000000 < a ∨ k < 0 ∨ 1048576 < k)) (hl : 64 ≤ s.armed.length) :
    Calls Try.prog 31 #[.pointer (some ⟨p, 0, none⟩), .int .i64 a, .int .i64 k] w fun e w' => e = .returned (.int .i64 1) ∧ w = w' := by
  have d1 : decide (a < 1) = false := decide_eq_false (by omega)
  have d2 : decide (1000000 < a) = false := decide_eq_false (by omega)
  have d3 : decide (k < 0) = false := decide_eq_false (by omega)
  have d4 : decide (1048576 < k) = false := decide_eq_false (by omega)
  obtain ⟨v0, v1, va, hblk, r0, r1, ra, _⟩ := h.out
  obtain ⟨Aa, ca, rfl, sa, _⟩ := own_sl ra
  obtain ⟨n, hne⟩ : ∃ n, n = s.armed.length := ⟨_, rfl⟩
  have c3 : w.cell? ⟨p, 3, none⟩ = some (.slice Aa n ca) := by rw [hne]; exact box_cell hblk 3 _ rfl
  rw [← hne] at hl
  have i1 : (64 : Int) ≤ (n : Int) := by omega
  clear h h1 hblk r0 r1 ra sa hne
  go_enter Try.func31, Try.ntmps31
  go_wp2
  go_ret
  exact ⟨rfl, rfl⟩
theorem flash_Arm (w : World) {p : Nat} {G : List Nat} {s : FSt} (h : Fl w p G s) (a k : Int) :
    Calls Try.prog 31 #[.pointer (some ⟨p, 0, none⟩), .int .i64 a, .int .i64 k] w fun e w' => e = .returned (.int .i64 ((armF s a k).2 : Nat)) ∧ FStep w w' p G (armF s a k).1 := by
  have hstay : FStep w w p G s := ⟨G, h, Keep.refl _ _, fun x hx => .inl hx⟩
  by_cases h1 : a < 1 ∨ 1000000 < a ∨ k < 0 ∨ 1048576 < k
  · refine (flash_Arm_no w p a k h1).mono fun e w' ⟨he, hw⟩ => ?_
    subst hw
    rw [armF, if_pos h1]
    exact ⟨he, hstay⟩
  · by_cases h2 : 64 ≤ s.armed.length
    · refine (flash_Arm_full w h a k h1 h2).mono fun e w' ⟨he, hw⟩ => ?_
      subst hw
      rw [armF, if_neg h1, if_pos h2]
      exact ⟨he, hstay⟩
    · rw [armF, if_neg h1, if_neg h2]
      have := flash_Arm_yes w h a.toNat k.toNat (by omega) (by omega) (by omega)
      rwa [show ((a.toNat : Nat) : Int) = a by omega, show ((k.toNat : Nat) : Int) = k by omega] at this
end Go.Proofs.Ytpjmbhhfpoamnaa
