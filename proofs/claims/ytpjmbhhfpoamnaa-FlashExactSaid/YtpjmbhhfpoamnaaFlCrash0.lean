import Derived.Test.YtpjmbhhfpoamnaaFlash13
import Derived.Test.YtpjmbhhfpoamnaaFlW
set_option linter.unusedVariables false
set_option linter.unusedSimpArgs false
namespace Go.Proofs.Ytpjmbhhfpoamnaa
open Go.RowKit
theorem flash_Append_no (w : World) {p : Nat} {G : List Nat} {s : FSt} (h : Fl w p G s) (n : Int) (hr : refusedF s n ≠ 0) (A : Option Addr) (m c : Nat) :
    Calls Try.prog 23 #[.pointer (some ⟨p, 0, none⟩), .int .i64 n, .slice A m c] w fun e w' => e = .returned (.int .i64 (refusedF s n : Nat)) ∧ w = w' := by
  have HA := Lib.hid (flash_at_no w h n hr)
  have q : (((refusedF s n : Nat) : Int) != 0) = true := by simp; omega
  obtain ⟨r, hre⟩ : ∃ r, r = refusedF s n := ⟨_, rfl⟩
  rw [← hre] at HA q ⊢
  clear hre hr
  go_enter Try.func23, Try.ntmps23
  go_wp2_with (first | (at_builtin; refine Stopped.out ?_) | (at_make; refine Stopped.out ?_))
  refine HA.out.mono ?_
  rintro e w' ⟨rfl, rfl⟩
  go_wp2
  go_ret
  exact ⟨rfl, rfl⟩
theorem flash_Erase_no (w : World) {p : Nat} {G : List Nat} {s : FSt} (h : Fl w p G s) (n : Int) (hr : refusedF s n ≠ 0) :
    Calls Try.prog 35 #[.pointer (some ⟨p, 0, none⟩), .int .i64 n] w fun e w' => e = .returned (.int .i64 (refusedF s n : Nat)) ∧ w = w' := by
  have HA := Lib.hid (flash_at_no w h n hr)
  have q : (((refusedF s n : Nat) : Int) != 0) = true := by simp; omega
  obtain ⟨r, hre⟩ : ∃ r, r = refusedF s n := ⟨_, rfl⟩
  rw [← hre] at HA q ⊢
  clear hre hr
  go_enter Try.func35, Try.ntmps35
  go_wp2_with (first | (at_builtin; refine Stopped.out ?_) | (at_make; refine Stopped.out ?_))
  refine HA.out.mono ?_
  rintro e w' ⟨rfl, rfl⟩
  go_wp2
  go_ret
  exact ⟨rfl, rfl⟩
theorem FlW.stepAt {W w w1 : World} {p : Nat} {s s' : FSt} (h : FlW W w p s) (kb : Below w.heap.size w w1) {Q : Ending → Prop} {f : FuncId} {args : Array Value} (hc : ∀ G, Fl w1 p G s → (∀ x ∈ G, W.heap.size ≤ x ∧ x < w.heap.size) → Calls Try.prog f args w1 fun e w' => Q e ∧ FStep w1 w' p G s') :
    Calls Try.prog f args w1 fun e w' => Q e ∧ FlW W w' p s' := by
  obtain ⟨G, h1, h2⟩ := h.out
  refine (hc G (h1.below kb) (fun x hx => ⟨h2 x hx, h1.lts x hx⟩)).mono fun e w' ⟨he, k⟩ => ⟨he, ?_⟩
  obtain ⟨G', k1, k2, k3, _⟩ := k.below (bthen h.below kb) h2
  exact ⟨⟨G', k1, k3⟩, k2⟩
theorem one_u8 (w : World) (j : Nat) : Sl (w.alloc (.cells #[.int .u8 ((j : Int) % 256)] 5)) 1 (some ⟨w.heap.size, 0, none⟩) 1 1 ([UInt8.ofNat j].map by8) := by
  have e : [UInt8.ofNat j].map by8 = [.int .u8 ((j : Int) % 256)] := by simp [by8]
  rw [e]
  exact Sl.fresh w [.int .u8 ((j : Int) % 256)] _ 1 1 rfl (by decide)
theorem strike_no {s : FSt} {c : Nat × Nat} {r : List (Nat × Nat)} (h : s.armed = c :: r) (hc : s.count + 1 < c.1) : strikeF s = { s with writes := s.writes + 1, count := s.count + 1 } ∧ struckF s = false ∧ keepF s = 0 := by
  simp [strikeF, struckF, keepF, h, hc]
theorem strike_yes {s : FSt} {c : Nat × Nat} {r : List (Nat × Nat)} (h : s.armed = c :: r) (hc : ¬ s.count + 1 < c.1) : strikeF s = { s with writes := s.writes + 1, armed := r, count := 0, down := true } ∧ struckF s = true ∧ keepF s = c.2 := by
  simp [strikeF, struckF, keepF, h, hc]
end Go.Proofs.Ytpjmbhhfpoamnaa
