import Derived.Test.YtpjmbhhfpoamnaaFlash2
set_option linter.unusedVariables false
set_option linter.unusedSimpArgs false
namespace Go.Proofs.Ytpjmbhhfpoamnaa
open Go.RowKit
set_option maxHeartbeats 800000 in
set_option maxRecDepth 100000 in
theorem flash_Files (w : World) {p : Nat} {G : List Nat} {s : FSt} (h : Fl w p G s) (h0 : s.b0.length ≤ 140737488355328) (h1 : s.b1.length ≤ 140737488355328) :
    Calls Try.prog 25 #[.pointer (some ⟨p, 0, none⟩)] w fun e w' => ∃ A B, e = .returned (.tuple #[.slice A s.b0.length s.b0.length, .slice B s.b1.length s.b1.length]) ∧
      w'.ownsRow w.heap.size 5 1 (.slice A s.b0.length s.b0.length) s.b0.length (s.b0.map by8) ∧ w'.ownsRow w.heap.size 5 1 (.slice B s.b1.length s.b1.length) s.b1.length (s.b1.map by8) ∧
      (∀ ad, A = some ad → ∀ ae, B = some ae → ad.block ≠ ae.block) ∧ Below w.heap.size w w' := by
  obtain ⟨A0, c0, g0, s0⟩ := h.bank 0 (by decide)
  obtain ⟨A1, c1, g1, s1⟩ := h.bank 1 (by decide)
  have e0 : bankF s 0 = s.b0 := rfl
  have e1 : bankF s 1 = s.b1 := rfl
  rw [e0] at g0 s0; rw [e1] at g1 s1
  obtain ⟨x, hx⟩ : ∃ x, x = s.b0 := ⟨_, rfl⟩
  obtain ⟨y, hy⟩ : ∃ y, y = s.b1 := ⟨_, rfl⟩
  rw [← hx] at g0 s0 h0 ⊢; rw [← hy] at g1 s1 h1 ⊢
  clear hx hy e0 e1
  have g1' : w.cell? ⟨p, 2, none⟩ = some (.slice A1 y.length c1) := g1
  have g0' : w.cell? ⟨p, 1, none⟩ = some (.slice A0 x.length c0) := g0
  clear g0 g1
  go_enter Try.func25, Try.ntmps25
  go_wp2_with fail
  go_region_held3 (fun w' => w'.cell? ⟨p, 1, none⟩ = some (.slice A0 x.length c0) ∧ w'.cell? ⟨p, 2, none⟩ = some (.slice A1 y.length c1))
    (first | exact ⟨cell_below (cell_below (w := w.drew) g0' hb2) hb3, cell_below (cell_below (w := w.drew) g1' hb2) hb3⟩ | exact ⟨cell_below (w := w.drew) g0' hb2, cell_below (w := w.drew) g1' hb2⟩ | go_keep)
    (first
      | (go_at_call 74; refine (flash_own _ (s1.drew.below hb2) h1).mono ?_; rintro e w3 ⟨rfl, o3, hb3⟩)
      | (go_at_call 74; refine (flash_own _ s0.drew h0).mono ?_; rintro e w2 ⟨rfl, o2, hb2⟩))
  all_goals
    go_wp2
    go_ret2
    refine ⟨_, _, rfl, own_below o2 hb3, own_mono o3 hb2.size, ?_, bthen (bthen ((Below.refl _ _).drew) hb2) hb3⟩
    intro ad ea ae eb
    obtain rfl := Option.some.inj ea
    obtain rfl := Option.some.inj eb
    have := (own_sl' o2).2.2 _ rfl
    simp at this ⊢
    omega
end Go.Proofs.Ytpjmbhhfpoamnaa
