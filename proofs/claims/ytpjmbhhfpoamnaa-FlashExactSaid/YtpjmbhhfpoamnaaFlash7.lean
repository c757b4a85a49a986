import Derived.Test.YtpjmbhhfpoamnaaFlash6
set_option linter.unusedVariables false
set_option linter.unusedSimpArgs false
namespace Go.Proofs.Ytpjmbhhfpoamnaa
open Go.RowKit
theorem FStep.thn {w w' w'' : World} {p : Nat} {G G' : List Nat} {s : FSt} (h2 : Keep G w w') (h3 : ∀ x ∈ G', x ∈ G ∨ w.heap.size ≤ x) (k : FStep w' w'' p G' s) : FStep w w'' p G s := by
  obtain ⟨G2, k1, k2, k3⟩ := k.out
  refine ⟨G2, k1, h2.trans' k2 h3, fun x hx => ?_⟩
  rcases k3 x hx with h | h
  · exact h3 x h
  · exact .inr (Nat.le_trans h2.size h)
/-- an Append that finds no room -/
theorem flash_Append_full (w : World) {p : Nat} {G : List Nat} {s : FSt} (h : Fl w p G s) (n : Nat) (hn : n ≤ 1) (hd : s.down = false) (hs : s.size ≤ 1048576) (hl : (bankF s n).length ≤ s.size) {A : Option Addr} {m c : Nat} (hm : m ≤ 140737488355328) (hfull : s.size < (bankF s n).length + m) :
    Calls Try.prog 23 #[.pointer (some ⟨p, 0, none⟩), .int .i64 n, .slice A m c] w fun e w' => e = .returned (.int .i64 122) ∧ Drawn w w' := by
  obtain ⟨B, d, hc, sb⟩ := h.bank n hn
  have c0 := h.cellSize
  obtain ⟨q, hle⟩ : ∃ q, q = (bankF s n).length := ⟨_, rfl⟩
  obtain ⟨z, hz⟩ : ∃ z, z = s.size := ⟨_, rfl⟩
  have HA := Lib.hid (flash_at_yes w h n hn hd)
  rw [← hle] at hc hl hfull
  rw [← hz] at c0 hs hl hfull
  have i1 : (z : Int) - q < m := by omega
  clear hle hz sb
  go_enter Try.func23, Try.ntmps23
  go_wp2_with (first | (at_builtin; refine Stopped.out ?_) | (at_make; refine Stopped.out ?_))
  refine HA.out.mono ?_
  rintro e w' ⟨rfl, rfl⟩
  go_wp2
  go_quiet (fail)
  go_wp2
  go_ret
  exact ⟨rfl, (by first | exact ⟨⟨_, rfl⟩⟩ | exact ⟨⟨_, World.drewN_drewN ..⟩⟩)⟩
end Go.Proofs.Ytpjmbhhfpoamnaa
