import Derived.Test.YtpjmbhhfpoamnaaFlash4
set_option linter.unusedVariables false
set_option linter.unusedSimpArgs false
namespace Go.Proofs.Ytpjmbhhfpoamnaa
open Go.RowKit
/-- a write while no crash waits -/
theorem flash_write_calm (w : World) {p : Nat} {G : List Nat} {s : FSt} (h : Fl w p G s) (ha0 : s.armed = []) (hw : s.writes ≤ 4611686018427387904) :
    Calls Try.prog 76 #[.pointer (some ⟨p, 0, none⟩)] w fun e w' => e = .returned (.tuple #[.int .i64 0, .bool false]) ∧ FStep w w' p G { s with writes := s.writes + 1 } := by
  obtain ⟨v0, v1, va, hb, h0, h1, ha, k0, k1, ka⟩ := h.out
  have hm := h.mem; have hlts := h.lts
  have c5 := box_cell hb 5 (.int .i64 s.writes) rfl
  have f5 := box_free hb 5
  have HK : Hid (FStep w (w.setCell ⟨p, 5, none⟩ (.int .i64 ((s.writes + 1 : Nat) : Int))) p G { s with writes := s.writes + 1 }) := Lib.hid (by
    have kk : Keep [p] w (w.setCell ⟨p, 5, none⟩ (.int .i64 ((s.writes + 1 : Nat) : Int))) := (Keep.refl [p] w).setCell (.inl (by simp)) _
    refine ⟨G, ⟨⟨v0, v1, va, ?_, kk.own h0 (fun k hk => by have := (k0 k hk).1; simpa using this), kk.own h1 (fun k hk => by have := (k1 k hk).1; simpa using this), kk.own ha (fun k hk => by have := (ka k hk).1; simpa using this), k0, k1, ka⟩, hm, fun x hx => Nat.lt_of_lt_of_le (hlts x hx) kk.size⟩, kk.mono (by simpa using hm), fun x hx => .inl hx⟩
    have := heap_setCell_same w p 5 _ _ (.int .i64 ((s.writes + 1 : Nat) : Int)) hb
    simpa using this)
  have ha2 := ha
  rw [ha0] at ha2
  obtain ⟨Aa, ca, rfl, _, _⟩ := own_sl ha2
  have hb2 := heap_setCell_same w p 5 _ _ (.int .i64 ((s.writes + 1 : Nat) : Int)) hb
  have c3 := box_cell hb2 3 (.slice Aa 0 ca) rfl
  obtain ⟨n, hn⟩ : ∃ n, n = s.writes := ⟨_, rfl⟩
  have HN := Lib.hid hn
  rw [← hn] at c5 c3 hw
  rw [← hn] at HK
  have e1 : ((n + 1 : Nat) : Int) = (n : Int) + 1 := by omega
  rw [e1] at HK c3
  clear hb hb2 h0 h1 ha ha2 k0 k1 ka hn e1
  go_enter Try.func76, Try.ntmps76
  go_wp2
  go_ret2
  exact ⟨rfl, by rw [← HN.out]; exact HK.out⟩
end Go.Proofs.Ytpjmbhhfpoamnaa
