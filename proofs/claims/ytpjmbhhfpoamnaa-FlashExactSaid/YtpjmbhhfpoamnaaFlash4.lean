import Derived.Test.YtpjmbhhfpoamnaaFlash3
set_option linter.unusedVariables false
set_option linter.unusedSimpArgs false
namespace Go.Proofs.Ytpjmbhhfpoamnaa
open Go.RowKit
set_option maxRecDepth 100000 in
theorem flash_Disarm (w : World) {p : Nat} {G : List Nat} {s : FSt} (h : Fl w p G s) :
    Calls Try.prog 39 #[.pointer (some ⟨p, 0, none⟩)] w fun e w' => e = .returned (.tuple #[]) ∧ FStep w w' p G { s with armed := [], count := 0 } := by
  obtain ⟨v0, v1, va, hb, h0, h1, ha, k0, k1, ka⟩ := h.out
  have hm := h.mem; have hlts := h.lts
  obtain ⟨w1, hw1⟩ : ∃ w1, w1 = w.setCell ⟨p, 3, none⟩ (.slice none 0 0) := ⟨_, rfl⟩
  have hb1 : w1.heap[p]? = some (.cells #[.int .i64 s.size, v0, v1, .slice none 0 0, .int .i64 s.count, .int .i64 s.writes, .bool s.down] 128 (0, 0)) := by
    have := heap_setCell_same w p 3 _ _ (.slice none 0 0) hb
    rw [← hw1] at this
    simpa using this
  have c3 := box_cell hb 3 va rfl
  have f3 := box_free hb 3
  have c4 := box_cell hb1 4 (.int .i64 s.count) rfl
  have f4 := box_free hb1 4
  have HK : Hid (FStep w (w1.setCell ⟨p, 4, none⟩ (.int .i64 0)) p G { s with armed := [], count := 0 }) := Lib.hid (by
    have k2 : Keep [p] w1 (w1.setCell ⟨p, 4, none⟩ (.int .i64 0)) := (Keep.refl [p] w1).setCell (.inl (by simp)) _
    have k1' : Keep [p] w w1 := by rw [hw1]; exact (Keep.refl [p] w).setCell (.inl (by simp)) _
    have kk := k1'.trans k2
    refine ⟨G, ⟨⟨v0, v1, .slice none 0 0, ?_, kk.own h0 (fun k hk => by have := (k0 k hk).1; simpa using this), kk.own h1 (fun k hk => by have := (k1 k hk).1; simpa using this), World.ownsRow_nil .., fun k hk => ⟨(k0 k hk).1, (k0 k hk).2.1, (k0 k hk).2.2.1, by simp [Value.ownBlock]⟩, fun k hk => ⟨(k1 k hk).1, (k1 k hk).2.1, by simp [Value.ownBlock]⟩, fun k hk => by cases hk⟩, hm, fun x hx => Nat.lt_of_lt_of_le (hlts x hx) kk.size⟩, kk.mono (by simpa using hm), fun x hx => .inl hx⟩
    have := heap_setCell_same w1 p 4 _ _ (.int .i64 0) hb1
    simpa using this)
  obtain ⟨Aa, ca, rfl, _, _⟩ := own_sl ha
  rw [hw1] at c4 f4 HK
  clear hb hb1 h0 h1 ha k0 k1 ka hw1
  go_enter Try.func39, Try.ntmps39
  go_wp2
  go_end0
  exact ⟨rfl, HK.out⟩
end Go.Proofs.Ytpjmbhhfpoamnaa
