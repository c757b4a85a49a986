import Derived.Test.YtpjmbhhfpoamnaaEra12
set_option linter.unusedVariables false
set_option linter.unusedSimpArgs false
namespace Go.Proofs.Ytpjmbhhfpoamnaa
open Go.RowKit
theorem erased_yes (w : World) {A B : Option Addr} {n c m d : Nat} {was now : List UInt8} (ha : Sl w 1 A n c (was.map by8)) (hb : Sl w 1 B m d (now.map by8)) (e : Nat) (struck : Bool) (h : EraP was now e struck) :
    Calls Try.prog 80 #[.slice A n c, .slice B m d, .int .i64 e, .bool struck] w fun e w' => e = .returned (.bool true) ∧ Drawn w w' := by
  have hl : was.length = n := by simpa using ha.len
  have hr : now.length = m := by simpa using hb.len
  unfold EraP at h
  by_cases h0 : e = 0
  · rw [if_pos h0] at h
    obtain rfl : m = 0 := by rw [← hr, h]; rfl
    exact erased_nil w e struck (.inl h0)
  · rw [if_neg h0] at h
    by_cases hs : e = 121 ∧ struck = true
    · rw [if_pos hs] at h
      by_cases hm : m = 0
      · subst hm
        exact erased_nil w e struck (.inr hs)
      · obtain ⟨rfl, rfl⟩ := hs
        rcases h with h | ⟨k, hk, h⟩
        · rw [h] at hr; exact absurd hr.symm hm
        · have hlen : now.length = was.length := by rw [h]; simp; omega
          obtain rfl : n = m := by omega
          exact erased_part w ha hb hm k hk h
    · rw [if_neg hs] at h
      exact erased_same w ha hb e struck h0 hs h
/-- what a step may leave of a bank -/
def MayP (bank : Int) (was now : List UInt8) (t : St12) (e : Nat) (struck : Bool) : Prop :=
  if t.kd = 1 ∧ t.bank = bank then AppP was now t.b e struck else if t.kd = 2 ∧ t.bank = bank then EraP was now e struck else was = now
set_option maxRecDepth 100000 in
set_option maxHeartbeats 1600000 in
theorem may_yes (w : World) {A B : Option Addr} {n c m d : Nat} {was now : List UInt8} (ha : Sl w 1 A n c (was.map by8)) (hb : Sl w 1 B m d (now.map by8)) (bank : Int) (t : St12) {C : Option Addr} {q f : Nat} (hc : Sl w 1 C q f (t.b.map by8)) (e : Nat) (struck : Bool) (h : MayP bank was now t e struck) :
    Calls Try.prog 38 #[.int .i64 bank, .slice A n c, .slice B m d, .agg #[.int .i64 t.kd, .int .i64 t.bank, .slice C q f, .int .i64 t.x, .int .i64 t.y], .int .i64 e, .bool struck] w fun e w' => e = .returned (.bool true) ∧ Below w.heap.size w w' := by
  obtain ⟨kd, bk, b, x, y⟩ := t
  simp only at hc ⊢
  have hbx : Below w.heap.size w (w.alloc (.cells #[.int .i64 kd, .int .i64 bk, .slice C q f, .int .i64 x, .int .i64 y] 53)) := (Below.refl _ _).alloc (Nat.le_refl _) _
  have hblk := heap_alloc_new w (.cells #[.int .i64 kd, .int .i64 bk, .slice C q f, .int .i64 x, .int .i64 y] 53)
  have g0 := box_cell hblk 0 _ rfl
  have g1 := box_cell hblk 1 _ rfl
  have g2 := box_cell hblk 2 _ rfl
  have HH := Lib.hid (And.intro (ha.below hbx) (And.intro (hb.below hbx) (And.intro (hc.below hbx) hbx)))
  clear ha hb hc hbx hblk
  unfold MayP at h
  simp only at h
  have HC := Lib.hid h
  clear h
  by_cases hb : bk = bank
  · subst hb
    have q0 : (bk == bk) = true := by simp
    by_cases k1 : kd = 1
    · subst k1
      have HP := Lib.hid (appended_yes _ HH.out.1 HH.out.2.1 HH.out.2.2.1 e struck (by have := HC.out; rwa [if_pos ⟨rfl, rfl⟩] at this))
      go_enter Try.func38, Try.ntmps38
      go_wp2_with (first | (at_builtin; refine Stopped.out ?_) | (at_make; refine Stopped.out ?_))
      refine HP.out.mono ?_
      rintro e w1 ⟨rfl, hd⟩
      go_wp2
      go_ret
      exact ⟨rfl, bthen HH.out.2.2.2 hd.below⟩
    · have q1 : (kd == 1) = false := by simpa using k1
      by_cases k2 : kd = 2
      · subst k2
        have HP := Lib.hid (erased_yes _ HH.out.1 HH.out.2.1 e struck (by have := HC.out; rwa [if_neg (by omega), if_pos ⟨rfl, rfl⟩] at this))
        clear k1
        go_enter Try.func38, Try.ntmps38
        go_wp2_with (first | (at_builtin; refine Stopped.out ?_) | (at_make; refine Stopped.out ?_))
        refine HP.out.mono ?_
        rintro e w1 ⟨rfl, hd⟩
        go_wp2
        go_ret
        exact ⟨rfl, bthen HH.out.2.2.2 hd.below⟩
      · have q2 : (kd == 2) = false := by simpa using k2
        have hw : was = now := by have := HC.out; rwa [if_neg (fun h => k1 h.1), if_neg (fun h => k2 h.1)] at this
        have HP := Lib.hid ((same12 _ HH.out.1 HH.out.2.1).mono (fun e w' (h : _ ∧ _) => (show e = .returned (.bool true) ∧ Drawn _ w' from ⟨by rw [h.1, decide_eq_true hw], h.2⟩)))
        clear k1 k2 hw
        go_enter Try.func38, Try.ntmps38
        go_wp2_with (first | (at_builtin; refine Stopped.out ?_) | (at_make; refine Stopped.out ?_))
        refine HP.out.mono ?_
        rintro e w1 ⟨rfl, hd⟩
        go_wp2
        go_ret
        exact ⟨rfl, bthen HH.out.2.2.2 hd.below⟩
  · have q0 : (bk == bank) = false := by simpa using hb
    have hw : was = now := by have := HC.out; rwa [if_neg (fun h => hb h.2), if_neg (fun h => hb h.2)] at this
    have HP := Lib.hid ((same12 _ HH.out.1 HH.out.2.1).mono (fun e w' (h : _ ∧ _) => (show e = .returned (.bool true) ∧ Drawn _ w' from ⟨by rw [h.1, decide_eq_true hw], h.2⟩)))
    clear hb hw
    by_cases k1 : kd = 1
    · subst k1
      go_enter Try.func38, Try.ntmps38
      go_wp2_with (first | (at_builtin; refine Stopped.out ?_) | (at_make; refine Stopped.out ?_))
      refine HP.out.mono ?_
      rintro e w1 ⟨rfl, hd⟩
      go_wp2
      go_ret
      exact ⟨rfl, bthen HH.out.2.2.2 hd.below⟩
    · have q1 : (kd == 1) = false := by simpa using k1
      clear k1
      by_cases k2 : kd = 2
      · subst k2
        go_enter Try.func38, Try.ntmps38
        go_wp2_with (first | (at_builtin; refine Stopped.out ?_) | (at_make; refine Stopped.out ?_))
        refine HP.out.mono ?_
        rintro e w1 ⟨rfl, hd⟩
        go_wp2
        go_ret
        exact ⟨rfl, bthen HH.out.2.2.2 hd.below⟩
      · have q2 : (kd == 2) = false := by simpa using k2
        clear k2
        go_enter Try.func38, Try.ntmps38
        go_wp2_with (first | (at_builtin; refine Stopped.out ?_) | (at_make; refine Stopped.out ?_))
        refine HP.out.mono ?_
        rintro e w1 ⟨rfl, hd⟩
        go_wp2
        go_ret
        exact ⟨rfl, bthen HH.out.2.2.2 hd.below⟩
end Go.Proofs.Ytpjmbhhfpoamnaa
