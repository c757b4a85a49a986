import Derived.Test.YtpjmbhhfpoamnaaDoes13
import Derived.Test.YtpjmbhhfpoamnaaPiece
set_option linter.unusedVariables false
set_option linter.unusedSimpArgs false
namespace Go.Proofs.Ytpjmbhhfpoamnaa
open Go.RowKit
set_option maxHeartbeats 800000 in
theorem begins_yes (w : World) {A B : Option Addr} {n c m d : Nat} {l r t : List UInt8} (ha : Sl w 1 A n c (l.map by8)) (hb : Sl w 1 B m d (r.map by8)) (h : l = r ++ t) :
    Calls Try.prog 122 #[.slice A n c, .slice B m d] w fun e w' => e = .returned (.bool true) ∧ Drawn w w' := by
  have hl : l.length = n := by simpa using ha.len
  have hr : r.length = m := by simpa using hb.len
  have h1 := ha.le; have h2 := ha.max; have h3 := hb.le; have h4 := hb.max
  have hmn : m ≤ n := by rw [← hl, h, ← hr]; simp
  have hp : Sl w 1 A m c (r.map by8) := by
    have := ha.preB hmn
    rwa [show l.take m = r by rw [h, ← hr]; simp] at this
  have HS := Lib.hid (same12 w hp hb)
  have i0 : (0 : Int) ≤ (m : Int) := Int.natCast_nonneg _
  have i1 : (m : Int) ≤ (n : Int) := by omega
  have i2 : (m : Int) ≤ (c : Int) := by omega
  clear ha hb h hl hr hp
  go_enter Try.func122, Try.ntmps122
  go_wp2_with (first | (at_builtin; refine Stopped.out ?_) | (at_make; refine Stopped.out ?_))
  refine HS.out.mono ?_
  rintro e w1 ⟨rfl, hd⟩
  go_wp2
  go_ret
  exact ⟨by simp, hd⟩
/-- what an Append may leave -/
def AppP (was now b : List UInt8) (e : Nat) (struck : Bool) : Prop := ∃ more, now = was ++ more ∧ if e = 0 then more = b else if e = 121 ∧ struck = true then ∃ r, b = more ++ r else more = []
set_option maxRecDepth 100000 in
set_option maxHeartbeats 1600000 in
theorem appended_yes (w : World) {A B C : Option Addr} {n c m d q f : Nat} {was now b : List UInt8} (ha : Sl w 1 A n c (was.map by8)) (hb : Sl w 1 B m d (now.map by8)) (hc : Sl w 1 C q f (b.map by8)) (e : Nat) (struck : Bool) (h : AppP was now b e struck) :
    Calls Try.prog 79 #[.slice A n c, .slice B m d, .slice C q f, .int .i64 e, .bool struck] w fun e w' => e = .returned (.bool true) ∧ Drawn w w' := by
  obtain ⟨more, hnow, hcase⟩ := h
  have hl : was.length = n := by simpa using ha.len
  have hr : now.length = m := by simpa using hb.len
  have h1 := ha.le; have h2 := ha.max; have h3 := hb.le; have h4 := hb.max
  have hnm : n + more.length = m := by rw [← hl, ← hr, hnow]; simp
  have HB := Lib.hid (begins_yes w hb ha hnow)
  obtain ⟨B', hB', hP⟩ := slice_piece B m d n (m - n) (by omega) h3 hb.nil (fun ad e h0 => (hb.at_ ad e (by rw [hb.len]; omega)).1)
  have hmore : (now.drop n).take (m - n) = more := by rw [hnow, ← hl, List.drop_left]; exact List.take_of_length_le (by omega)
  have hp : Sl w 1 B' (m - n) (d - n) (more.map by8) := by have := hP w now hb; rwa [hmore] at this
  have HP := Lib.hid (And.intro hp hc)
  have hml : more.length = m - n := by omega
  have i0 : (0 : Int) ≤ (n : Int) := Int.natCast_nonneg _
  have i1 : (n : Int) ≤ (m : Int) := by omega
  have HM := Lib.hid hml
  clear ha hb hc hP hp hmore hnow hl hr hml hnm
  by_cases he : e = 0
  · rw [if_pos he] at hcase
    have HC := Lib.hid hcase
    have q1 : ((e : Int) == 0) = true := by simp [he]
    have HE := Lib.hid he
    clear hcase he
    go_enter Try.func79, Try.ntmps79
    go_wp2_with (first | (at_builtin; refine Stopped.out ?_) | (at_make; refine Stopped.out ?_))
    refine HB.out.mono ?_
    rintro e w1 ⟨rfl, hd⟩
    go_wp2_with (first | (at_builtin; refine Stopped.out ?_) | (at_make; refine Stopped.out ?_))
    refine (same12 _ (HP.out.1.below hd.below) (HP.out.2.below hd.below)).mono ?_
    rintro e w2 ⟨rfl, hd2⟩
    rw [decide_eq_true HC.out]
    go_wp2
    go_ret
    exact ⟨rfl, by obtain ⟨n1, rfl⟩ := hd.out; obtain ⟨n2, rfl⟩ := hd2.out; exact ⟨⟨_, World.drewN_drewN ..⟩⟩⟩
  · rw [if_neg he] at hcase
    have q1 : ((e : Int) == 0) = false := by simp; omega
    by_cases hs : e = 121 ∧ struck = true
    · rw [if_pos hs] at hcase
      obtain ⟨r, hbr⟩ := hcase
      obtain ⟨he2, rfl⟩ := hs
      have q2 : ((e : Int) == 121) = true := by simp [he2]
      have HR := Lib.hid hbr
      clear hbr he he2
      go_enter Try.func79, Try.ntmps79
      go_wp2_with (first | (at_builtin; refine Stopped.out ?_) | (at_make; refine Stopped.out ?_))
      refine HB.out.mono ?_
      rintro e w1 ⟨rfl, hd⟩
      go_wp2_with (first | (at_builtin; refine Stopped.out ?_) | (at_make; refine Stopped.out ?_))
      refine (begins_yes _ (HP.out.2.below hd.below) (HP.out.1.below hd.below) HR.out).mono ?_
      rintro e w2 ⟨rfl, hd2⟩
      go_wp2
      go_ret
      exact ⟨rfl, by obtain ⟨n1, rfl⟩ := hd.out; obtain ⟨n2, rfl⟩ := hd2.out; exact ⟨⟨_, World.drewN_drewN ..⟩⟩⟩
    · rw [if_neg hs] at hcase
      have hz : m - n = 0 := by rw [← HM.out, hcase]; rfl
      have HZ := Lib.hid hz
      have j1 : (((m - n : Nat) : Int) == 0) = true := by simp; omega
      have q2 : (((e : Int) == 121) && struck) = false := by
        by_cases h121 : e = 121
        · have : struck = false := by cases struck <;> simp_all
          simp [this]
        · have : ((e : Int) == 121) = false := by simp; omega
          simp [this]
      cases hst : struck
      · clear hs hcase q2 hz
        by_cases h121 : e = 121
        · have q3 : ((e : Int) == 121) = true := by simp [h121]
          clear h121 he
          go_enter Try.func79, Try.ntmps79
          go_wp2_with (first | (at_builtin; refine Stopped.out ?_) | (at_make; refine Stopped.out ?_))
          refine HB.out.mono ?_
          rintro e w1 ⟨rfl, hd⟩
          go_wp2
          go_ret
          exact ⟨by first | (simp; done) | (simp; have := HZ.out; omega), hd⟩
        · have q3 : ((e : Int) == 121) = false := by simp; omega
          clear h121 he
          go_enter Try.func79, Try.ntmps79
          go_wp2_with (first | (at_builtin; refine Stopped.out ?_) | (at_make; refine Stopped.out ?_))
          refine HB.out.mono ?_
          rintro e w1 ⟨rfl, hd⟩
          go_wp2
          go_ret
          exact ⟨by first | (simp; done) | (simp; have := HZ.out; omega), hd⟩
      · have q3 : ((e : Int) == 121) = false := by rw [hst] at q2; simpa using q2
        clear hs hcase q2 hz he
        go_enter Try.func79, Try.ntmps79
        go_wp2_with (first | (at_builtin; refine Stopped.out ?_) | (at_make; refine Stopped.out ?_))
        refine HB.out.mono ?_
        rintro e w1 ⟨rfl, hd⟩
        go_wp2
        go_ret
        exact ⟨by first | (simp; done) | (simp; have := HZ.out; omega), hd⟩
end Go.Proofs.Ytpjmbhhfpoamnaa
