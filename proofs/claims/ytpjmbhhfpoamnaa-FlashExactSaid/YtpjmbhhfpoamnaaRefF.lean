import Derived.Test.YtpjmbhhfpoamnaaDoes13
import Derived.Test.YtpjmbhhfpoamnaaRef12
set_option linter.unusedVariables false
set_option linter.unusedSimpArgs false
namespace Go.Proofs.Ytpjmbhhfpoamnaa
open Go.RowKit
/-- the document's flash: a value of seven cells -/
def refV (s : FSt) (A B C : Option Addr) (a b c : Nat) : List Value := [.int .i64 s.size, .slice A s.b0.length a, .slice B s.b1.length b, .slice C s.armed.length c, .int .i64 s.count, .int .i64 s.writes, .bool s.down]
/-- no block of these, where there is anything -/
def Ap (Xs : List Nat) (A : Option Addr) (n : Nat) : Prop := 0 < n → ∀ ad, A = some ad → ad.block ∉ Xs
theorem Ap.none {Xs : List Nat} {n : Nat} : Ap Xs none n := fun _ _ e => by cases e
theorem Ap.new {Xs : List Nat} {A : Option Addr} {B n : Nat} (h : ∀ x ∈ Xs, x < B) (hA : ∀ ad, A = some ad → B ≤ ad.block) : Ap Xs A n := fun _ ad e hx => by have h1 := h _ hx; have h2 := hA ad e; omega
theorem Ap.cast {Xs : List Nat} {A : Option Addr} {n m : Nat} (h : Ap Xs A n) (e : m = n) : Ap Xs A m := by rw [e]; exact h
theorem Ap.either {Xs : List Nat} {C C2 : Option Addr} {c c2 B n N : Nat} {P : Prop} (h : (C2 = C ∧ c2 = c ∧ P) ∨ ∀ ad, C2 = some ad → B ≤ ad.block) (hC : Ap Xs C n) (hn : P → N = n) (hX : ∀ x ∈ Xs, x < B) : Ap Xs C2 N := by
  rcases h with ⟨rfl, _, hp⟩ | h
  · exact hC.cast (hn hp)
  · exact Ap.new hX h
theorem Sl.keepAp {w w' : World} {sz : Nat} {A : Option Addr} {n c : Nat} {vs : List Value} {Xs : List Nat} (h : Sl w sz A n c vs) (k : Keep Xs w w') (hA : Ap Xs A n) : Sl w' sz A n c vs := by
  by_cases h0 : 0 < n
  · exact h.keep k (hA h0)
  · obtain rfl : n = 0 := by omega
    exact ⟨h.len, h.le, h.max, h.nil, fun ad e hp => by have := h.len; simp at this; rw [this] at hp; simp at hp⟩
theorem Ap.grow {w : World} {sz : Nat} {A : Option Addr} {n c : Nat} {vs : List Value} {Xs Ys : List Nat} (h : Ap Xs A n) (s : Sl w sz A n c vs) (hz : 0 < sz) (k : ∀ y ∈ Ys, y ∈ Xs ∨ w.heap.size ≤ y) : Ap Ys A n := fun h0 ad e hx => by
  rcases k _ hx with h1 | h1
  · exact h h0 ad e h1
  · have hl : 0 < vs.length := by rw [s.len]; exact Nat.mul_pos h0 hz
    have h2 := cell_lt ((s.at_ ad e hl).2 0 hl)
    simp at h2; omega
structure RFl (w : World) (v : List Value) (s : FSt) (Xs : List Nat) : Prop where
  out : ∃ A B C a b c, v = refV s A B C a b c ∧ Sl w 1 A s.b0.length a (s.b0.map by8) ∧ Sl w 1 B s.b1.length b (s.b1.map by8) ∧ Sl w 2 C s.armed.length c (crashL s.armed) ∧ Ap Xs A s.b0.length ∧ Ap Xs B s.b1.length ∧ Ap Xs C s.armed.length
theorem RFl.below {w w' : World} {v : List Value} {s : FSt} {Xs : List Nat} (h : RFl w v s Xs) (k : Below w.heap.size w w') : RFl w' v s Xs :=
  let ⟨A, B, C, a, b, c, e, h1, h2, h3, h4⟩ := h.out
  ⟨A, B, C, a, b, c, e, h1.below k, h2.below k, h3.below k, h4⟩
theorem RFl.keep {w w' : World} {v : List Value} {s : FSt} {Xs : List Nat} (h : RFl w v s Xs) (k : Keep Xs w w') : RFl w' v s Xs :=
  let ⟨A, B, C, a, b, c, e, h1, h2, h3, h4⟩ := h.out
  ⟨A, B, C, a, b, c, e, h1.keepAp k h4.1, h2.keepAp k h4.2.1, h3.keepAp k h4.2.2, h4⟩
theorem RFl.grow {w : World} {v : List Value} {s : FSt} {Xs Ys : List Nat} (h : RFl w v s Xs) (k : ∀ y ∈ Ys, y ∈ Xs ∨ w.heap.size ≤ y) : RFl w v s Ys :=
  let ⟨A, B, C, a, b, c, e, h1, h2, h3, h4⟩ := h.out
  ⟨A, B, C, a, b, c, e, h1, h2, h3, h4.1.grow h1 (by decide) k, h4.2.1.grow h2 (by decide) k, h4.2.2.grow h3 (by decide) k⟩
theorem RFl.less {w : World} {v : List Value} {s : FSt} {Xs Ys : List Nat} (h : RFl w v s Xs) (k : ∀ y ∈ Ys, y ∈ Xs) : RFl w v s Ys :=
  let ⟨A, B, C, a, b, c, e, h1, h2, h3, h4⟩ := h.out
  ⟨A, B, C, a, b, c, e, h1, h2, h3, fun h0 ad e hx => h4.1 h0 ad e (k _ hx), fun h0 ad e hx => h4.2.1 h0 ad e (k _ hx), fun h0 ad e hx => h4.2.2 h0 ad e (k _ hx)⟩
set_option maxHeartbeats 800000 in
theorem ref_refused (w : World) (s : FSt) (A B C : Option Addr) (a b c : Nat) (n : Int) :
    Calls Try.prog 118 #[.agg (refV s A B C a b c).toArray, .int .i64 n] w fun e w' => e = .returned (.int .i64 (refusedF s n : Nat)) ∧ Below w.heap.size w w' := by
  unfold refV
  have hbx : Below w.heap.size w (w.alloc (.cells #[.int .i64 s.size, .slice A s.b0.length a, .slice B s.b1.length b, .slice C s.armed.length c, .int .i64 s.count, .int .i64 s.writes, .bool s.down] 37)) := (Below.refl _ _).alloc (Nat.le_refl _) _
  have hblk := heap_alloc_new w (.cells #[.int .i64 s.size, .slice A s.b0.length a, .slice B s.b1.length b, .slice C s.armed.length c, .int .i64 s.count, .int .i64 s.writes, .bool s.down] 37)
  have g6 := box_cell hblk 6 _ rfl
  have HB := Lib.hid hbx
  clear hbx hblk
  by_cases h : n ≠ 0 ∧ n ≠ 1
  · have HR : Hid (refusedF s n = 120) := Lib.hid (by unfold refusedF; rw [if_pos h])
    have q0 : (n != 0) = true := by simpa using h.1
    have q1 : (n != 1) = true := by simpa using h.2
    rw [HR.out]
    clear h
    go_enter Try.func118, Try.ntmps118
    go_wp2
    go_ret
    exact ⟨rfl, (Below.refl _ _).alloc (Nat.le_refl _) _⟩
  · have HR : Hid (refusedF s n = if s.down then 121 else 0) := Lib.hid (by unfold refusedF; rw [if_neg h])
    rw [HR.out]
    clear HR
    cases hd : s.down <;> rw [hd] at g6 <;> clear hd
    all_goals
      by_cases h0 : n = 0
      · subst h0
        clear h
        go_enter Try.func118, Try.ntmps118
        go_wp2
        go_ret
        exact ⟨rfl, (Below.refl _ _).alloc (Nat.le_refl _) _⟩
      · obtain rfl : n = 1 := by omega
        clear h h0
        go_enter Try.func118, Try.ntmps118
        go_wp2
        go_ret
        exact ⟨rfl, (Below.refl _ _).alloc (Nat.le_refl _) _⟩
set_option maxHeartbeats 800000 in
theorem ref_bank0 (w : World) (s : FSt) (A B C : Option Addr) (a b c : Nat) :
    Calls Try.prog 119 #[.agg (refV s A B C a b c).toArray, .int .i64 0] w fun e w' => e = .returned (.slice A s.b0.length a) ∧ Below w.heap.size w w' := by
  unfold refV
  have hblk := heap_alloc_new w (.cells #[.int .i64 s.size, .slice A s.b0.length a, .slice B s.b1.length b, .slice C s.armed.length c, .int .i64 s.count, .int .i64 s.writes, .bool s.down] 37)
  have g1 := box_cell hblk 1 _ rfl
  clear hblk
  go_enter Try.func119, Try.ntmps119
  go_wp2
  go_ret
  exact ⟨rfl, (Below.refl _ _).alloc (Nat.le_refl _) _⟩
set_option maxHeartbeats 800000 in
theorem ref_bank1 (w : World) (s : FSt) (A B C : Option Addr) (a b c : Nat) (n : Int) (hn : n ≠ 0) :
    Calls Try.prog 119 #[.agg (refV s A B C a b c).toArray, .int .i64 n] w fun e w' => e = .returned (.slice B s.b1.length b) ∧ Below w.heap.size w w' := by
  unfold refV
  have hblk := heap_alloc_new w (.cells #[.int .i64 s.size, .slice A s.b0.length a, .slice B s.b1.length b, .slice C s.armed.length c, .int .i64 s.count, .int .i64 s.writes, .bool s.down] 37)
  have g2 := box_cell hblk 2 _ rfl
  have q : (n == 0) = false := by simpa using hn
  clear hblk hn
  go_enter Try.func119, Try.ntmps119
  go_wp2
  go_ret
  exact ⟨rfl, (Below.refl _ _).alloc (Nat.le_refl _) _⟩
end Go.Proofs.Ytpjmbhhfpoamnaa
