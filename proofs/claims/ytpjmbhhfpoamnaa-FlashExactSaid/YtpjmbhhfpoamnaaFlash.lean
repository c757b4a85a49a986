import Derived.Test.YtpjmbhhfpoamnaaCp
import Derived.Test.YtpjmbhhfpoamnaaChecked
set_option linter.unusedVariables false
set_option linter.unusedSimpArgs false
namespace Go.Proofs.Ytpjmbhhfpoamnaa
open Go.RowKit
theorem EF : ElemT Try.prog 22 5 (.int .u8 0) 1 1 := ⟨Try.underlying22, by kernel_rfl, rfl, by decide⟩
theorem flash_own (w : World) {A : Option Addr} {n c : Nat} {l : List UInt8} (h : Sl w 1 A n c (l.map by8)) (hn : n ≤ 140737488355328) :
    Calls Try.prog 74 #[.slice A n c] w fun e w' => e = .returned (.slice (some ⟨w.heap.size, 0, none⟩) n n) ∧ w'.ownsRow w.heap.size 5 1 (.slice (some ⟨w.heap.size, 0, none⟩) n n) n (l.map by8) ∧ Below w.heap.size w w' := by
  have h1 := h.le; have h2 := h.max
  go_enter Try.func74, Try.ntmps74
  go_wp2_with (first | (at_builtin; refine Stopped.out ?_) | (at_make; refine Stopped.out ?_))
  refine Stopped.mk (mk_full EF rfl rfl _ _ rfl w.heap.size n rfl rfl rfl rfl (by omega) (by simp only [maxLen]; omega) (Nat.le_refl _) ?_)
  intro w1 hown hg
  have hb1 := below_grown hg
  have s1 := h.below hb1
  clear hg
  go_wp2_with (with_reducible refine copy_full EF rfl (.tmp 7) (.tmp 8) rfl rfl hown rfl s1 (u8_one _) ?_)
  intro w2 o2 hg2
  have hb2 : Below w.heap.size w w2 := hb1.grown hg2 hb1.size (fun k hk => (Option.some.inj hk) ▸ Nat.le_refl _)
  clear hown hg2 s1
  go_wp2
  go_ret
  exact ⟨rfl, o2, hb2⟩
/-! ### the flash: its block, its banks, the crashes that wait -/
structure FSt where
  size : Nat
  b0 : List UInt8
  b1 : List UInt8
  armed : List (Nat × Nat)
  count : Nat
  writes : Nat
  down : Bool
def crashL (l : List (Nat × Nat)) : List Value := l.flatMap fun c => [.int .i64 (c.1 : Int), .int .i64 (c.2 : Int)]
structure Fl (w : World) (p : Nat) (G : List Nat) (s : FSt) : Prop where
  out : ∃ v0 v1 va, w.heap[p]? = some (.cells #[.int .i64 s.size, v0, v1, va, .int .i64 s.count, .int .i64 s.writes, .bool s.down] 128 (0, 0)) ∧
    w.ownsRow 0 5 1 v0 s.b0.length (s.b0.map by8) ∧ w.ownsRow 0 5 1 v1 s.b1.length (s.b1.map by8) ∧ w.ownsRow 0 138 2 va s.armed.length (crashL s.armed) ∧
    (∀ k, v0.ownBlock = some k → k ≠ p ∧ k ∈ G ∧ v1.ownBlock ≠ some k ∧ va.ownBlock ≠ some k) ∧ (∀ k, v1.ownBlock = some k → k ≠ p ∧ k ∈ G ∧ va.ownBlock ≠ some k) ∧ (∀ k, va.ownBlock = some k → k ≠ p ∧ k ∈ G)
  mem : p ∈ G
  lts : ∀ x ∈ G, x < w.heap.size
theorem Fl.keep {M : List Nat} {w w' : World} {p : Nat} {G : List Nat} {s : FSt} (h : Fl w p G s) (k : Keep M w w') (hM : ∀ x ∈ G, x ∉ M) : Fl w' p G s := by
  obtain ⟨v0, v1, va, hb, h0, h1, ha, k0, k1, ka⟩ := h.out
  exact ⟨⟨v0, v1, va, k.heap hb (hM _ h.mem), k.own h0 (fun j hj => hM _ (k0 j hj).2.1), k.own h1 (fun j hj => hM _ (k1 j hj).2.1), k.own ha (fun j hj => hM _ (ka j hj).2), k0, k1, ka⟩, h.mem, fun x hx => Nat.lt_of_lt_of_le (h.lts x hx) k.size⟩
theorem Fl.below {w w' : World} {p : Nat} {G : List Nat} {s : FSt} (h : Fl w p G s) (k : Below w.heap.size w w') : Fl w' p G s :=
  h.keep (Keep.of_below k []) (by simp)
/-- what a step on the flash leaves -/
structure FStep (w w' : World) (p : Nat) (G : List Nat) (s : FSt) : Prop where
  out : ∃ G', Fl w' p G' s ∧ Keep G w w' ∧ ∀ x ∈ G', x ∈ G ∨ w.heap.size ≤ x
theorem flash_Down (w : World) {p : Nat} {G : List Nat} {s : FSt} (h : Fl w p G s) :
    Calls Try.prog 32 #[.pointer (some ⟨p, 0, none⟩)] w fun e w' => e = .returned (.bool s.down) ∧ w = w' := by
  obtain ⟨v0, v1, va, hb, _⟩ := h.out
  have c6 := box_cell hb 6 (.bool s.down) rfl
  clear hb
  go_enter Try.func32, Try.ntmps32
  go_wp2
  go_ret
  exact ⟨rfl, rfl⟩
theorem flash_Writes (w : World) {p : Nat} {G : List Nat} {s : FSt} (h : Fl w p G s) :
    Calls Try.prog 33 #[.pointer (some ⟨p, 0, none⟩)] w fun e w' => e = .returned (.int .i64 s.writes) ∧ w = w' := by
  obtain ⟨v0, v1, va, hb, _⟩ := h.out
  have c5 := box_cell hb 5 (.int .i64 s.writes) rfl
  clear hb
  go_enter Try.func33, Try.ntmps33
  go_wp2
  go_ret
  exact ⟨rfl, rfl⟩
/-- refused: by the bank's number, or because the flash is down -/
def refusedF (s : FSt) (n : Int) : Nat := if n ≠ 0 ∧ n ≠ 1 then 120 else if s.down then 121 else 0
theorem flash_at_no (w : World) {p : Nat} {G : List Nat} {s : FSt} (h : Fl w p G s) (n : Int) (hr : refusedF s n ≠ 0) :
    Calls Try.prog 75 #[.pointer (some ⟨p, 0, none⟩), .int .i64 n] w fun e w' => e = .returned (.tuple #[.pointer none, .int .i64 (refusedF s n : Nat)]) ∧ w = w' := by
  obtain ⟨v0, v1, va, hb, _⟩ := h.out
  by_cases hn : n ≠ 0 ∧ n ≠ 1
  · have HR : Hid (refusedF s n = 120) := Lib.hid (by rw [refusedF, if_pos hn])
    have q0 : (n != 0) = true := by simpa using hn.1
    have q1 : (n != 1) = true := by simpa using hn.2
    clear hn hr hb
    go_enter Try.func75, Try.ntmps75
    go_wp2
    go_ret2
    exact ⟨by (rw [HR.out]) <;> rfl, rfl⟩
  · have hd : s.down = true := by
      rw [refusedF, if_neg hn] at hr
      cases hsd : s.down <;> simp [hsd] at hr ⊢
    have HR : Hid (refusedF s n = 121) := Lib.hid (by rw [refusedF, if_neg hn, hd]; rfl)
    have c6 := box_cell hb 6 (.bool true) (by rw [hd]; rfl)
    clear hr hb hd
    rcases (show n = 0 ∨ n = 1 by omega) with rfl | rfl
    ·
      go_enter Try.func75, Try.ntmps75
      go_wp2
      go_ret2
      exact ⟨by (rw [HR.out]) <;> rfl, rfl⟩
    ·
      go_enter Try.func75, Try.ntmps75
      go_wp2
      go_ret2
      exact ⟨by (rw [HR.out]) <;> rfl, rfl⟩
theorem flash_at_yes (w : World) {p : Nat} {G : List Nat} {s : FSt} (h : Fl w p G s) (n : Nat) (hn : n ≤ 1) (hd : s.down = false) :
    Calls Try.prog 75 #[.pointer (some ⟨p, 0, none⟩), .int .i64 n] w fun e w' => e = .returned (.tuple #[.pointer (some ⟨p, 1 + n, none⟩), .int .i64 0]) ∧ w = w' := by
  obtain ⟨v0, v1, va, hb, _⟩ := h.out
  have c6 := box_cell hb 6 (.bool false) (by rw [hd]; rfl)
  clear hb hd
  rcases (show n = 0 ∨ n = 1 by omega) with rfl | rfl
  ·
    go_enter Try.func75, Try.ntmps75
    go_wp2
    go_ret2
    exact ⟨rfl, rfl⟩
  ·
    go_enter Try.func75, Try.ntmps75
    go_wp2
    go_ret2
    exact ⟨rfl, rfl⟩
end Go.Proofs.Ytpjmbhhfpoamnaa
