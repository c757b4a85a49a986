import Derived.Test.YtikjhandhgfohaaRd3
set_option linter.unusedVariables false
set_option linter.unusedSimpArgs false
namespace Go.Proofs.Ytikjhandhgfohaa
open Go.RowKit
def EndQ (w : World) (p : Nat) (G : List Nat) (l : List UInt8) (a f : Nat) (r : Except Nat Nat) (Q : Value → World → Prop) (e : Ending) (w' : World) : Prop :=
  Keep [p] w w' ∧ match r with
  | .ok k => ∃ v, e = .returned v ∧ Rd w' p G l (a + k) f ∧ Q v w'
  | .error n => e = gave n ∧ ∃ b, Rd w' p G l b f
def effR (r : Except Nat Nat) (f : Nat) : Except Nat Nat := if f ≠ 0 then .error f else r
def CaughtQ (w : World) (p : Nat) (G : List Nat) (l : List UInt8) (a f : Nat) (r : Except Nat Nat) (z : Value) (Q : Value → World → Prop) (e : Ending) (w' : World) : Prop :=
  Keep [p] w w' ∧ match effR r f with
  | .ok k => ∃ v, e = .returned v ∧ Rd w' p G l (a + k) 0 ∧ Q v w'
  | .error n => e = .returned z ∧ Rd w' p G l a n
set_option maxRecDepth 100000 in
set_option maxHeartbeats 1600000 in
theorem caught_any (w : World) {p : Nat} {G : List Nat} {l : List UInt8} {a f : Nat} (h : Rd w p G l a f) (K : FuncId) (first caps : Array Value) (r : Except Nat Nat) (Q : Value → World → Prop)
    (hQ : ∀ v w' w'', Q v w' → Below w'.heap.size w' w'' → Q v w'') (hE : ∀ w' : World, (callFunc K (first ++ caps)).run Try.prog w' = .ok (.enter K (first ++ caps)) w')
    (hC : f = 0 → ∀ w', Below w.heap.size w w' → Calls Try.prog K (first ++ caps) w' (EndQ w' p G l a 0 r Q)) :
    Calls Try.prog 47 #[.pointer (some ⟨p, 0, none⟩), .func (.func K) first caps] w (CaughtQ w p G l a f r (.slice none 0 0) Q) := by
  have hmf : ∀ (fn : Fn) (first cap : Array Value) (w : World), (Instr.makeFunc fn first cap).run Try.prog w = .ok (.func fn first cap) w := fun _ _ _ _ => rfl
  obtain ⟨A, c, c0, c1, c2, s, f1, f2, hA⟩ := h.cells
  have hpl := cell_lt c1
  have g1 := cell_al c1 (.cells #[.pointer (some ⟨p, 0, none⟩)] 59)
  have g2 := cell_al (cell_al c2 (.cells #[.pointer (some ⟨p, 0, none⟩)] 59)) (.cells #[.int .i64 a] 3)
  have HW := Lib.hid h
  have HS := Lib.hid (And.intro s (And.intro f1 f2))
  clear h s c0 f1 f2 hA
  by_cases hf : f = 0
  · have HC := Lib.hid (hC hf)
    subst hf
    clear hC
    go_enter_defers Try.func47, Try.ntmps47
    go_wp2_with (first | (at_builtin; refine Stopped.out ?_) | (at_make; refine Stopped.out ?_))
    have hB2 : Below w.heap.size w ((w.alloc (.cells #[.pointer (some ⟨p, 0, none⟩)] 59)).alloc (.cells #[.int .i64 a] 3)) := ((Below.refl _ w).alloc (Nat.le_refl _) _).alloc (by simp) _
    have b0 : ((w.alloc (.cells #[.pointer (some ⟨p, 0, none⟩)] 59)).alloc (.cells #[.int .i64 a] 3)).cell? ⟨w.heap.size + 1, 0, none⟩ = some (.int .i64 a) := by
      have := box_cell (heap_alloc_new (w.alloc (.cells #[.pointer (some ⟨p, 0, none⟩)] 59)) (.cells #[.int .i64 a] 3)) 0 _ rfl
      rwa [show (w.alloc (.cells #[.pointer (some ⟨p, 0, none⟩)] 59)).heap.size = w.heap.size + 1 by simp] at this
    have b1 : ((w.alloc (.cells #[.pointer (some ⟨p, 0, none⟩)] 59)).alloc (.cells #[.int .i64 a] 3)).cell? ⟨w.heap.size, 0, none⟩ = some (.pointer (some ⟨p, 0, none⟩)) :=
      cell_al (box_cell (heap_alloc_new w (.cells #[.pointer (some ⟨p, 0, none⟩)] 59)) 0 _ rfl) _
    refine (HC.out _ hB2).mono ?_
    rintro e w3 ⟨hk, hr⟩
    have b0' := hk.cell b0 (by simp; omega)
    have b1' := hk.cell b1 (by simp; omega)
    have hk3 : Keep [p] w w3 := (Keep.of_below hB2 [p]).trans hk
    clear hk b0 b1 g1 g2 c1 c2
    cases r with
    | ok k =>
      obtain ⟨v, rfl, hr3, hq⟩ := hr
      have HN := Lib.hid (show CaughtQ w p G l a 0 (.ok k) (.slice none 0 0) Q (.returned v) (w3.alloc (.cells #[.int .i64 0] 86)) from
        ⟨hk3.alloc _, v, rfl, hr3.below ((Below.refl _ _).alloc (Nat.le_refl _) _), hQ _ _ _ hq ((Below.refl _ _).alloc (Nat.le_refl _) _)⟩)
      clear hr3 hq hk3 HW HS HC
      go_wp2
      refine leaves_cons (f := 58) (args := #[.pointer (some ⟨w.heap.size + 1, 0, none⟩), .pointer (some ⟨w.heap.size, 0, none⟩)]) (by simp) (by simp [go_sem]) ?_
      refine (catch_idle _ _ _).mono ?_
      rintro e u' w'' ⟨rfl, rfl, rfl⟩
      simp [Leaves, settle, results, Try.results47, go_sem]
      exact HN.out
    | error n =>
      obtain ⟨rfl, b, hr3⟩ := hr
      obtain ⟨A3, c3, _, d1, d2, _, f1, f2, _⟩ := hr3.cells
      have hp1 : p < w.heap.size := hpl
      have HN := Lib.hid (show CaughtQ w p G l a 0 (.error n) (.slice none 0 0) Q (.returned (.slice none 0 0)) (((w3.alloc (.cells #[.int .i64 n] 86)).setCell ⟨p, 1, none⟩ (.int .i64 a)).setCell ⟨p, 2, none⟩ (.int .i64 n)).drew from
        ⟨((((hk3.alloc _).setCell (p := ⟨p, 1, none⟩) (.inl (by simp)) (.int .i64 a)).setCell (p := ⟨p, 2, none⟩) (.inl (by simp)) (.int .i64 n))).drew, rfl, (((hr3.below ((Below.refl _ _).alloc (Nat.le_refl _) _)).setAt a HW.out.le).setFault n).below ((Below.refl _ _).drew)⟩)
      dsimp only [gave]
      refine leaves_cons (f := 58) (args := #[.pointer (some ⟨w.heap.size + 1, 0, none⟩), .pointer (some ⟨w.heap.size, 0, none⟩)]) (by simp) (by simp [go_sem]) ?_
      refine (catch_panics _ _ p n a [] _ b0' b1' ⟨_, d1⟩ ⟨_, d2⟩ f1 f2 (by omega) (by omega)).mono ?_
      rintro e u' w'' ⟨rfl, rfl, rfl⟩
      simp [Leaves, settle, results, Try.results47, go_sem]
      exact HN.out
  · have hz : ((f : Int) != 0) = true := by simp; omega
    have HN := Lib.hid (show CaughtQ w p G l a f r (.slice none 0 0) Q (.returned (.slice none 0 0)) (((w.alloc (.cells #[.pointer (some ⟨p, 0, none⟩)] 59)).alloc (.cells #[.int .i64 a] 3)).alloc (.cells #[.int .i64 0] 86)) from
      ⟨(((Keep.refl [p] w).alloc _).alloc _).alloc _, by rw [effR, if_pos hf]; exact ⟨rfl, ((HW.out.below ((Below.refl _ _).alloc (Nat.le_refl _) _)).below ((Below.refl _ _).alloc (Nat.le_refl _) _)).below ((Below.refl _ _).alloc (Nat.le_refl _) _)⟩⟩)
    clear hf hC HW HS
    go_enter_defers Try.func47, Try.ntmps47
    go_wp2
    refine leaves_cons (f := 58) (args := #[.pointer (some ⟨w.heap.size + 1, 0, none⟩), .pointer (some ⟨w.heap.size, 0, none⟩)]) (by simp) (by simp [go_sem]) ?_
    refine (catch_idle _ _ _).mono ?_
    rintro e u' w'' ⟨rfl, rfl, rfl⟩
    simp [Leaves, settle, results, Try.results47, go_sem]
    exact HN.out
end Go.Proofs.Ytikjhandhgfohaa
