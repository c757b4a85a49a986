import Derived.Test.YtikjhandhgfohaaRd4
set_option linter.unusedVariables false
set_option linter.unusedSimpArgs false
namespace Go.Proofs.Ytikjhandhgfohaa
open Go.RowKit
set_option maxRecDepth 100000 in
theorem catch_idle_u8 (b0 b1 : Nat) (w : World) :
    CallsD Try.prog 57 #[.pointer (some ⟨b0, 0, none⟩), .pointer (some ⟨b1, 0, none⟩)] .returning w fun e u' w' => e = .returned (.tuple #[]) ∧ u' = .returning ∧ w' = w.alloc (.cells #[.int .i64 0] 86) := by
  have hTA : ∀ w : World, (Instr.typeAssert .nilIface 20 86 true).run Try.prog w = .ok (.tuple #[.agg #[.int .i64 0], .bool false]) w := fun w => by kernel_rfl
  refine callsD_of_wpS Try.func57 rfl fun c₀ cs hu => ?_
  apply wpS_seq
  apply wpS_region
  simp [wpOpsS, go_sem, recoverD, hu, Try.ntmps57, Exit.thenS, hTA]
  apply wpS_seq
  apply wpS_region
  simp [wpOpsS, go_sem, Exit.thenS]
  refine wpS_cond (t := false) (by simp [Act.eval, Array.replicate]) ?_
  simp only [Bool.false_eq_true, if_false]
  refine wpS_of_wp (wp_skip ?_)
  cases c₀
  simp_all [bodyPostS, results, Try.results57]
set_option maxRecDepth 100000 in
theorem catch_panics_u8 (b0 b1 p : Nat) (n at_ : Int) (older : List PanicEntry) (w : World) (c0 : w.cell? ⟨b0, 0, none⟩ = some (.int .i64 at_)) (c1 : w.cell? ⟨b1, 0, none⟩ = some (.pointer (some ⟨p, 0, none⟩)))
    (d1 : ∃ v, w.cell? ⟨p, 1, none⟩ = some v) (d2 : ∃ v, w.cell? ⟨p, 2, none⟩ = some v) (f1 : w.frozen? ⟨p, 1, none⟩ = false) (f2 : w.frozen? ⟨p, 2, none⟩ = false) (hne0 : b0 ≠ p) (hne1 : b1 ≠ p) :
    CallsD Try.prog 57 #[.pointer (some ⟨b0, 0, none⟩), .pointer (some ⟨b1, 0, none⟩)] (.panicking ({ v := .iface 86 (.agg #[.int .i64 n]), recovered := false } :: older)) w fun e u' w' =>
      e = .returned (.tuple #[]) ∧ u' = .panicking ({ v := .iface 86 (.agg #[.int .i64 n]), recovered := true } :: older) ∧ w' = (((w.alloc (.cells #[.int .i64 n] 86)).setCell ⟨p, 1, none⟩ (.int .i64 at_)).setCell ⟨p, 2, none⟩ (.int .i64 n)).drew := by
  have hTA : ∀ w : World, (Instr.typeAssert (.iface 86 (.agg #[.int .i64 n])) 20 86 true).run Try.prog w = .ok (.tuple #[.agg #[.int .i64 n], .bool true]) w := fun w => by kernel_rfl
  refine callsD_of_wpS Try.func57 rfl fun c₀ cs hu => ?_
  apply wpS_seq
  apply wpS_region
  simp [wpOpsS, go_sem, recoverD, hu, Try.ntmps57, Exit.thenS, hTA]
  apply wpS_seq
  apply wpS_region
  simp [wpOpsS, go_sem, Exit.thenS]
  refine wpS_cond (t := true) (by simp [Act.eval, Array.replicate]) ?_
  simp only [if_true]
  refine wpS_of_wp ?_
  obtain ⟨v1, d1⟩ := d1
  obtain ⟨v2, d2⟩ := d2
  have g0 := cell_al c0 (.cells #[.int .i64 n] 86)
  have g1 := cell_al c1 (.cells #[.int .i64 n] 86)
  have e1 := cell_al d1 (.cells #[.int .i64 n] 86)
  have e2 := cell_al d2 (.cells #[.int .i64 n] 86)
  have g2 : (w.alloc (.cells #[.int .i64 n] 86)).cell? ⟨w.heap.size, 0, none⟩ = some (.int .i64 n) := box_cell (heap_alloc_new w _) 0 _ rfl
  have hpl : p ≠ w.heap.size := fun e => by have := cell_lt d1; simp at this; omega
  have f1' : (w.alloc (.cells #[.int .i64 n] 86)).frozen? ⟨p, 1, none⟩ = false := by rw [← f1]; exact (Below.frozen (w := w) (w' := w.alloc (.cells #[.int .i64 n] 86)) ((Below.refl w.heap.size w).alloc (Nat.le_refl _) _) (cell_lt d1))
  have f2' : (w.alloc (.cells #[.int .i64 n] 86)).frozen? ⟨p, 2, none⟩ = false := by rw [← f2]; exact (Below.frozen (w := w) (w' := w.alloc (.cells #[.int .i64 n] 86)) ((Below.refl w.heap.size w).alloc (Nat.le_refl _) _) (cell_lt d2))
  obtain ⟨W1, hW1⟩ : ∃ W1, W1 = w.alloc (.cells #[.int .i64 n] 86) := ⟨_, rfl⟩
  obtain ⟨z, hz⟩ : ∃ z, z = w.heap.size := ⟨_, rfl⟩
  simp only [Array.replicate]
  rw [← hz] at g2 hpl ⊢
  rw [← hW1] at g0 g1 e1 e2 g2 f1' f2' ⊢
  clear hW1 hz c0 c1 d1 d2 f1 f2
  have hne2 : z ≠ p := fun e => hpl e.symm
  have d2' : (W1.setCell ⟨p, 1, none⟩ (.int .i64 at_)).cell? ⟨p, 2, none⟩ = some v2 := (World.cell?_setCell_other _ _ _ _ (by simp)).trans e2
  simp
  go_region_held3 (fun w' => w'.cell? ⟨b0, 0, none⟩ = some (.int .i64 at_) ∧ w'.cell? ⟨b1, 0, none⟩ = some (.pointer (some ⟨p, 0, none⟩)) ∧ w'.cell? ⟨z, 0, none⟩ = some (.int .i64 n))
    (first | exact ⟨g0, g1, g2⟩ | exact ⟨cell_setd g0 hne0, cell_setd g1 hne1, cell_setd g2 hne2⟩ | exact ⟨cell_set (cell_setd g0 hne0) hne0, cell_set (cell_setd g1 hne1) hne1, cell_set (cell_setd g2 hne2) hne2⟩ | go_keep) (fail)
  all_goals
    cases c₀
    simp [bodyPostS, results, Try.results57]
set_option maxRecDepth 100000 in
set_option maxHeartbeats 1600000 in
theorem caught_any_u8 (w : World) {p : Nat} {G : List Nat} {l : List UInt8} {a f : Nat} (h : Rd w p G l a f) (K : FuncId) (first caps : Array Value) (r : Except Nat Nat) (Q : Value → World → Prop)
    (hQ : ∀ v w' w'', Q v w' → Below w'.heap.size w' w'' → Q v w'') (hE : ∀ w' : World, (callFunc K (first ++ caps)).run Try.prog w' = .ok (.enter K (first ++ caps)) w')
    (hC : f = 0 → ∀ w', Below w.heap.size w w' → Calls Try.prog K (first ++ caps) w' (EndQ w' p G l a 0 r Q)) :
    Calls Try.prog 44 #[.pointer (some ⟨p, 0, none⟩), .func (.func K) first caps] w (CaughtQ w p G l a f r (.int .u8 0) Q) := by
  have hmf : ∀ (fn : Fn) (first cap : Array Value) (w : World), (Instr.makeFunc fn first cap).run Try.prog w = .ok (.func fn first cap) w := fun _ _ _ _ => rfl
  obtain ⟨A, c, c0, c1, c2, s, f1, f2, hA⟩ := h.cells
  have hpl := cell_lt c1
  have g1 := cell_al c1 (.cells #[.pointer (some ⟨p, 0, none⟩)] 59)
  have g2 := cell_al (cell_al c2 (.cells #[.pointer (some ⟨p, 0, none⟩)] 59)) (.cells #[.int .i64 a] 3)
  have HW := Lib.hid h
  have HS := Lib.hid (And.intro s (And.intro f1 f2))
  clear h s c0 f1 f2 hA
  by_cases hf : f = 0
  · have HC := Lib.hid (hC hf)
    subst hf
    clear hC
    go_enter_defers Try.func44, Try.ntmps44
    go_wp2_with (first | (at_builtin; refine Stopped.out ?_) | (at_make; refine Stopped.out ?_))
    have hB2 : Below w.heap.size w ((w.alloc (.cells #[.pointer (some ⟨p, 0, none⟩)] 59)).alloc (.cells #[.int .i64 a] 3)) := ((Below.refl _ w).alloc (Nat.le_refl _) _).alloc (by simp) _
    have b0 : ((w.alloc (.cells #[.pointer (some ⟨p, 0, none⟩)] 59)).alloc (.cells #[.int .i64 a] 3)).cell? ⟨w.heap.size + 1, 0, none⟩ = some (.int .i64 a) := by
      have := box_cell (heap_alloc_new (w.alloc (.cells #[.pointer (some ⟨p, 0, none⟩)] 59)) (.cells #[.int .i64 a] 3)) 0 _ rfl
      rwa [show (w.alloc (.cells #[.pointer (some ⟨p, 0, none⟩)] 59)).heap.size = w.heap.size + 1 by simp] at this
    have b1 : ((w.alloc (.cells #[.pointer (some ⟨p, 0, none⟩)] 59)).alloc (.cells #[.int .i64 a] 3)).cell? ⟨w.heap.size, 0, none⟩ = some (.pointer (some ⟨p, 0, none⟩)) :=
      cell_al (box_cell (heap_alloc_new w (.cells #[.pointer (some ⟨p, 0, none⟩)] 59)) 0 _ rfl) _
    refine (HC.out _ hB2).mono ?_
    rintro e w3 ⟨hk, hr⟩
    have b0' := hk.cell b0 (by simp; omega)
    have b1' := hk.cell b1 (by simp; omega)
    have hk3 : Keep [p] w w3 := (Keep.of_below hB2 [p]).trans hk
    clear hk b0 b1 g1 g2 c1 c2
    cases r with
    | ok k =>
      obtain ⟨v, rfl, hr3, hq⟩ := hr
      have HN := Lib.hid (show CaughtQ w p G l a 0 (.ok k) (.int .u8 0) Q (.returned v) (w3.alloc (.cells #[.int .i64 0] 86)) from
        ⟨hk3.alloc _, v, rfl, hr3.below ((Below.refl _ _).alloc (Nat.le_refl _) _), hQ _ _ _ hq ((Below.refl _ _).alloc (Nat.le_refl _) _)⟩)
      clear hr3 hq hk3 HW HS HC
      go_wp2
      refine leaves_cons (f := 57) (args := #[.pointer (some ⟨w.heap.size + 1, 0, none⟩), .pointer (some ⟨w.heap.size, 0, none⟩)]) (by simp) (by simp [go_sem]) ?_
      refine (catch_idle_u8 _ _ _).mono ?_
      rintro e u' w'' ⟨rfl, rfl, rfl⟩
      simp [Leaves, settle, results, Try.results44, go_sem]
      exact HN.out
    | error n =>
      obtain ⟨rfl, b, hr3⟩ := hr
      obtain ⟨A3, c3, _, d1, d2, _, f1, f2, _⟩ := hr3.cells
      have hp1 : p < w.heap.size := hpl
      have HN := Lib.hid (show CaughtQ w p G l a 0 (.error n) (.int .u8 0) Q (.returned (.int .u8 0)) (((w3.alloc (.cells #[.int .i64 n] 86)).setCell ⟨p, 1, none⟩ (.int .i64 a)).setCell ⟨p, 2, none⟩ (.int .i64 n)).drew from
        ⟨((((hk3.alloc _).setCell (p := ⟨p, 1, none⟩) (.inl (by simp)) (.int .i64 a)).setCell (p := ⟨p, 2, none⟩) (.inl (by simp)) (.int .i64 n))).drew, rfl, (((hr3.below ((Below.refl _ _).alloc (Nat.le_refl _) _)).setAt a HW.out.le).setFault n).below ((Below.refl _ _).drew)⟩)
      dsimp only [gave]
      refine leaves_cons (f := 57) (args := #[.pointer (some ⟨w.heap.size + 1, 0, none⟩), .pointer (some ⟨w.heap.size, 0, none⟩)]) (by simp) (by simp [go_sem]) ?_
      refine (catch_panics_u8 _ _ p n a [] _ b0' b1' ⟨_, d1⟩ ⟨_, d2⟩ f1 f2 (by omega) (by omega)).mono ?_
      rintro e u' w'' ⟨rfl, rfl, rfl⟩
      simp [Leaves, settle, results, Try.results44, go_sem]
      exact HN.out
  · have hz : ((f : Int) != 0) = true := by simp; omega
    have HN := Lib.hid (show CaughtQ w p G l a f r (.int .u8 0) Q (.returned (.int .u8 0)) (((w.alloc (.cells #[.pointer (some ⟨p, 0, none⟩)] 59)).alloc (.cells #[.int .i64 a] 3)).alloc (.cells #[.int .i64 0] 86)) from
      ⟨(((Keep.refl [p] w).alloc _).alloc _).alloc _, by rw [effR, if_pos hf]; exact ⟨rfl, ((HW.out.below ((Below.refl _ _).alloc (Nat.le_refl _) _)).below ((Below.refl _ _).alloc (Nat.le_refl _) _)).below ((Below.refl _ _).alloc (Nat.le_refl _) _)⟩⟩)
    clear hf hC HW HS
    go_enter_defers Try.func44, Try.ntmps44
    go_wp2
    refine leaves_cons (f := 57) (args := #[.pointer (some ⟨w.heap.size + 1, 0, none⟩), .pointer (some ⟨w.heap.size, 0, none⟩)]) (by simp) (by simp [go_sem]) ?_
    refine (catch_idle_u8 _ _ _).mono ?_
    rintro e u' w'' ⟨rfl, rfl, rfl⟩
    simp [Leaves, settle, results, Try.results44, go_sem]
    exact HN.out
end Go.Proofs.Ytikjhandhgfohaa
