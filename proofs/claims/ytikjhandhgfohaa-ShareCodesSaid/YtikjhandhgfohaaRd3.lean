import Derived.Test.YtikjhandhgfohaaRd2
set_option linter.unusedVariables false
set_option linter.unusedSimpArgs false
namespace Go.Proofs.Ytikjhandhgfohaa
open Go.RowKit
/-- a number that is at most so many -/
def cntR (r : Option (Nat × Nat)) (most : Int) : Except Nat (Nat × Nat) :=
  match r with
  | none => .error 90
  | some (x, k) => if most < 0 ∨ most < (x : Int) then .error 1 else .ok (x, k)
/-- how a read ends: its value and how many bytes it took, or how it gave up -/
def EndR (w : World) (p : Nat) (G : List Nat) (l : List UInt8) (a f : Nat) (r : Except Nat (Value × Nat)) (e : Ending) (w' : World) : Prop :=
  Keep [p] w w' ∧ match r with
  | .ok (v, k) => e = .returned v ∧ Rd w' p G l (a + k) f
  | .error n => e = gave n ∧ ∃ b, Rd w' p G l b f
set_option maxHeartbeats 800000 in
theorem count_any (w : World) {p : Nat} {G : List Nat} {l : List UInt8} {a f : Nat} (h : Rd w p G l a f) (most : Int) (hm : most ≤ 9223372036854775807) :
    Calls Try.prog 50 #[.pointer (some ⟨p, 0, none⟩), .int .i64 most] w (EndR w p G l a f ((cntR (rdS (l.drop a) 0 0) most).map fun x => (.int .i64 (x.1 : Int), x.2))) := by
  obtain ⟨R, hR⟩ : ∃ R, R = rdS (l.drop a) 0 0 := ⟨_, rfl⟩
  have HS := Lib.hid (short_any w h)
  rw [← hR] at HS ⊢
  clear hR
  cases R with
  | none =>
    go_enter Try.func50, Try.ntmps50
    go_wp2_with (first | (at_builtin; refine Stopped.out ?_) | (at_make; refine Stopped.out ?_))
    refine HS.out.mono ?_
    rintro e w1 ⟨hk, rfl, hb⟩
    dsimp only [gave]
    exact ⟨rfl, hk, rfl, hb⟩
  | some xk =>
    obtain ⟨x, k⟩ := xk
    by_cases h0 : most < 0
    · have HF : Hid ((cntR (some (x, k)) most).map (fun x => ((.int .i64 (x.1 : Int), x.2) : Value × Nat)) = .error 1) := Lib.hid (by rw [cntR, if_pos (.inl h0)]; rfl)
      have i0 : most < 0 := h0
      go_enter Try.func50, Try.ntmps50
      go_wp2_with (first | (at_builtin; refine Stopped.out ?_) | (at_make; refine Stopped.out ?_))
      refine HS.out.mono ?_
      rintro e w1 ⟨hk, rfl, hb, hx⟩
      have H1 := Lib.hid (And.intro hk hb)
      clear hk hb
      go_wp2
      refine ⟨rfl, H1.out.1, ?_⟩
      rw [HF.out]
      exact ⟨rfl, _, H1.out.2⟩
    · by_cases h1 : most < (x : Int)
      · have HF : Hid ((cntR (some (x, k)) most).map (fun x => ((.int .i64 (x.1 : Int), x.2) : Value × Nat)) = .error 1) := Lib.hid (by rw [cntR, if_pos (.inr h1)]; rfl)
        obtain ⟨m, rfl⟩ : ∃ m : Nat, most = m := ⟨most.toNat, by omega⟩
        clear h0
        go_enter Try.func50, Try.ntmps50
        go_wp2_with (first | (at_builtin; refine Stopped.out ?_) | (at_make; refine Stopped.out ?_))
        refine HS.out.mono ?_
        rintro e w1 ⟨hk, rfl, hb, hx⟩
        have H1 := Lib.hid (And.intro hk hb)
        clear hk hb
        go_wp2
        refine ⟨rfl, H1.out.1, ?_⟩
        rw [HF.out]
        exact ⟨rfl, _, H1.out.2⟩
      · have HF : Hid ((cntR (some (x, k)) most).map (fun x => ((.int .i64 (x.1 : Int), x.2) : Value × Nat)) = .ok (.int .i64 (x : Int), k)) := Lib.hid (by rw [cntR, if_neg (by omega)]; rfl)
        obtain ⟨m, rfl⟩ : ∃ m : Nat, most = m := ⟨most.toNat, by omega⟩
        have i1 : (x : Int) ≤ (m : Int) := by omega
        clear h0 h1
        go_enter Try.func50, Try.ntmps50
        go_wp2_with (first | (at_builtin; refine Stopped.out ?_) | (at_make; refine Stopped.out ?_))
        refine HS.out.mono ?_
        rintro e w1 ⟨hk, rfl, hb, hx⟩
        have H1 := Lib.hid (And.intro hk hb)
        clear hk hb
        go_wp2
        go_ret
        refine ⟨H1.out.1, ?_⟩
        rw [HF.out]
        exact ⟨rfl, H1.out.2⟩
set_option maxRecDepth 100000 in
theorem catch_idle (b0 b1 : Nat) (w : World) :
    CallsD Try.prog 58 #[.pointer (some ⟨b0, 0, none⟩), .pointer (some ⟨b1, 0, none⟩)] .returning w fun e u' w' => e = .returned (.tuple #[]) ∧ u' = .returning ∧ w' = w.alloc (.cells #[.int .i64 0] 86) := by
  have hTA : ∀ w : World, (Instr.typeAssert .nilIface 20 86 true).run Try.prog w = .ok (.tuple #[.agg #[.int .i64 0], .bool false]) w := fun w => by kernel_rfl
  refine callsD_of_wpS Try.func58 rfl fun c₀ cs hu => ?_
  apply wpS_seq
  apply wpS_region
  simp [wpOpsS, go_sem, recoverD, hu, Try.ntmps58, Exit.thenS, hTA]
  apply wpS_seq
  apply wpS_region
  simp [wpOpsS, go_sem, Exit.thenS]
  refine wpS_cond (t := false) (by simp [Act.eval, Array.replicate]) ?_
  simp only [Bool.false_eq_true, if_false]
  refine wpS_of_wp (wp_skip ?_)
  cases c₀
  simp_all [bodyPostS, results, Try.results58]
set_option maxRecDepth 100000 in
theorem catch_panics (b0 b1 p : Nat) (n at_ : Int) (older : List PanicEntry) (w : World) (c0 : w.cell? ⟨b0, 0, none⟩ = some (.int .i64 at_)) (c1 : w.cell? ⟨b1, 0, none⟩ = some (.pointer (some ⟨p, 0, none⟩)))
    (d1 : ∃ v, w.cell? ⟨p, 1, none⟩ = some v) (d2 : ∃ v, w.cell? ⟨p, 2, none⟩ = some v) (f1 : w.frozen? ⟨p, 1, none⟩ = false) (f2 : w.frozen? ⟨p, 2, none⟩ = false) (hne0 : b0 ≠ p) (hne1 : b1 ≠ p) :
    CallsD Try.prog 58 #[.pointer (some ⟨b0, 0, none⟩), .pointer (some ⟨b1, 0, none⟩)] (.panicking ({ v := .iface 86 (.agg #[.int .i64 n]), recovered := false } :: older)) w fun e u' w' =>
      e = .returned (.tuple #[]) ∧ u' = .panicking ({ v := .iface 86 (.agg #[.int .i64 n]), recovered := true } :: older) ∧ w' = (((w.alloc (.cells #[.int .i64 n] 86)).setCell ⟨p, 1, none⟩ (.int .i64 at_)).setCell ⟨p, 2, none⟩ (.int .i64 n)).drew := by
  have hTA : ∀ w : World, (Instr.typeAssert (.iface 86 (.agg #[.int .i64 n])) 20 86 true).run Try.prog w = .ok (.tuple #[.agg #[.int .i64 n], .bool true]) w := fun w => by kernel_rfl
  refine callsD_of_wpS Try.func58 rfl fun c₀ cs hu => ?_
  apply wpS_seq
  apply wpS_region
  simp [wpOpsS, go_sem, recoverD, hu, Try.ntmps58, Exit.thenS, hTA]
  apply wpS_seq
  apply wpS_region
  simp [wpOpsS, go_sem, Exit.thenS]
  refine wpS_cond (t := true) (by simp [Act.eval, Array.replicate]) ?_
  simp only [if_true]
  refine wpS_of_wp ?_
  obtain ⟨v1, d1⟩ := d1
  obtain ⟨v2, d2⟩ := d2
  have g0 := cell_al c0 (.cells #[.int .i64 n] 86)
  have g1 := cell_al c1 (.cells #[.int .i64 n] 86)
  have e1 := cell_al d1 (.cells #[.int .i64 n] 86)
  have e2 := cell_al d2 (.cells #[.int .i64 n] 86)
  have g2 : (w.alloc (.cells #[.int .i64 n] 86)).cell? ⟨w.heap.size, 0, none⟩ = some (.int .i64 n) := box_cell (heap_alloc_new w _) 0 _ rfl
  have hpl : p ≠ w.heap.size := fun e => by have := cell_lt d1; simp at this; omega
  have f1' : (w.alloc (.cells #[.int .i64 n] 86)).frozen? ⟨p, 1, none⟩ = false := by rw [← f1]; exact (Below.frozen (w := w) (w' := w.alloc (.cells #[.int .i64 n] 86)) ((Below.refl w.heap.size w).alloc (Nat.le_refl _) _) (cell_lt d1))
  have f2' : (w.alloc (.cells #[.int .i64 n] 86)).frozen? ⟨p, 2, none⟩ = false := by rw [← f2]; exact (Below.frozen (w := w) (w' := w.alloc (.cells #[.int .i64 n] 86)) ((Below.refl w.heap.size w).alloc (Nat.le_refl _) _) (cell_lt d2))
  obtain ⟨W1, hW1⟩ : ∃ W1, W1 = w.alloc (.cells #[.int .i64 n] 86) := ⟨_, rfl⟩
  obtain ⟨z, hz⟩ : ∃ z, z = w.heap.size := ⟨_, rfl⟩
  simp only [Array.replicate]
  rw [← hz] at g2 hpl ⊢
  rw [← hW1] at g0 g1 e1 e2 g2 f1' f2' ⊢
  clear hW1 hz c0 c1 d1 d2 f1 f2
  have hne2 : z ≠ p := fun e => hpl e.symm
  have d2' : (W1.setCell ⟨p, 1, none⟩ (.int .i64 at_)).cell? ⟨p, 2, none⟩ = some v2 := (World.cell?_setCell_other _ _ _ _ (by simp)).trans e2
  simp
  go_region_held3 (fun w' => w'.cell? ⟨b0, 0, none⟩ = some (.int .i64 at_) ∧ w'.cell? ⟨b1, 0, none⟩ = some (.pointer (some ⟨p, 0, none⟩)) ∧ w'.cell? ⟨z, 0, none⟩ = some (.int .i64 n))
    (first | exact ⟨g0, g1, g2⟩ | exact ⟨cell_setd g0 hne0, cell_setd g1 hne1, cell_setd g2 hne2⟩ | exact ⟨cell_set (cell_setd g0 hne0) hne0, cell_set (cell_setd g1 hne1) hne1, cell_set (cell_setd g2 hne2) hne2⟩ | go_keep) (fail)
  all_goals
    cases c₀
    simp [bodyPostS, results, Try.results58]
end Go.Proofs.Ytikjhandhgfohaa
