import Derived.Test.YtpjmbhhfpoamnaaRef13d
import Derived.Test.YtpjmbhhfpoamnaaFrScan2
set_option linter.unusedVariables false
set_option linter.unusedSimpArgs false
namespace Go.Proofs.Ytpjmbhhfpoamnaa
open Go.RowKit
structure Rl where
  k : UInt8
  p : List UInt8
  A : Option Addr
  c : Nat
def Rl.kp (x : Rl) : UInt8 × List UInt8 := (x.k, x.p)
def Rl.cells (x : Rl) : List Value := [.int .u8 (x.k.toNat : Int), .slice x.A x.p.length x.c]
def frameR (xs : List Rl) : List Value := xs.flatMap Rl.cells
theorem frameR_snoc (xs : List Rl) (x : Rl) : frameR (xs ++ [x]) = frameR xs ++ x.cells := by simp [frameR]
/-- the frames as the document tells them -/
structure FrR (w : World) (B : Nat) (v : Value) (xs : List Rl) : Prop where
  own : w.ownsRow B 70 2 v xs.length (frameR xs)
  rows : ∀ x ∈ xs, w.ownsRow B 5 1 (.slice x.A x.p.length x.c) x.p.length (x.p.map by8)
theorem FrR.below {B : Nat} {w w' : World} {v : Value} {xs : List Rl} (h : FrR w B v xs) (k : Below w.heap.size w w') : FrR w' B v xs := ⟨own_below h.own k, fun x hx => own_below (h.rows x hx) k⟩
theorem FrR.snoc {B : Nat} {w wa w' : World} {v v' : Value} {xs : List Rl} {x : Rl} (h : FrR w B v xs) (ha : Below w.heap.size w wa) (ox : w.ownsRow B 5 1 (.slice x.A x.p.length x.c) x.p.length (x.p.map by8)) (o : w'.ownsRow B 70 2 v' (xs.length + 1) (frameR xs ++ x.cells)) (hg : wa.grownBy w' v.ownBlock) : FrR w' B v' (xs ++ [x]) := by
  have kg : Keep v.ownBlock.toList wa w' := (Keep.refl _ wa).grown hg (fun b e => .inl (by simp [e]))
  have h1 := h.below ha
  have hk : ∀ {y : Rl}, w.ownsRow B 5 1 (.slice y.A y.p.length y.c) y.p.length (y.p.map by8) → w'.ownsRow B 5 1 (.slice y.A y.p.length y.c) y.p.length (y.p.map by8) := fun oy => kg.own (own_below oy ha) (fun b hb hx => own_types' h1.own (own_below oy ha) (by decide) (by simpa using hx) hb)
  refine ⟨by rw [List.length_append, frameR_snoc]; exact o, fun y hy => ?_⟩
  rcases List.mem_append.1 hy with hy | hy
  · exact hk (h.rows y hy)
  · simp at hy
    subst hy
    exact hk ox
theorem frameR_len (xs : List Rl) : (frameR xs).length = xs.length * 2 := by
  induction xs with
  | nil => rfl
  | cons x xs ih => simp [frameR, Rl.cells] at ih ⊢; omega
theorem scanF_at (l : List UInt8) (a : Nat) (h : a < l.length) : (wholeF l (a : Int)) = ((wholeD (l.drop a)).1, (wholeD (l.drop a)).2.1, ((a + (wholeD (l.drop a)).2.2.1 : Nat) : Int), (wholeD (l.drop a)).2.2.2) := by
  unfold wholeF
  rw [if_neg (by omega), show ((a : Int)).toNat = a by omega]
  simp
set_option maxRecDepth 100000 in
set_option maxHeartbeats 1600000 in
theorem RefScan (w : World) {A : Option Addr} {n c : Nat} {l : List UInt8} (h : Sl w 1 A n c (l.map by8)) (hn : n ≤ 17592186044416) :
    Calls Try.prog 128 #[.slice A n c] w fun e w' => ∃ v xs, e = .returned (.tuple #[v, .int .i64 ((scanF l).2.1 : Nat), .int .i64 ((scanF l).2.2 : Nat)]) ∧ FrR w' w.heap.size v xs ∧ xs.map Rl.kp = (scanF l).1 ∧ Below w.heap.size w w' := by
  have hl : l.length = n := by simpa using h.len
  have hc := h.le; have hcm := h.max
  have HL := Lib.hid hl
  obtain ⟨R, hR⟩ : ∃ R, R = scanF l := ⟨_, rfl⟩
  have HR := Lib.hid hR
  rw [← hR]
  clear hl hR
  go_enter Try.func128, Try.ntmps128
  go_wp2
  go_loopw [5, 6] (fun o i wr => ∃ (a : Nat) (xs : List Rl) (v : Value), a ≤ n ∧ i = .int .i64 a ∧ o = v ∧ FrR wr w.heap.size v xs ∧ 10 * xs.length ≤ a ∧ R = (xs.map Rl.kp ++ (scanF (l.drop a)).1, a + (scanF (l.drop a)).2.1, (scanF (l.drop a)).2.2) ∧ Below w.heap.size w wr) (fun _ i _ => n - (intOf i).toNat)
  case atStart => exact ⟨0, [], _, by omega, rfl, rfl, ⟨World.ownsRow_nil .., by simp⟩, by simp, by rw [HR.out]; simp, Below.refl _ _⟩
  case round =>
    obtain ⟨a, xs, v, ha, rfl, rfl, hF, hcnt, hS, hB⟩ := hrel
    by_cases hlt : a < n
    · have i0 : (0 : Int) ≤ (a : Int) := Int.natCast_nonneg _
      have i1 : (a : Int) < (n : Int) := by omega
      have hW := RefDecode wr (h.below hB) (a : Int) (by omega)
      rw [scanF_at l a (by rw [HL.out]; exact hlt)] at hW
      have hdne : l.drop a ≠ [] := fun e => by have := congrArg List.length e; rw [List.length_drop, HL.out] at this; simp at this; omega
      have HG := Lib.hid (And.intro (fun ht => scanF_stop hdne ht) (And.intro (fun ht => scanF_go hdne ht) (fun ht => wholeD_bound (l.drop a) ht hdne)))
      obtain ⟨⟨k, p, e, t⟩, hw⟩ : ∃ r, r = wholeD (l.drop a) := ⟨_, rfl⟩
      rw [← hw] at hW HG
      have HW := Lib.hid hW
      have HF := Lib.hid (And.intro hF (And.intro hS hB))
      clear hW hw hdne hF hS hB
      go_wp2_with (first | (at_builtin; refine Stopped.out ?_) | (at_make; refine Stopped.out ?_))
      refine HW.out.mono ?_
      rintro e2 w2 ⟨P, pc, rfl, o2, hb2⟩
      simp only at o2
      simp only
      obtain ⟨m, hm⟩ : ∃ m, m = p.length := ⟨_, rfl⟩
      rw [← hm] at o2 ⊢
      have HM := Lib.hid hm
      have H2 := Lib.hid (And.intro o2 hb2)
      clear o2 hb2 hm HW
      by_cases ht : t = 0
      · have ht0 : ((t : Int) != 0) = false := by simp [ht]
        obtain ⟨he1, he2, he3⟩ := HG.out.2.2 ht
        rw [List.length_drop, HL.out] at he2
        rw [← HM.out] at he1 he3
        have hba : Below w2.heap.size w2 (w2.alloc (.cells #[.int .u8 (k.toNat : Int), .slice P m pc] 70)) := (Below.refl _ _).alloc (Nat.le_refl _) _
        have hbb := bthen hba ((Below.refl _ (w2.alloc (.cells #[.int .u8 (k.toNat : Int), .slice P m pc] 70))).alloc (Nat.le_refl _) (.cells #[.int .u8 (k.toNat : Int), .slice P m pc] 70))
        have H3 := Lib.hid (And.intro hbb (And.intro (own_below (HF.out.1.below H2.out.2).own hbb) (Nat.le_trans HF.out.2.2.size (Nat.le_trans H2.out.2.size hbb.size))))
        have sfr := Sl.fresh (w2.alloc (.cells #[.int .u8 (k.toNat : Int), .slice P m pc] 70)) [.int .u8 (k.toNat : Int), .slice P m pc] 70 1 2 rfl (by decide)
        rw [show (w2.alloc (.cells #[.int .u8 (k.toNat : Int), .slice P m pc] 70)).heap.size = w2.heap.size + 1 by simp] at sfr
        clear hba hbb
        go_wp2_with (first | (at_builtin; refine Stopped.out ?_) | (at_make; refine Stopped.out ?_))
        refine Stopped.mk (apk_own EFr rfl (.tmp 26) (.tmp 28) rfl rfl H3.out.2.1 rfl sfr (by simp [Value.oneCell']) (by simp only [maxLen]; omega) (by omega) H3.out.2.2 ?_)
        intro v3 w3 o3 hg3 _
        have hn3 : FrR w3 w.heap.size v3 (xs ++ [⟨k, p, P, pc⟩]) := by
          have hm := HM.out
          subst hm
          exact (HF.out.1.below H2.out.2).snoc (x := ⟨k, p, P, pc⟩) H3.out.1 (own_mono H2.out.1 HF.out.2.2.size) o3 hg3
        have hb3 : Below w.heap.size w w3 := (bthen HF.out.2.2 (bthen H2.out.2 H3.out.1)).grown hg3 H3.out.2.2 (fun k hk => (H3.out.2.1.lt k hk).1)
        have HN := Lib.hid (And.intro hn3 hb3)
        have HS2 : Hid (R = ((xs ++ [(⟨k, p, P, pc⟩ : Rl)]).map Rl.kp ++ (scanF (l.drop (a + e))).1, a + e + (scanF (l.drop (a + e))).2.1, (scanF (l.drop (a + e))).2.2)) := Lib.hid (by
          rw [HF.out.2.1, HG.out.2.1 ht, List.drop_drop]
          simp [Rl.kp, Nat.add_assoc])
        clear o3 hg3 hn3 hb3 H3
        go_wp2
        first | go_roundw | refine ⟨?rel, ?measure⟩
        case rel => exact ⟨a + e, xs ++ [⟨k, p, P, pc⟩], v3, by omega, by go_num, rfl, HN.out.1, by rw [List.length_append]; simp; omega, HS2.out, HN.out.2⟩
        case measure => simp [intOf]; omega
      · have ht0 : ((t : Int) != 0) = true := by simp; omega
        go_wp2_with fail
        go_ret3
        exact ⟨_, xs, by rw [HF.out.2.1, HG.out.1 ht]; rfl, (HF.out.1.below H2.out.2).below ((Below.refl _ _).alloc (Nat.le_refl _) _), by rw [HF.out.2.1, HG.out.1 ht]; simp, bthen HF.out.2.2 (bthen H2.out.2 ((Below.refl _ _).alloc (Nat.le_refl _) _))⟩
    · have HF := Lib.hid (And.intro hF (And.intro hS hB))
      clear hF hS hB
      have i1 : (n : Int) ≤ (a : Int) := by omega
      have ed : l.drop a = [] := List.drop_eq_nil_of_le (by rw [HL.out]; omega)
      go_wp2_with fail
      go_ret3
      exact ⟨_, xs, by rw [HF.out.2.1, ed]; rfl, HF.out.1, by rw [HF.out.2.1, ed]; simp [scanF_nil], HF.out.2.2⟩
end Go.Proofs.Ytpjmbhhfpoamnaa
