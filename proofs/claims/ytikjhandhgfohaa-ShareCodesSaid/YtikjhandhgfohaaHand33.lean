import Derived.Test.YtikjhandhgfohaaHeld33
import Derived.Test.YtikjhandhgfohaaApart33
import Derived.Test.YtikjhandhgfohaaP33a
set_option linter.unusedVariables false
set_option linter.unusedSimpArgs false
namespace Go.Proofs.Ytikjhandhgfohaa
open Go.RowKit
def zPc : Value := .agg #[.int .u8 0, .int .i64 0, .int .u8 0, .int .u8 0, .int .u8 0, .int .u8 0, .int .u8 0, .int .u8 0, .int .u8 0, .int .u8 0, .slice none 0 0]
theorem EPc : ElemT Try.prog 26 25 zPc 11 48 := ⟨Try.underlying26, by kernel_rfl, rfl, by decide⟩
/-- a piece's cells, as a list -/
def pcL (x : Nat) (nd : Int) (t : Nat → Nat) (A : Option Addr) (n c : Nat) : List Value := (pcA x nd t A n c).toList
theorem pcL_len (x : Nat) (nd : Int) (t : Nat → Nat) (A : Option Addr) (n c : Nat) : (pcL x nd t A n c).length = 11 := rfl
theorem pcL_one (x : Nat) (nd : Int) (t : Nat → Nat) (A : Option Addr) (n c : Nat) : ∀ u ∈ pcL x nd t A n c, u.oneCell' = true := by
  intro u hu
  simp [pcL, pcA] at hu
  rcases hu with rfl | rfl | rfl | rfl | rfl | rfl | rfl | rfl | rfl | rfl | rfl <;> rfl
def markL : List Value := pcL 77 0 (fun _ => 0) none 0 0
def marksL (j : Nat) : List Value := (List.replicate j markL).flatten
theorem marksL_succ (j : Nat) : marksL (j + 1) = marksL j ++ markL := by
  unfold marksL
  rw [List.replicate_succ', List.flatten_append]
  simp
theorem keep_grown {w w' : World} {o : Option Nat} (hg : w.grownBy w' o) : Keep o.toList w w' := (Keep.refl _ w).grown hg (fun k e => .inl (by simp [e]))
/-- what handed leaves of one piece -/
structure HandP (w w' : World) (g C h Ch : Nat) (R : Option Addr) (cR : Nat) (x : Nat) (nd : Int) (t : Nat → Nat) (n : Nat) (l : List UInt8) (j : Nat) (v : Value) : Prop where
  og : w'.ownsRow w.heap.size 25 11 v (1 + j) (pcL x nd t R n cR ++ marksL j)
  oh : w'.ownsRow w.heap.size 23 1 (.slice (some ⟨h, 0, none⟩) 1 Ch) 1 [.slice R (n + 64) cR]
  oR : w'.ownsRow w.heap.size 5 1 (.slice R (n + 64) cR) (n + 64) ((room33 l).map by8)
  below : Below w.heap.size w w'
set_option maxRecDepth 100000 in
set_option maxHeartbeats 3200000 in
theorem handed33 (w : World) {g0 : Nat} (x : Nat) (nd : Int) (t : Nat → Nat) {A : Option Addr} {n c : Nat} {l : List UInt8} (h0 : w.heap[g0]? = some (.cells (pcA x nd t A n c) 25 (0, 0))) (hs : Sl w 1 A n c (l.map by8)) (hn : n ≤ 3000) :
    Calls Try.prog 4 #[.slice (some ⟨g0, 0, none⟩) 1 1] w fun e w' => ∃ g C h Ch R cR, e = .returned (.tuple #[.slice (some ⟨g, 0, none⟩) 1 C, .slice (some ⟨g, 0, none⟩) 9 C, .slice (some ⟨h, 0, none⟩) 1 Ch]) ∧ HandP w w' g C h Ch R cR x nd t n l 8 (.slice (some ⟨g, 0, none⟩) 9 C) := by
  have H0 := Lib.hid (And.intro h0 hs)
  clear h0 hs
  go_enter Try.func4, Try.ntmps4
  go_wp2
  go_loopw [5, 6, 7, 8, 9] (fun o b i _ _ wr => (i = .int .i64 0 ∧ o = .slice none 0 0 ∧ b = .slice none 0 0 ∧ wr = w) ∨
    (i = .int .i64 1 ∧ ∃ g C h Ch bR cR, o = .slice (some ⟨g, 0, none⟩) 1 C ∧ b = .slice (some ⟨h, 0, none⟩) 1 Ch ∧ HandP w wr g C h Ch (some ⟨bR, 0, none⟩) cR x nd t n l 0 (.slice (some ⟨g, 0, none⟩) 1 C) ∧ g ≠ h ∧ g ≠ bR)) (fun _ _ i _ _ _ => 1 - (intOf i).toNat)
  case atStart => exact .inl ⟨rfl, rfl, rfl, rfl⟩
  case round =>
    rcases hrel with ⟨rfl, rfl, rfl, rfl⟩ | ⟨rfl, g, C, h, Ch, bR, cR, rfl, rfl, hP, hgh, hgR⟩
    · have hz := H0.out.1
      have c10 : wr.cell? ⟨g0, 10, none⟩ = some (.slice A n c) := box_cell hz 10 _ rfl
      have HR := Lib.hid (roomy33 wr H0.out.2 (by omega))
      clear hz
      go_wp2_with fail
      refine HR.out.mono ?_
      rintro e w1 ⟨v1, rfl, o1, hb1⟩
      obtain ⟨bR, cR, rfl, hbR, hbR2, hcR⟩ := own_form o1 (by omega)
      clear HR c10
      go_wp2_with (first | (at_builtin; refine Stopped.out ?_) | (at_make; refine Stopped.out ?_))
      refine Stopped.mk (apk_own EBs33 rfl (.tmp 24) (.tmp 26) rfl rfl (World.ownsRow_nil (base := wr.heap.size) _ _ _) rfl (Sl.fresh w1 [.slice (some ⟨bR, 0, none⟩) (n + 64) cR] 23 1 1 rfl (by decide)) (by simp [Value.oneCell']) (by simp only [maxLen]; omega) (by omega) (by have := hb1.size; simp; omega) ?_)
      intro v2 w2 o2 hg2 hk2
      rw [Nat.zero_add, List.nil_append] at o2
      have hb2 : Below w1.heap.size w1 w2 := ((Below.refl _ w1).alloc (Nat.le_refl _) _).grown hg2 (by simp) (fun k hk => by cases hk)
      obtain ⟨h, Ch, rfl, hh1, hh2, hCh⟩ := own_form o2 (by omega)
      have hhne : h ≠ bR := by
        rcases hk2 h rfl with hx | hx
        · cases hx
        · simp at hx; omega
      have hB2 := bthen hb1 hb2
      have hz2 := heap_below H0.out.1 hB2
      have o1' := own_below o1 hb2
      have c0 : w2.cell? ⟨g0, 0, none⟩ = some (.int .u8 x) := box_cell hz2 0 _ rfl
      have c1 : w2.cell? ⟨g0, 1, none⟩ = some (.int .i64 nd) := box_cell hz2 1 _ rfl
      have c2 : w2.cell? ⟨g0, 2, none⟩ = some (.int .u8 (t 0)) := box_cell hz2 2 _ rfl
      have c3 : w2.cell? ⟨g0, 3, none⟩ = some (.int .u8 (t 1)) := box_cell hz2 3 _ rfl
      have c4 : w2.cell? ⟨g0, 4, none⟩ = some (.int .u8 (t 2)) := box_cell hz2 4 _ rfl
      have c5 : w2.cell? ⟨g0, 5, none⟩ = some (.int .u8 (t 3)) := box_cell hz2 5 _ rfl
      have c6 : w2.cell? ⟨g0, 6, none⟩ = some (.int .u8 (t 4)) := box_cell hz2 6 _ rfl
      have c7 : w2.cell? ⟨g0, 7, none⟩ = some (.int .u8 (t 5)) := box_cell hz2 7 _ rfl
      have c8 : w2.cell? ⟨g0, 8, none⟩ = some (.int .u8 (t 6)) := box_cell hz2 8 _ rfl
      have c9 : w2.cell? ⟨g0, 9, none⟩ = some (.int .u8 (t 7)) := box_cell hz2 9 _ rfl
      have c10 : w2.cell? ⟨g0, 10, none⟩ = some (.slice A n c) := box_cell hz2 10 _ rfl
      have r1 : (n : Int) ≤ (n : Int) + 64 := by omega
      have r2 : (n : Int) ≤ (cR : Int) := by omega
      have r0 : (0 : Int) ≤ (n : Int) := by omega
      have HO := Lib.hid (And.intro o1' (And.intro o2 hB2))
      have hg0 : g0 < w2.heap.size := (Array.getElem?_eq_some_iff.1 hz2).1
      clear hg2 hk2 o1 o2 o1' hb1 hb2 hB2 hz2
      go_wp2_with (first | (at_builtin; refine Stopped.out ?_) | (at_make; refine Stopped.out ?_))
      have sf : Sl ((w2.alloc (.cells (pcA x nd t (some ⟨bR, 0, none⟩) n cR) 25)).alloc (.cells (pcL x nd t (some ⟨bR, 0, none⟩) n cR).toArray 25)) 11 (some ⟨w2.heap.size + 1, 0, none⟩) 1 1 (pcL x nd t (some ⟨bR, 0, none⟩) n cR) := by
        have := Sl.fresh (w2.alloc (.cells (pcA x nd t (some ⟨bR, 0, none⟩) n cR) 25)) (pcL x nd t (some ⟨bR, 0, none⟩) n cR) 25 1 11 rfl (by decide)
        rwa [World.size_alloc] at this
      have hsz := HO.out.2.2.size
      refine Stopped.mk (apk_own EPc rfl (.tmp 41) (.tmp 43) rfl rfl (World.ownsRow_nil (base := wr.heap.size) _ _ _) rfl sf (pcL_one _ _ _ _ _ _) (by decide) (by decide) (by simp; omega) ?_)
      intro v4 w4 o4 hg4 hk4
      rw [Nat.zero_add, List.nil_append] at o4
      have hb4 : Below w2.heap.size w2 w4 := (((Below.refl _ w2).alloc (Nat.le_refl _) _).alloc (by simp) _).grown hg4 (by simp; omega) (fun k hk => by cases hk)
      obtain ⟨g, C, rfl, hg1, hg2, hC⟩ := own_form o4 (by omega)
      have hgs : w2.heap.size < g := by
        rcases hk4 g rfl with hx | hx
        · cases hx
        · simp at hx; omega
      have HE := Lib.hid (show HandP wr w4 g C h Ch (some ⟨bR, 0, none⟩) cR x nd t n l 0 (.slice (some ⟨g, 0, none⟩) 1 C) from ⟨by simpa [marksL] using o4, own_below HO.out.2.1 hb4, own_below HO.out.1 hb4, bthen HO.out.2.2 hb4⟩)
      have HG := Lib.hid (show g ≠ h ∧ g ≠ bR by have := (HO.out.2.2.size); have hq := own_form HO.out.1 (by omega); obtain ⟨_, _, e, _, hq2, _⟩ := hq; injection e with e1; injection e1 with e1; injection e1 with e1; omega)
      clear o4 hg4 hk4 hb4 sf c0 c1 c2 c3 c4 c5 c6 c7 c8 c9 c10 HO
      go_wp2
      first | go_roundw | refine ⟨?rel, ?measure⟩
      case rel => exact .inr ⟨by go_num, g, C, h, Ch, bR, cR, rfl, rfl, HE.out, HG.out.1, HG.out.2⟩
      case measure => simp [intOf]
    · have HP := Lib.hid (And.intro hP (show ∀ k, (Value.slice (some ⟨g, 0, none⟩) 1 C).ownBlock = some k → k ≠ h ∧ k ≠ bR from fun k hk => by obtain rfl := Option.some.inj hk; exact ⟨hgh, hgR⟩))
      clear hP hgh hgR H0
      obtain ⟨w1, rfl⟩ : ∃ w1, w1 = wr := ⟨_, rfl⟩
      go_wp2
      go_loopw [10, 11] (fun o i w5 => ∃ (j : Nat) (v : Value), j ≤ 8 ∧ i = .int .i64 j ∧ o = v ∧ HandP w w5 g C h Ch (some ⟨bR, 0, none⟩) cR x nd t n l j v ∧ ∀ k, v.ownBlock = some k → k ≠ h ∧ k ≠ bR) (fun _ i _ => 8 - (intOf i).toNat)
      case atStart => exact ⟨0, _, by omega, rfl, rfl, HP.out.1, HP.out.2⟩
      case round =>
        clear HP
        obtain ⟨j, v, hj, rfl, rfl, hP, hne⟩ := hrel
        by_cases hlt : j < 8
        · have hj0 : (0 : Int) ≤ (j : Int) := Int.natCast_nonneg _
          have hj1 : (j : Int) < 8 := by omega
          have hsz := hP.below.size
          have H1 := Lib.hid (And.intro hP hne)
          clear hP hne
          go_wp2_with (first | (at_builtin; refine Stopped.out ?_) | (at_make; refine Stopped.out ?_))
          refine Stopped.mk (apk_own EPc rfl (.tmp 50) (.tmp 52) rfl rfl (H1.out.1.og.alloc _) rfl (Sl.fresh wr markL 25 1 11 rfl (by decide)) (pcL_one _ _ _ _ _ _) (by simp only [maxLen]; omega) (by omega) (by simp; omega) ?_)
          intro v2 w2 o2 hg2 hk2
          have hP := H1.out.1
          have ka : Below wr.heap.size wr (wr.alloc (.cells markL.toArray 25)) := (Below.refl _ _).alloc (Nat.le_refl _) _
          have kg : Keep u10.ownBlock.toList (wr.alloc (.cells markL.toArray 25)) w2 := keep_grown hg2
          have HN := Lib.hid (show HandP w w2 g C h Ch (some ⟨bR, 0, none⟩) cR x nd t n l (j + 1) v2 ∧ ∀ k, v2.ownBlock = some k → k ≠ h ∧ k ≠ bR from ⟨⟨by rw [marksL_succ, ← List.append_assoc, ← Nat.add_assoc]; exact o2, kg.own (own_below hP.oh ka) (fun b hb hx => (H1.out.2 b (by simpa using hx)).1 (Option.some.inj hb).symm), kg.own (own_below hP.oR ka) (fun b hb hx => (H1.out.2 b (by simpa using hx)).2 (Option.some.inj hb).symm), kg.below (hP.below.trans (ka.mono hsz)) (by simp; omega) (fun y hy => (hP.og.lt y (by simpa using hy)).1)⟩, fun k hk => by
              rcases hk2 k hk with h1 | h1
              · exact H1.out.2 k h1
              · simp at h1
                have e1 := (hP.oh.lt h rfl).2
                have e2 := (hP.oR.lt bR rfl).2
                exact ⟨by omega, by omega⟩⟩)
          clear H1 o2 hg2 hk2 hP ka kg
          go_wp2
          first | go_roundw | refine ⟨?rel, ?measure⟩
          case rel => exact ⟨j + 1, v2, by omega, by go_num, rfl, HN.out.1, HN.out.2⟩
          case measure => simp [intOf]; omega
        · obtain rfl : j = 8 := by omega
          obtain ⟨g2, C2, rfl, hg1, hg2, hC⟩ := own_form hP.og (by omega)
          have HP := Lib.hid hP
          have r9 : (9 : Int) ≤ (C2 : Int) := by omega
          have r1 : (1 : Int) ≤ (C2 : Int) := by omega
          clear hP hne
          go_wp2
          go_ret3
          exact ⟨g2, C2, h, Ch, some ⟨bR, 0, none⟩, cR, rfl, ⟨HP.out.og, HP.out.oh, HP.out.oR, HP.out.below⟩⟩
end Go.Proofs.Ytikjhandhgfohaa
