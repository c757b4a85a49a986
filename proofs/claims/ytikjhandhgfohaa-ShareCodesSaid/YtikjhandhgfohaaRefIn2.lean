import Derived.Test.YtikjhandhgfohaaRefIn
set_option linter.unusedVariables false
set_option linter.unusedSimpArgs false
namespace Go.Proofs.Ytikjhandhgfohaa
open Go.RowKit
/-- a number that is at most so many, with so many bytes behind it -/
theorem cntL_none {l : List UInt8} {a : Nat} {most : Int} (h : rdS (l.drop a) 0 0 = none) : cntL l a most = .error 90 := by unfold cntL cntR; rw [h]
theorem cntL_long {l : List UInt8} {a x k : Nat} {most : Int} (h : rdS (l.drop a) 0 0 = some (x, k)) (hm : most < 0 ∨ most < (x : Int)) : cntL l a most = .error 1 := by unfold cntL cntR; rw [h]; simp only; rw [if_pos hm]
theorem cntL_some {l : List UInt8} {a x k : Nat} {most : Int} (h : rdS (l.drop a) 0 0 = some (x, k)) (hm : ¬ (most < 0 ∨ most < (x : Int))) : cntL l a most = if a + k + x ≤ l.length then .ok k else .error 90 := by unfold cntL cntR; rw [h]; simp only; rw [if_neg hm]
set_option maxRecDepth 100000 in
set_option maxHeartbeats 3200000 in
theorem in_Count (w : World) {q B : Nat} {l : List UInt8} {a f : Nat} (h : RIn w q B l a f) (most : Int) (hmost : most ≤ 9223372036854775807) :
    Calls Try.prog 54 #[.pointer (some ⟨q, 0, none⟩), .int .i64 most] w (InX w q B l (fun x => .int .i64 (x : Int)) (rdV (cntL l a most) (shV l a) 0 a f)) := by
  obtain ⟨A, c, c0, c1, c2, s, f1, f2, hA⟩ := h.cells
  have hle := h.le; have hmx := h.max; have hql := h.lt
  obtain ⟨R, hRR⟩ : ∃ R, R = rdV (cntL l a most) (shV l a) 0 a f := ⟨_, rfl⟩
  have HRR := Lib.hid hRR
  rw [← hRR]
  clear hRR
  by_cases hf : f = 0
  · subst hf
    have HSh := Lib.hid (refShort w.drew (s.below ((Below.refl _ w).drew)) a hle hmx)
    obtain ⟨X, hX⟩ : ∃ X, X = shX l a := ⟨_, rfl⟩
    rw [← hX] at HSh
    obtain ⟨m, hm⟩ : ∃ m, m = l.length := ⟨_, rfl⟩
    have HW := Lib.hid (And.intro h (And.intro hm hX))
    rw [← hm] at c0 hle hmx HSh
    obtain ⟨x, k⟩ := X
    simp only at HSh
    clear h s hA hX hm
    go_enter Try.func54, Try.ntmps54
    go_wp2_with fail
    go_region_held3 (fun w' => w'.cell? ⟨q, 0, none⟩ = some (.slice A m c) ∧ w'.cell? ⟨q, 1, none⟩ = some (.int .i64 a)) (first | exact ⟨j0, j1⟩ | exact ⟨c0, c1⟩ | go_keep)
      (first | (go_at_call 60; refine HSh.out.mono ?_; rintro e w1 ⟨rfl, hb1⟩; have hb2 := bthen ((Below.refl _ w).drew) hb1; have j0 := cell_below c0 hb2; have j1 := cell_below c1 hb2))
    have h1 := HW.out.1.below hb2
    have H1 := Lib.hid (And.intro h1 (Keep.of_below hb2 [q]))
    obtain ⟨A1, c1', k0, k1, k2, _, g1, g2, _⟩ := h1.cells
    clear h1 hb1 hb2 c0 c1 c2 f1 f2 k0
    by_cases hk : k = 0
    · have i1 : ((k : Int) == 0) = true := by simp; exact hk
      have HR : Hid (R = (0, a, 90)) := Lib.hid (by
        rw [HRR.out]
        refine rdV_err (cntL_none ?_)
        have hx := HW.out.2.2
        unfold shX at hx
        cases hr : rdS (l.drop a) 0 0 with
        | none => rfl
        | some xk =>
          obtain ⟨x', k'⟩ := xk
          rw [hr] at hx
          injection hx with _ hx
          have := (rdS_form hr).1
          omega)
      have HF := Lib.hid (in_Fail w1 H1.out.1 90)
      clear hk
      go_wp2_with (first | (at_builtin; refine Stopped.out ?_) | (at_make; refine Stopped.out ?_))
      refine HF.out.mono ?_
      rintro e w2 ⟨rfl, hr, hk2⟩
      have HN := Lib.hid (And.intro hr (H1.out.2.trans hk2))
      clear hr hk2
      go_wp2
      go_ret
      rw [HR.out]
      exact ⟨rfl, HN.out⟩
    · have i1 : ((k : Int) == 0) = false := by simp; omega
      have hXX : rdS (l.drop a) 0 0 = some (x, k) := by
        have hx := HW.out.2.2
        unfold shX at hx
        cases hr : rdS (l.drop a) 0 0 with
        | none => rw [hr] at hx; injection hx with _ hx; exact absurd hx hk
        | some xk => rw [hr] at hx; rw [hx]
      have hform := rdS_form hXX
      have hxl := hform.2.2.2.2.1
      have hkl : a + k ≤ l.length := by have := hform.2.2.1; simp at this; have := HW.out.1.le; have := hform.1; omega
      have hkm : a + k ≤ m := by rw [HW.out.2.1]; exact hkl
      have e2 : shV l a = x := by unfold shV; rw [hXX]
      have HXX := Lib.hid (And.intro hXX e2)
      clear hk hXX e2 hform
      by_cases hm0 : most < 0
      · have i2 : most < 0 := hm0
        have HR : Hid (R = (0, a, 1)) := Lib.hid (by rw [HRR.out]; exact rdV_err (cntL_long HXX.out.1 (.inl hm0)))
        have HF := Lib.hid (in_Fail w1 H1.out.1 1)
        clear hm0
        go_wp2_with (first | (at_builtin; refine Stopped.out ?_) | (at_make; refine Stopped.out ?_))
        refine HF.out.mono ?_
        rintro e w2 ⟨rfl, hr, hk2⟩
        have HN := Lib.hid (And.intro hr (H1.out.2.trans hk2))
        clear hr hk2
        go_wp2
        go_ret
        rw [HR.out]
        exact ⟨rfl, HN.out⟩
      · obtain ⟨mo, rfl⟩ : ∃ mo : Nat, most = mo := ⟨most.toNat, by omega⟩
        have iw : IntKind.u64.wrap (mo : Int) = (mo : Int) := by rw [IntKind.wrap_u64]; omega
        by_cases hmx2 : mo < x
        · have i3 : (mo : Int) < (x : Int) := by omega
          have HR : Hid (R = (0, a, 1)) := Lib.hid (by rw [HRR.out]; exact rdV_err (cntL_long HXX.out.1 (.inr i3)))
          have HF := Lib.hid (in_Fail w1 H1.out.1 1)
          clear hm0 hmx2
          go_wp2_with (first | (at_builtin; refine Stopped.out ?_) | (at_make; refine Stopped.out ?_))
          refine HF.out.mono ?_
          rintro e w2 ⟨rfl, hr, hk2⟩
          have HN := Lib.hid (And.intro hr (H1.out.2.trans hk2))
          clear hr hk2
          go_wp2
          go_ret
          rw [HR.out]
          exact ⟨rfl, HN.out⟩
        · have i3 : (x : Int) ≤ (mo : Int) := by omega
          have hcs := cntL_some HXX.out.1 (most := (mo : Int)) (by omega)
          obtain ⟨lf, hlf⟩ : ∃ lf, lf = m - a - k := ⟨_, rfl⟩
          have wq1 : IntKind.i64.wrap ((m : Int) - (a : Int)) = (m : Int) - (a : Int) := by rw [IntKind.wrap_i64]; omega
          have wq2 : IntKind.i64.wrap ((m : Int) - (a : Int) - (k : Int)) = (lf : Int) := by rw [IntKind.wrap_i64]; omega
          have wq4 : wrap64 ((m : Int) - (a : Int) - (k : Int)) = (lf : Int) := by unfold wrap64; omega
          have wq5 : (m : Int) - (a : Int) - (k : Int) = (lf : Int) := by omega
          have wq3 : IntKind.u64.wrap (lf : Int) = (lf : Int) := by rw [IntKind.wrap_u64]; omega
          by_cases hfit : lf < x
          · have i4 : (lf : Int) < (x : Int) := by omega
            have i4n : decide (lf < x) = true := decide_eq_true hfit
            have HR : Hid (R = (0, a, 90)) := Lib.hid (by
              rw [HRR.out]
              refine rdV_err ?_
              rw [hcs, if_neg (by rw [← HW.out.2.1]; omega)])
            have HF := Lib.hid (fun t : Nat => in_Fail (w1.drewN t) (H1.out.1.below (below_drewN (Below.refl _ _) t)) 90)
            clear hm0 hmx2 hcs hfit hlf
            go_wp2_with fail
            go_quiet (fail)
            go_wp2_with fail
            refine (HF.out nq).mono ?_
            rintro e w2 ⟨rfl, hr, hk2⟩
            have HN := Lib.hid (And.intro hr ((H1.out.2.drewN nq).trans hk2))
            clear hr hk2
            go_wp2
            go_ret
            rw [HR.out]
            exact ⟨rfl, HN.out⟩
          · have i4 : (x : Int) ≤ (lf : Int) := by omega
            have i4n : decide (lf < x) = false := decide_eq_false hfit
            have HR : Hid (R = (x, a + k, 0)) := Lib.hid (by
              rw [HRR.out]
              rw [rdV_ok (by rw [hcs, if_pos (by rw [← HW.out.2.1]; omega)] : cntL l a (mo : Int) = .ok k), HXX.out.2])
            have HN : Hid (∀ t : Nat, RIn ((w1.drewN t).setCell ⟨q, 1, none⟩ (.int .i64 ((a : Int) + k))) q B l (a + k) 0 ∧ Keep [q] w ((w1.drewN t).setCell ⟨q, 1, none⟩ (.int .i64 ((a : Int) + k)))) := Lib.hid (fun t => by
              have e1 : ((a + k : Nat) : Int) = (a : Int) + k := by omega
              have h3 := (H1.out.1.below (below_drewN (Below.refl _ _) t)).setAt (a + k) hkl
              rw [e1] at h3
              exact ⟨h3, (H1.out.2.drewN t).setCell (.inl (by simp)) _⟩)
            have iwx : IntKind.i64.wrap (x : Int) = (x : Int) := by rw [IntKind.wrap_i64]; omega
            clear hm0 hmx2 hcs hfit hlf
            go_wp2_with fail
            go_quiet (fail)
            go_wp2
            go_ret
            rw [HR.out]
            exact ⟨by first | rfl | simp [iwx], HN.out nq⟩
  · have HR : Hid (R = (0, a, f)) := Lib.hid (by rw [HRR.out]; exact rdV_stuck hf)
    rw [HR.out]
    have i1 : ((f : Int) != 0) = true := by simp; omega
    have HW := Lib.hid h
    clear h s hA c0 c1
    go_enter Try.func54, Try.ntmps54
    go_wp2
    go_ret
    exact ⟨rfl, HW.out, Keep.refl _ _⟩
end Go.Proofs.Ytikjhandhgfohaa
