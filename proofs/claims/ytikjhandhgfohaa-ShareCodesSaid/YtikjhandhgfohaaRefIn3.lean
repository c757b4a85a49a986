import Derived.Test.YtikjhandhgfohaaRefIn2
import Derived.Test.YtikjhandhgfohaaStepOne
set_option linter.unusedVariables false
set_option linter.unusedSimpArgs false
namespace Go.Proofs.Ytikjhandhgfohaa
open Go.RowKit
theorem bytes_eq (l : List UInt8) (a f : Nat) (most : Int) (ha : a ≤ l.length) :
    rdV (numR l (rdV (cntL l a most) (shV l a) 0 a f).2.1 ((rdV (cntL l a most) (shV l a) 0 a f).1 : Int)) (atR l (rdV (cntL l a most) (shV l a) 0 a f).2.1 (rdV (cntL l a most) (shV l a) 0 a f).1) [] (rdV (cntL l a most) (shV l a) 0 a f).2.1 (rdV (cntL l a most) (shV l a) 0 a f).2.2 = rdV (bytR l a most) (bytV l a most) [] a f := by
  by_cases hf : f = 0
  · subst hf
    cases hc : cntR (rdS (l.drop a) 0 0) most with
    | error n =>
      have e1 : cntL l a most = .error n := by unfold cntL; rw [hc]
      have e2 : bytR l a most = .error n := by unfold bytR; rw [hc]
      have hn : n ≠ 0 := fun e => cntR_ne _ _ (by rw [hc, e])
      rw [rdV_err e1, rdV_err e2]
      exact rdV_stuck hn
    | ok xk =>
      obtain ⟨x, k⟩ := xk
      obtain ⟨hs, hx⟩ := cntR_inv hc
      have e3 : shV l a = x := by unfold shV; rw [hs]
      by_cases hle : a + k + x ≤ l.length
      · have e1 : cntL l a most = .ok k := by unfold cntL; rw [hc]; simp [hle]
        have e2 : bytR l a most = .ok (k + x) := by unfold bytR; rw [hc]; simp [hle]
        have e4 : bytV l a most = atR l (a + k) x := by unfold bytV; rw [hc]; rfl
        rw [rdV_ok e1, rdV_ok e2, e3, e4, rdV_ok (numR_yes hle), Nat.add_assoc]
      · have e1 : cntL l a most = .error 90 := by unfold cntL; rw [hc]; simp [hle]
        have e2 : bytR l a most = .error 90 := by unfold bytR; rw [hc]; simp [hle]
        rw [rdV_err e1, rdV_err e2]
        exact rdV_stuck (f := 90) (by decide)
  · rw [rdV_stuck (r := cntL l a most) hf, rdV_stuck (r := bytR l a most) hf]
    exact rdV_stuck hf
theorem in_Bytes (w : World) {q B : Nat} {l : List UInt8} {a f : Nat} (h : RIn w q B l a f) (most : Int) (hm : most ≤ 9223372036854775807) :
    Calls Try.prog 36 #[.pointer (some ⟨q, 0, none⟩), .int .i64 most] w (InB w q B l (rdV (bytR l a most) (bytV l a most) [] a f)) := by
  have hC := in_Count w h most hm
  have hE := bytes_eq l a f most h.le
  have hb := rdV_cnt l a f most
  have hmx := h.max
  obtain ⟨R, hR⟩ : ∃ R, R = rdV (cntL l a most) (shV l a) 0 a f := ⟨_, rfl⟩
  rw [← hR] at hC hE hb
  rw [← hE]
  obtain ⟨x, a1, f1⟩ := R
  simp only at hb hE ⊢
  have HC := Lib.hid hC
  clear hC hE hR h
  go_enter Try.func36, Try.ntmps36
  go_wp2_with (first | (at_builtin; refine Stopped.out ?_) | (at_make; refine Stopped.out ?_))
  refine HC.out.mono ?_
  rintro e w1 ⟨rfl, hr, hk⟩
  have hF := in_Fixed w1 hr (x : Int) (by omega)
  rw [show ((x : Int)).toNat = x by omega] at hF
  have HF := Lib.hid (And.intro hF hk)
  clear hF hr hk
  go_wp2_with (first | (at_builtin; refine Stopped.out ?_) | (at_make; refine Stopped.out ?_))
  refine HF.out.1.mono ?_
  rintro e w2 ⟨v, rfl, o, hr, hk⟩
  have HN := Lib.hid (And.intro (own_mono o HF.out.2.size) (And.intro hr (HF.out.2.trans hk)))
  clear o hr hk
  go_wp2
  go_ret
  exact ⟨v, rfl, HN.out⟩
end Go.Proofs.Ytikjhandhgfohaa
