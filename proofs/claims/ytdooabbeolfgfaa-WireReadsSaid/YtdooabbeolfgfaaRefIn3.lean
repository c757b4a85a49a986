import Derived.Test.YtdooabbeolfgfaaRefIn2
import Derived.Test.YtdooabbeolfgfaaStepOne
set_option linter.unusedVariables false
set_option linter.unusedSimpArgs false
namespace Go.Proofs.Ytdooabbeolfgfaa
open Go.RowKit
theorem bytes_eq (l : List UInt8) (a f : Nat) (most : Int) (ha : a ≤ l.length) :
    rdV (numR l (rdV (cntL l a most) (shV l a) 0 a f).2.1 ((rdV (cntL l a most) (shV l a) 0 a f).1 : Int)) (atR l (rdV (cntL l a most) (shV l a) 0 a f).2.1 (rdV (cntL l a most) (shV l a) 0 a f).1) [] (rdV (cntL l a most) (shV l a) 0 a f).2.1 (rdV (cntL l a most) (shV l a) 0 a f).2.2 = rdV (bytR l a most) (bytV l a most) [] a f := by
  by_cases hf : f = 0
  · subst hf
    cases hc : cntR (rdS (l.drop a) 0 0) most with
    | error n =>
      have e1 : cntL l a most = .error n := by unfold cntL; rw [hc]
      have e2 : bytR l a most = .error n := by unfold bytR; rw [hc]
      have hn : n ≠ 0 := fun e => cntR_ne _ _ (by rw [hc, e])
      rw [rdV_err e1, rdV_err e2]
      exact rdV_stuck hn
    | ok xk =>
      obtain ⟨x, k⟩ := xk
      obtain ⟨hs, hx⟩ := cntR_inv hc
      have e3 : shV l a = x := by unfold shV; rw [hs]
      by_cases hle : a + k + x ≤ l.length
      · have e1 : cntL l a most = .ok k := by unfold cntL; rw [hc]; simp [hle]
        have e2 : bytR l a most = .ok (k + x) := by unfold bytR; rw [hc]; simp [hle]
        have e4 : bytV l a most = atR l (a + k) x := by unfold bytV; rw [hc]; rfl
        rw [rdV_ok e1, rdV_ok e2, e3, e4, rdV_ok (numR_yes hle), Nat.add_assoc]
      · have e1 : cntL l a most = .error 90 := by unfold cntL; rw [hc]; simp [hle]
        have e2 : bytR l a most = .error 90 := by unfold bytR; rw [hc]; simp [hle]
        rw [rdV_err e1, rdV_err e2]
        exact rdV_stuck (f := 90) (by decide)
  · rw [rdV_stuck (r := cntL l a most) hf, rdV_stuck (r := bytR l a most) hf]
    exact rdV_stuck hf
theorem in_Bytes (w : World) {q B : Nat} {l : List UInt8} {a f : Nat} (h : RIn w q B l a f) (most : Int) (hm : most ≤ 9223372036854775807) :
    Calls Try.prog 111 #[.pointer (some ⟨q, 0, none⟩), .int .i64 most] w (InB w q B l (rdV (bytR l a most) (bytV l a most) [] a f)) := by
  have hC := in_Count w h most hm
  have hE := bytes_eq l a f most h.le
  have hb := rdV_cnt l a f most
  have hmx := h.max
  obtain ⟨R, hR⟩ : ∃ R, R = rdV (cntL l a most) (shV l a) 0 a f := ⟨_, rfl⟩
  rw [← hR] at hC hE hb
  rw [← hE]
  obtain ⟨x, a1, f1⟩ := R
  simp only at hb hE ⊢
  have HC := Lib.hid hC
  clear hC hE hR h
  go_enter Try.func111, Try.ntmps111
  go_wp2_with (first | (at_builtin; refine Stopped.out ?_) | (at_make; refine Stopped.out ?_))
  refine HC.out.mono ?_
  rintro e w1 ⟨rfl, hr, hk⟩
  have hF := in_Fixed w1 hr (x : Int) (by omega)
  rw [show ((x : Int)).toNat = x by omega] at hF
  have HF := Lib.hid (And.intro hF hk)
  clear hF hr hk
  go_wp2_with (first | (at_builtin; refine Stopped.out ?_) | (at_make; refine Stopped.out ?_))
  refine HF.out.1.mono ?_
  rintro e w2 ⟨v, rfl, o, hr, hk⟩
  have HN := Lib.hid (And.intro (own_mono o HF.out.2.size) (And.intro hr (HF.out.2.trans hk)))
  clear o hr hk
  go_wp2
  go_ret
  exact ⟨v, rfl, HN.out⟩
set_option maxRecDepth 100000 in
set_option maxHeartbeats 3200000 in
theorem in_list (w : World) {q B : Nat} {l : List UInt8} {a f : Nat} (h : RIn w q B l a f) (most : Int) (hm : most ≤ 9223372036854775807) (hl : l.length ≤ 100000000) :
    Calls Try.prog 112 #[.pointer (some ⟨q, 0, none⟩), .int .i64 most] w fun e w' => ∃ v, e = .returned v ∧
      w'.ownsRow w.heap.size 23 1 v (stepR l a f 8 0 most).1.ns.length ((stepR l a f 8 0 most).1.ns.map by64) ∧ RIn w' q B l (stepR l a f 8 0 most).2.1 (stepR l a f 8 0 most).2.2 ∧ Keep [q] w w' := by
  have hql := h.lt
  obtain ⟨S, hS⟩ : ∃ S, S = stepR l a f 8 0 most := ⟨_, rfl⟩
  have HS : Hid (S = (let r := rdV (cntL l a most) (shV l a) 0 a f; let q := listR l r.1 r.2.1 r.2.2 []; (⟨0, [], q.1, 0⟩, q.2.1, q.2.2))) := Lib.hid (by rw [hS]; simp [stepR])
  rw [← hS]
  have HC := Lib.hid (in_Count w h most hm)
  have hcn := rdV_cnt l a f most
  obtain ⟨R, hR⟩ : ∃ R, R = rdV (cntL l a most) (shV l a) 0 a f := ⟨_, rfl⟩
  rw [← hR] at HC HS hcn
  obtain ⟨cn, a1, f1⟩ := R
  simp only at HC HS hcn
  have hcn2 : cn ≤ 100000000 := by omega
  clear hS hR h hcn
  go_enter Try.func112, Try.ntmps112
  go_wp2_with (first | (at_builtin; refine Stopped.out ?_) | (at_make; refine Stopped.out ?_))
  refine HC.out.mono ?_
  rintro e w3 ⟨rfl, hr3, hkw⟩
  have HR3 := Lib.hid (And.intro hr3 hkw)
  clear hr3 hkw HC
  go_wp2
  go_loopw [6, 7] (fun vo kk wr => ∃ (k a' f' : Nat) (acc : List UInt64), k ≤ cn ∧ kk = .int .i64 k ∧ acc.length = k ∧ wr.ownsRow w.heap.size 23 1 vo k (acc.map by64) ∧ RIn wr q B l a' f' ∧ Keep [q] w wr ∧ Hid (listR l cn a1 f1 [] = listR l (cn - k) a' f' acc)) (fun _ kk _ => cn - (intOf kk).toNat)
  case atStart => exact ⟨0, a1, f1, [], Nat.zero_le _, rfl, rfl, World.ownsRow_nil .., HR3.out.1, HR3.out.2, Lib.hid rfl⟩
  case round =>
    obtain ⟨k, a', f', acc, hk, rfl, hac, ho, hr, hkw, he⟩ := hrel
    by_cases hlt : k < cn
    · have k0 : (0 : Int) ≤ (k : Int) := Int.natCast_nonneg _
      have k1 : (k : Int) < (cn : Int) := by omega
      have HU := Lib.hid (in_Uint _ hr)
      obtain ⟨R, hR⟩ : ∃ R, R = rdV (shR l a') (shV l a') 0 a' f' := ⟨_, rfl⟩
      have hxl : R.1 < 18446744073709551616 := by
        have := rdV_sh l a' f'
        rw [← hR] at this
        exact this
      rw [← hR] at HU
      obtain ⟨x, a2, f2⟩ := R
      simp only at hxl
      have HR := Lib.hid hR
      have HO := Lib.hid (And.intro ho (And.intro hkw hac))
      clear hR ho hkw hr hac
      go_wp2_with (first | (at_builtin; refine Stopped.out ?_) | (at_make; refine Stopped.out ?_))
      refine HU.out.mono ?_
      rintro e w4 ⟨rfl, hr4, hk4⟩
      simp only at hr4
      obtain ⟨A, c, g0, g1, g2, _⟩ := hr4.cells
      have ho4 := hk4.own HO.out.1 (fun j hj hx => by have := (HO.out.1.lt j hj).1; simp at hx; omega)
      have H4 := Lib.hid (And.intro hr4 (And.intro (HO.out.2.1.trans hk4) (And.intro ho4 HO.out.2.2)))
      clear hr4 hk4 ho4 HO g0 g1 HU
      by_cases hf : f2 = 0
      · have i1 : ((f2 : Int) != 0) = false := by simp; omega
        have HE : Hid (listR l cn a1 f1 [] = listR l (cn - (k + 1)) a2 0 (acc ++ [UInt64.ofNat x])) := Lib.hid (by
          have h1 := he.out
          rw [show cn - k = (cn - (k + 1)) + 1 by omega, listR_go (by rw [← HR.out, hf])] at h1
          exact h1)
        have HF := Lib.hid hf
        clear hf
        go_wp2_with (first | (at_builtin; refine Stopped.out ?_) | (at_make; refine Stopped.out ?_))
        refine Stopped.mk (ap_own E64 rfl (.tmp 24) (.tmp 26) rfl rfl (own_below H4.out.2.2.1 ((Below.refl _ _).alloc (Nat.le_refl _) _)) rfl (Sl.fresh w4 [.int .u64 (x : Int)] 23 1 1 rfl (by decide)) (by simp [Value.oneCell']) (by simp only [maxLen]; omega) (by omega) (by have := H4.out.2.1.size; simp; omega) ?_)
        intro v5 w5 o5 hg5 _
        have hg5' : (w4.alloc (.cells #[.int .u64 (x : Int)] 23)).grownBy w5 u6.ownBlock := hg5
        have hlo : ∀ j, u6.ownBlock = some j → w.heap.size ≤ j ∧ j < w4.heap.size := fun j hj => H4.out.2.2.1.lt j hj
        have hb4 : Below w4.heap.size w4 (w4.alloc (.cells #[.int .u64 (x : Int)] 23)) := (Below.refl _ _).alloc (Nat.le_refl _) _
        have k5 : Keep u6.ownBlock.toList w4 w5 := (Keep.of_below hb4 _).trans ((Keep.refl _ _).grown hg5' (fun j e => .inl (by simp [e])))
        have hBq := H4.out.1.low
        have r5 := H4.out.1.keep k5 (fun y hy => by have := hlo y (by simpa using hy); omega)
        have k5w : Keep [q] w w5 := H4.out.2.1.trans' k5 (fun y hy => .inr (by have := hlo y (by simpa using hy); omega))
        have hx8 : (.int .u64 (x : Int) : Value) = by64 (UInt64.ofNat x) := by unfold by64; rw [UInt64.toNat_ofNat', Nat.mod_eq_of_lt hxl]
        have o5' : w5.ownsRow w.heap.size 23 1 v5 (k + 1) ((acc ++ [UInt64.ofNat x]).map by64) := by rw [List.map_append, List.map_cons, List.map_nil, ← hx8]; exact o5
        have HAC : Hid ((acc ++ [UInt64.ofNat x]).length = k + 1) := Lib.hid (by simp [H4.out.2.2.2])
        have H5 := Lib.hid (And.intro o5' (And.intro r5 k5w))
        clear o5 o5' hx8 hg5 hg5' hlo hb4 k5 r5 k5w H4 hBq
        go_wp2
        first | go_roundw | refine ⟨?rel, ?measure⟩
        case rel => exact ⟨k + 1, a2, 0, acc ++ [UInt64.ofNat x], by omega, by go_num, HAC.out, H5.out.1, by have := H5.out.2.1; rwa [HF.out] at this, H5.out.2.2, HE.out⟩
        case measure => simp [intOf]; omega
      · have i1 : ((f2 : Int) != 0) = true := by simp; omega
        have HE : Hid (listR l cn a1 f1 [] = ([], a2, f2)) := Lib.hid (by
          have h1 := he.out
          rw [show cn - k = (cn - (k + 1)) + 1 by omega, listR_halt HR.out.symm hf] at h1
          exact h1)
        clear hf
        go_wp2
        go_ret
        rw [HS.out, HE.out]
        exact ⟨_, rfl, World.ownsRow_nil .., H4.out.1, H4.out.2.1⟩
    · have HK := Lib.hid (show k = cn by omega)
      have k1 : decide ((k : Int) < (cn : Int)) = false := decide_eq_false (by omega)
      have HE : Hid (listR l cn a1 f1 [] = (acc, a', f')) := Lib.hid (by
        have h1 := he.out
        rw [show cn - k = 0 by omega] at h1
        exact h1)
      have HO := Lib.hid (And.intro ho (And.intro hr (And.intro hkw hac)))
      clear ho hr hkw hac
      go_wp2
      go_ret
      rw [HS.out, HE.out]
      exact ⟨_, rfl, by rw [HO.out.2.2.2]; exact HO.out.1, HO.out.2.1, HO.out.2.2.1⟩
end Go.Proofs.Ytdooabbeolfgfaa
