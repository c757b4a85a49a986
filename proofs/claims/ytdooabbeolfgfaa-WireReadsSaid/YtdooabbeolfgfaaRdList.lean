import Derived.Test.YtdooabbeolfgfaaRd6
import Derived.Test.YtdooabbeolfgfaaNums
import Derived.Test.YtdooabbeolfgfaaWrite9
set_option linter.unusedVariables false
set_option linter.unusedSimpArgs false
namespace Go.Proofs.Ytdooabbeolfgfaa
open Go.RowKit
/-! ### lists -/
set_option maxRecDepth 100000 in
set_option maxHeartbeats 1600000 in
theorem list1 (w : World) {p : Nat} {G : List Nat} {l : List UInt8} {a f : Nat} (h : Rd w p G l a f) (b2 b3 : Nat) (most : Int) (hm : most ≤ 9223372036854775807) (c2 : w.cell? ⟨b2, 0, none⟩ = some (.pointer (some ⟨p, 0, none⟩))) (c3 : w.cell? ⟨b3, 0, none⟩ = some (.int .i64 most)) (n2 : b2 ≠ p) (n3 : b3 ≠ p) :
    Calls Try.prog 153 #[.pointer (some ⟨b2, 0, none⟩), .pointer (some ⟨b3, 0, none⟩)] w (EndQ w p G l a f (cntL l a most) (fun v _ => v = .int .i64 (shV l a : Int))) := by
  have HC := Lib.hid (count_any _ h most hm)
  cases hc : cntR (rdS (l.drop a) 0 0) most with
  | error n =>
    have HF : Hid (cntL l a most = .error n) := Lib.hid (by rw [cntL, hc])
    rw [hc] at HC
    clear hc h
    go_enter Try.func153, Try.ntmps153
    go_wp2_with (first | (at_builtin; refine Stopped.out ?_) | (at_make; refine Stopped.out ?_))
    refine HC.out.mono ?_
    rintro e w1 ⟨hk, rfl, hb⟩
    dsimp only [gave]
    refine ⟨rfl, hk, ?_⟩
    rw [HF.out]
    exact ⟨rfl, hb⟩
  | ok xk =>
    obtain ⟨x, k⟩ := xk
    rw [hc] at HC
    have hs := hc
    unfold cntR at hs
    have HV : Hid (shV l a = x) := Lib.hid (by
      unfold shV
      cases hr : rdS (l.drop a) 0 0 with
      | none => rw [hr] at hs; cases hs
      | some q =>
        obtain ⟨y, k2⟩ := q
        rw [hr] at hs
        simp only at hs
        split at hs
        · cases hs
        · injection hs with hs; injection hs)
    by_cases hle : a + k + x ≤ l.length
    · have HF : Hid (cntL l a most = .ok k) := Lib.hid (by rw [cntL, hc]; simp [hle])
      clear hc h hs
      go_enter Try.func153, Try.ntmps153
      go_wp2_with (first | (at_builtin; refine Stopped.out ?_) | (at_make; refine Stopped.out ?_))
      refine HC.out.mono ?_
      rintro e w1 ⟨hk, rfl, hb⟩
      have j2 := hk.cell c2 (by simpa using n2)
      have j3 := hk.cell c3 (by simpa using n3)
      have HL := Lib.hid (Rd_Left w1 hb)
      have HX := Lib.hid (And.intro hk hb)
      have hle2 := hb.le
      have i1 : (x : Int) ≤ ((l.length - (a + k) : Nat) : Int) := by omega
      obtain ⟨lf, hlf⟩ : ∃ lf, lf = l.length - (a + k) := ⟨_, rfl⟩
      rw [← hlf] at HL i1
      clear hk hb hlf hle
      go_wp2_with (first | (at_builtin; refine Stopped.out ?_) | (at_make; refine Stopped.out ?_))
      refine HL.out.mono ?_
      rintro e w2 ⟨rfl, hd⟩
      have HN := Lib.hid hd
      clear hd
      go_wp2
      go_ret
      refine ⟨HX.out.1.trans (HN.out.keep [p]), ?_⟩
      rw [HF.out, HV.out]
      exact ⟨_, rfl, HX.out.2.below HN.out.below, rfl⟩
    · have HF : Hid (cntL l a most = .error 90) := Lib.hid (by rw [cntL, hc]; simp [hle])
      clear hc h hs
      go_enter Try.func153, Try.ntmps153
      go_wp2_with (first | (at_builtin; refine Stopped.out ?_) | (at_make; refine Stopped.out ?_))
      refine HC.out.mono ?_
      rintro e w1 ⟨hk, rfl, hb⟩
      have j2 := hk.cell c2 (by simpa using n2)
      have j3 := hk.cell c3 (by simpa using n3)
      have HL := Lib.hid (Rd_Left w1 hb)
      have HX := Lib.hid (And.intro hk hb)
      have hle2 := hb.le
      have i1 : (((l.length - (a + k) : Nat) : Int) < (x : Int)) := by omega
      obtain ⟨lf, hlf⟩ : ∃ lf, lf = l.length - (a + k) := ⟨_, rfl⟩
      rw [← hlf] at HL i1
      clear hk hb hlf hle
      go_wp2_with (first | (at_builtin; refine Stopped.out ?_) | (at_make; refine Stopped.out ?_))
      refine HL.out.mono ?_
      rintro e w2 ⟨rfl, hd⟩
      have HN := Lib.hid hd
      clear hd
      go_wp2
      refine ⟨rfl, HX.out.1.trans (HN.out.keep [p]), ?_⟩
      rw [HF.out]
      exact ⟨rfl, _, HX.out.2.below HN.out.below⟩
theorem enter_list1 (args : Array Value) (w : World) : (callFunc 153 args).run Try.prog w = .ok (.enter 153 args) w := by
  simp [go_sem]
theorem enter_read1 (args : Array Value) (w : World) : (callFunc 104 args).run Try.prog w = .ok (.enter 104 args) w := by
  simp [go_sem]
/-- what a caught read of a number leaves -/
theorem CaughtQ.num {w w' : World} {p : Nat} {G : List Nat} {l : List UInt8} {a f : Nat} {r : Except Nat Nat} {x : Nat} {K : Nat → Value} {e : Ending} (h : CaughtQ w p G l a f r (K 0) (fun v _ => v = K x) e w') :
    e = .returned (K (rdV r x 0 a f).1) ∧ Rd w' p G l (rdV r x 0 a f).2.1 (rdV r x 0 a f).2.2 ∧ Keep [p] w w' := by
  obtain ⟨hk, h⟩ := h
  unfold rdV
  cases hr : effR r f with
  | ok k => rw [hr] at h; obtain ⟨v, rfl, h2, rfl⟩ := h; exact ⟨rfl, h2, hk⟩
  | error n => rw [hr] at h; exact ⟨h.1, h.2, hk⟩
theorem CaughtQ.new {w w' : World} {p : Nat} {G : List Nat} {l : List UInt8} {a f : Nat} {r : Except Nat Nat} {x : List UInt8} {e : Ending} (h : CaughtQ w p G l a f r (.slice none 0 0) (NewB w.heap.size x) e w') :
    ∃ v, e = .returned v ∧ NewB w.heap.size (rdV r x [] a f).1 v w' ∧ Rd w' p G l (rdV r x [] a f).2.1 (rdV r x [] a f).2.2 ∧ Keep [p] w w' := by
  obtain ⟨hk, h⟩ := h
  unfold rdV
  cases hr : effR r f with
  | ok k => rw [hr] at h; obtain ⟨v, rfl, h2, h3⟩ := h; exact ⟨v, rfl, h3, h2, hk⟩
  | error n => rw [hr] at h; exact ⟨_, h.1, World.ownsRow_nil .., h.2, hk⟩
theorem read1 (w : World) {p : Nat} {G : List Nat} {l : List UInt8} {a f : Nat} (h : Rd w p G l a f) :
    Calls Try.prog 104 #[.pointer (some ⟨p, 0, none⟩)] w fun e w' => e = .returned (.int .u64 ((rdV (shR l a) (shV l a) 0 a f).1 : Nat)) ∧ Rd w' p G l (rdV (shR l a) (shV l a) 0 a f).2.1 (rdV (shR l a) (shV l a) 0 a f).2.2 ∧ Keep [p] w w' := by
  have HU := Lib.hid ((Rd_Uint w h).mono (fun e w' hq => CaughtQ.num (K := fun x => .int .u64 (x : Int)) hq))
  obtain ⟨R, hR⟩ : ∃ R, R = rdV (shR l a) (shV l a) 0 a f := ⟨_, rfl⟩
  rw [← hR] at HU ⊢
  clear hR
  go_enter Try.func104, Try.ntmps104
  go_wp2_with (first | (at_builtin; refine Stopped.out ?_) | (at_make; refine Stopped.out ?_))
  refine HU.out.mono ?_
  rintro e w1 ⟨rfl, h1, h2⟩
  have HX := Lib.hid (And.intro h1 h2)
  clear h1 h2
  go_wp2
  go_ret
  exact ⟨rfl, HX.out⟩
theorem shV_lt (l : List UInt8) (a : Nat) : shV l a < 18446744073709551616 := by
  unfold shV
  cases h : rdS (l.drop a) 0 0 with
  | none => simp
  | some q => obtain ⟨x, k⟩ := q; exact (rdS_form h).2.2.2.2.1
theorem rdV_cnt (l : List UInt8) (a f : Nat) (most : Int) : (rdV (cntL l a most) (shV l a) 0 a f).1 ≤ l.length := by
  unfold rdV effR
  split
  · rename_i k h
    split at h
    · cases h
    · unfold cntL at h
      split at h
      · cases h
      · rename_i x k2 hc
        split at h
        · unfold cntR at hc
          simp only
          unfold shV
          split at hc
          · cases hc
          · rename_i y k3 hr
            rw [hr]
            split at hc
            · cases hc
            · injection hc with hc; injection hc with hc _
              subst hc
              simp only
              omega
        · cases h
  · simp
theorem rdV_sh (l : List UInt8) (a f : Nat) : (rdV (shR l a) (shV l a) 0 a f).1 < 18446744073709551616 := by
  unfold rdV
  split
  · exact shV_lt l a
  · simp
theorem listR_go {l : List UInt8} {n a f : Nat} {acc : List UInt64} {x a' : Nat} (h : rdV (shR l a) (shV l a) 0 a f = (x, a', 0)) : listR l (n + 1) a f acc = listR l n a' 0 (acc ++ [UInt64.ofNat x]) := by
  rw [listR, h]
  rfl
theorem listR_halt {l : List UInt8} {n a f : Nat} {acc : List UInt64} {x a' f' : Nat} (h : rdV (shR l a) (shV l a) 0 a f = (x, a', f')) (hf : f' ≠ 0) : listR l (n + 1) a f acc = ([], a', f') := by
  rw [listR, h]
  simp [hf]
set_option maxRecDepth 100000 in
set_option maxHeartbeats 3200000 in
theorem GetList_any (w : World) {p : Nat} {G : List Nat} {l : List UInt8} {a f : Nat} (h : Rd w p G l a f) (most : Int) (hm : most ≤ 9223372036854775807) (hl : l.length ≤ 100000000) :
    Calls Try.prog 103 #[.pointer (some ⟨p, 0, none⟩), .int .i64 most, .func (.func 104) #[] #[]] w fun e w' => ∃ v, e = .returned v ∧
      w'.ownsRow w.heap.size 23 1 v (stepR l a f 8 0 most).1.ns.length ((stepR l a f 8 0 most).1.ns.map by64) ∧ Rd w' p G l (stepR l a f 8 0 most).2.1 (stepR l a f 8 0 most).2.2 ∧ Keep [p] w w' := by
  have hmf : ∀ (fn : Fn) (first cap : Array Value) (w : World), (Instr.makeFunc fn first cap).run Try.prog w = .ok (.func fn first cap) w := fun _ _ _ _ => rfl
  have hp := h.lts p h.mem
  have HG := Lib.hid h.lts
  have b0 := box_cell (heap_alloc_new w (.cells #[.pointer (some ⟨p, 0, none⟩)] 78)) 0 _ rfl
  have b0' := cell_al b0 (.cells #[.int .i64 most] 3)
  have b1 : ((w.alloc (.cells #[.pointer (some ⟨p, 0, none⟩)] 78)).alloc (.cells #[.int .i64 most] 3)).cell? ⟨w.heap.size + 1, 0, none⟩ = some (.int .i64 most) := by
    have := box_cell (heap_alloc_new (w.alloc (.cells #[.pointer (some ⟨p, 0, none⟩)] 78)) (.cells #[.int .i64 most] 3)) 0 _ rfl
    rwa [show (w.alloc (.cells #[.pointer (some ⟨p, 0, none⟩)] 78)).heap.size = w.heap.size + 1 by simp] at this
  have h2 := (h.below ((Below.refl _ _).alloc (Nat.le_refl _) (.cells #[.pointer (some ⟨p, 0, none⟩)] 78))).below ((Below.refl _ _).alloc (Nat.le_refl _) (.cells #[.int .i64 most] 3))
  have hB2 : Below w.heap.size w ((w.alloc (.cells #[.pointer (some ⟨p, 0, none⟩)] 78)).alloc (.cells #[.int .i64 most] 3)) := ((Below.refl _ w).alloc (Nat.le_refl _) _).alloc (by simp) _
  have HX := Lib.hid (And.intro (And.intro b0' b1) (And.intro h2 hB2))
  obtain ⟨S, hS⟩ : ∃ S, S = stepR l a f 8 0 most := ⟨_, rfl⟩
  have HS : Hid (S = (let r := rdV (cntL l a most) (shV l a) 0 a f; let q := listR l r.1 r.2.1 r.2.2 []; (⟨0, [], q.1, 0⟩, q.2.1, q.2.2))) := Lib.hid (by rw [hS]; simp [stepR])
  rw [← hS]
  clear b0' b1 h2 hB2 h hS
  go_enter Try.func103, Try.ntmps103
  go_wp2_with (first | (at_builtin; refine Stopped.out ?_) | (at_make; refine Stopped.out ?_))
  have hr := HX.out.2.1
  refine (caught_any_int _ hr 153 #[] #[.pointer (some ⟨w.heap.size, 0, none⟩), .pointer (some ⟨w.heap.size + 1, 0, none⟩)] (cntL l a most) (fun v _ => v = .int .i64 (shV l a : Int)) (fun v w' w'' hv k => hv) (enter_list1 _) (fun hf w' k => ?_)).mono ?_
  · subst hf
    exact list1 w' (hr.below k) w.heap.size (w.heap.size + 1) most hm (cell_below HX.out.1.1 k) (cell_below HX.out.1.2 k) (by omega) (by omega)
  · rintro e w3 hq
    obtain ⟨rfl, hr3, hk3⟩ := CaughtQ.num (K := fun x => .int .i64 (x : Int)) hq
    have j0 := hk3.cell HX.out.1.1 (by simp; omega)
    have hkw : Keep [p] w w3 := (Keep.of_below HX.out.2.2 [p]).trans hk3
    have hz3 : w.heap.size + 2 ≤ w3.heap.size := by have := hk3.size; simpa using this
    obtain ⟨⟨cn, a1, f1⟩, hR⟩ : ∃ R, R = rdV (cntL l a most) (shV l a) 0 a f := ⟨_, rfl⟩
    have hcn : cn ≤ 100000000 := by
      have := rdV_cnt l a f most
      rw [← hR] at this
      simp only at this
      omega
    rw [← hR] at HS hr3 ⊢
    simp only at HS hr3 ⊢
    have HR3 := Lib.hid (And.intro hr3 hkw)
    clear hq hk3 hkw hR hr3 hr HX b0
    replace j0 : w3.cell? ⟨w.heap.size, 0, none⟩ = some (.pointer (some ⟨p, 0, none⟩)) := j0
    go_wp2
    go_loopw [8, 14] (fun vo kk wr => ∃ (k a' f' : Nat) (acc : List UInt64), k ≤ cn ∧ kk = .int .i64 k ∧ acc.length = k ∧ wr.ownsRow (w.heap.size + 2) 23 1 vo k (acc.map by64) ∧ Rd wr p G l a' f' ∧ Keep [p] w wr ∧ w.heap.size + 2 ≤ wr.heap.size ∧ wr.cell? ⟨w.heap.size, 0, none⟩ = some (.pointer (some ⟨p, 0, none⟩)) ∧ Hid (listR l cn a1 f1 [] = listR l (cn - k) a' f' acc)) (fun _ kk _ => cn - (intOf kk).toNat)
    case atStart => exact ⟨0, a1, f1, [], Nat.zero_le _, rfl, rfl, World.ownsRow_nil .., HR3.out.1, HR3.out.2, hz3, j0, Lib.hid rfl⟩
    case round =>
      obtain ⟨k, a', f', acc, hk, rfl, hac, ho, hr, hkw, hzr, j1, he⟩ := hrel
      by_cases hlt : k < cn
      · have k0 : (0 : Int) ≤ (k : Int) := Int.natCast_nonneg _
        have k1 : (k : Int) < (cn : Int) := by omega
        have HU := Lib.hid (read1 _ hr)
        obtain ⟨⟨x, a2, f2⟩, hR⟩ : ∃ R, R = rdV (shR l a') (shV l a') 0 a' f' := ⟨_, rfl⟩
        have hxl : x < 18446744073709551616 := by
          have := rdV_sh l a' f'
          rw [← hR] at this
          exact this
        rw [← hR] at HU
        simp only at HU
        have HR := Lib.hid hR
        have HO := Lib.hid (And.intro ho (And.intro hkw hac))
        clear hR ho hkw hr hac
        go_wp2_with (first | (at_builtin; refine Stopped.out ?_) | (at_make; refine Stopped.out ?_))
        refine HU.out.mono ?_
        rintro e w4 ⟨rfl, hr4, hk4⟩
        have j4 := hk4.cell j1 (by simp; omega)
        obtain ⟨A, c, g0, g1, g2, _⟩ := hr4.cells
        have ho4 := hk4.own HO.out.1 (fun j hj hx => by have := (HO.out.1.lt j hj).1; simp at hx; omega)
        have hz4 := Nat.le_trans hzr hk4.size
        have H4 := Lib.hid (And.intro hr4 (And.intro (HO.out.2.1.trans hk4) (And.intro ho4 HO.out.2.2)))
        clear hr4 hk4 ho4 HO g0 g1 HU
        by_cases hf : f2 = 0
        · have i1 : ((f2 : Int) != 0) = false := by simp; omega
          have HE : Hid (listR l cn a1 f1 [] = listR l (cn - (k + 1)) a2 0 (acc ++ [UInt64.ofNat x])) := Lib.hid (by
            have h1 := he.out
            rw [show cn - k = (cn - (k + 1)) + 1 by omega, listR_go (by rw [← HR.out, hf])] at h1
            exact h1)
          have HF := Lib.hid hf
          clear hf
          go_wp2_with (first | (at_builtin; refine Stopped.out ?_) | (at_make; refine Stopped.out ?_))
          refine Stopped.mk (ap_own E64 rfl (.tmp 24) (.tmp 26) rfl rfl (own_below H4.out.2.2.1 ((Below.refl _ _).alloc (Nat.le_refl _) _)) rfl (Sl.fresh w4 [.int .u64 (x : Int)] 23 1 1 rfl (by decide)) (by simp [Value.oneCell']) (by simp only [maxLen]; omega) (by omega) (by have := H4.out.2.1.size; simp; omega) ?_)
          intro v5 w5 o5 hg5 _
          have hg5' : (w4.alloc (.cells #[.int .u64 (x : Int)] 23)).grownBy w5 u8.ownBlock := hg5
          have hlo : ∀ j, u8.ownBlock = some j → w.heap.size + 2 ≤ j ∧ j < w4.heap.size := fun j hj => H4.out.2.2.1.lt j hj
          have hGlt := H4.out.1.lts
          have hb4 : Below w4.heap.size w4 (w4.alloc (.cells #[.int .u64 (x : Int)] 23)) := (Below.refl _ _).alloc (Nat.le_refl _) _
          have k5 : Keep u8.ownBlock.toList w4 w5 := (Keep.of_below hb4 _).trans ((Keep.refl _ _).grown hg5' (fun j e => .inl (by simp [e])))
          have j5 := k5.cell j4 (fun hx => by have := hlo w.heap.size (by simpa using hx); omega)
          have hGn : ∀ y ∈ G, y ∉ u8.ownBlock.toList := fun y hy hx => by
            have h1 := HG.out y hy
            have h2 := hlo y (by simpa using hx)
            omega
          have r5 := H4.out.1.keep k5 hGn
          have k5w : Keep [p] w w5 := H4.out.2.1.trans' k5 (fun y hy => .inr (by have := hlo y (by simpa using hy); omega))
          have hx8 : (.int .u64 (x : Int) : Value) = by64 (UInt64.ofNat x) := by unfold by64; rw [UInt64.toNat_ofNat', Nat.mod_eq_of_lt hxl]
          have o5 : w5.ownsRow (w.heap.size + 2) 23 1 v5 (k + 1) ((acc ++ [UInt64.ofNat x]).map by64) := by rw [List.map_append, List.map_cons, List.map_nil, ← hx8]; exact o5
          have HAC : Hid ((acc ++ [UInt64.ofNat x]).length = k + 1) := Lib.hid (by simp [H4.out.2.2.2])
          clear hx8
          have H5 := Lib.hid (And.intro o5 (And.intro r5 (And.intro k5w (And.intro (Nat.le_trans hz4 k5.size) j5))))
          clear o5 hg5 hg5' hlo hGlt hb4 k5 hGn r5 k5w H4 j4 j5 j1
          go_wp2
          first | go_roundw | refine ⟨?rel, ?measure⟩
          case rel => exact ⟨k + 1, a2, 0, acc ++ [UInt64.ofNat x], by omega, by go_num, HAC.out, H5.out.1, by have := H5.out.2.1; rwa [HF.out] at this, H5.out.2.2.1, H5.out.2.2.2.1, H5.out.2.2.2.2, HE.out⟩
          case measure => simp [intOf]; omega
        · have i1 : ((f2 : Int) != 0) = true := by simp; omega
          have HE : Hid (listR l cn a1 f1 [] = ([], a2, f2)) := Lib.hid (by
            have h1 := he.out
            rw [show cn - k = (cn - (k + 1)) + 1 by omega, listR_halt HR.out.symm hf] at h1
            exact h1)
          clear hf
          go_wp2
          go_ret
          rw [HS.out, HE.out]
          exact ⟨_, rfl, World.ownsRow_nil .., H4.out.1, H4.out.2.1⟩
      · have HK := Lib.hid (show k = cn by omega)
        have k1 : decide ((k : Int) < (cn : Int)) = false := decide_eq_false (by omega)
        have HE : Hid (listR l cn a1 f1 [] = (acc, a', f')) := Lib.hid (by
          have h1 := he.out
          rw [show cn - k = 0 by omega] at h1
          exact h1)
        have HO := Lib.hid (And.intro ho (And.intro hr (And.intro hkw hac)))
        clear ho hr hkw hac j1
        go_wp2
        go_ret
        rw [HS.out, HE.out]
        exact ⟨_, rfl, by have := own_mono HO.out.1 (Nat.le_add_right _ 2); rw [HO.out.2.2.2]; exact this, HO.out.2.1, HO.out.2.2.1⟩
end Go.Proofs.Ytdooabbeolfgfaa
