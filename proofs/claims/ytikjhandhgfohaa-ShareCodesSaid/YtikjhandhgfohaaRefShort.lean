import Derived.Test.YtikjhandhgfohaaShort2
import Derived.Test.YtikjhandhgfohaaRefOut
import Derived.Test.YtikjhandhgfohaaStepR
set_option linter.unusedVariables false
set_option linter.unusedSimpArgs false
namespace Go.Proofs.Ytikjhandhgfohaa
open Go.RowKit
/-! ### the document's short form -/
theorem meantN_cons (l : List UInt8) (a n j : Nat) (h : a + j < l.length) (hj : j < n) : meantN ((l.drop (a + j)).take (n - j)) = bt l (a + j) % 128 + 128 * meantN ((l.drop (a + (j + 1))).take (n - (j + 1))) := by
  rw [List.drop_eq_getElem_cons h, show n - j = (n - (j + 1)) + 1 by omega, List.take_succ_cons, meantN, bt_eq l (a + j) h]
  rfl
set_option maxRecDepth 100000 in
set_option maxHeartbeats 800000 in
theorem refMeant (w : World) {A : Option Addr} {m c : Nat} {l : List UInt8} (h : Sl w 1 A m c (l.map by8)) (a n : Nat) (hn : a + n ≤ m) (hm : m ≤ 140737488351232) :
    Calls Try.prog 62 #[.slice A m c, .int .i64 a, .int .i64 n] w fun e w' => e = .returned (.int .u64 ((meantN ((l.drop a).take n) % 18446744073709551616 : Nat) : Int)) ∧ w = w' := by
  have hl : l.length = m := by simpa using h.len
  have hc := h.le; have hcm := h.max
  have HL := Lib.hid hl
  clear hl
  go_enter Try.func62, Try.ntmps62
  go_wp2
  go_loopw [7, 8] (fun xx ii wr => ∃ j : Nat, j ≤ n ∧ ii = .int .i64 ((j : Int) - 1) ∧ xx = .int .u64 ((meantN ((l.drop (a + j)).take (n - j)) % 18446744073709551616 : Nat) : Int) ∧ w = wr) (fun _ ii _ => (intOf ii + 1).toNat)
  case atStart => exact ⟨n, Nat.le_refl _, rfl, by simp [meantN], rfl⟩
  case round =>
    obtain ⟨j, hj, rfl, rfl, rfl⟩ := hrel
    cases j with
    | zero =>
      have HV : Hid (meantN ((l.drop (a + 0)).take (n - 0)) % 18446744073709551616 = meantN ((l.drop a).take n) % 18446744073709551616) := Lib.hid rfl
      go_wp2
      go_ret
      exact ⟨by first | rfl | (rw [HV.out]), rfl⟩
    | succ j =>
      obtain ⟨b, off, rfl⟩ := h.form (by omega)
      have g0 := h.byte (a + j) (by omega)
      have HM := Lib.hid (meantN_cons l a n j (by rw [HL.out]; omega) (by omega))
      obtain ⟨y, hy⟩ : ∃ y, y = bt l (a + j) := ⟨_, rfl⟩
      obtain ⟨z, hz⟩ : ∃ z, z = meantN ((l.drop (a + (j + 1))).take (n - (j + 1))) := ⟨_, rfl⟩
      rw [← hy] at g0 HM
      rw [← hz] at HM ⊢
      have hyl : y < 256 := by rw [hy]; exact bt_lt _ _
      clear hy hz
      have HZ : Hid ((IntKind.u64.wrap (IntKind.u64.wrap ((z : Int) % 18446744073709551616 * 128) + (y : Int) % 128)) = ((meantN ((l.drop (a + j)).take (n - j)) % 18446744073709551616 : Nat) : Int)) := Lib.hid (by
        rw [HM.out, IntKind.wrap_u64, IntKind.wrap_u64]
        omega)
      go_wp2
      first | go_roundw | refine ⟨?rel, ?measure⟩
      case rel => exact ⟨j, by omega, by first | go_num | (congr 1; omega), by first | rw [← HZ.out] | (rw [← HZ.out]; simp; done) | (congr 1; rw [← HZ.out, IntKind.wrap_u64, IntKind.wrap_u64]; omega), by first | rfl | trivial⟩
      case measure => simp [intOf] <;> omega
set_option maxRecDepth 100000 in
set_option maxHeartbeats 800000 in
theorem refBegins (w : World) {A B : Option Addr} {m c n d : Nat} {l r : List UInt8} (h : Sl w 1 A m c (l.map by8)) (hb : Sl w 1 B n d (r.map by8)) (a : Nat) (ha : a ≤ m) (hm : m ≤ 140737488351232) :
    Calls Try.prog 63 #[.slice A m c, .int .i64 a, .slice B n d] w fun e w' => e = .returned (.bool (decide (n ≤ m - a ∧ (l.drop a).take n = r))) ∧ Drawn w w' := by
  have hl : l.length = m := by simpa using h.len
  have hr : r.length = n := by simpa using hb.len
  have hc := h.le; have hcm := h.max; have hd := hb.le; have hdm := hb.max
  by_cases hlen : m - a < n
  · have i1 : (m : Int) - (a : Int) < (n : Int) := by omega
    have HR : Hid (decide (n ≤ m - a ∧ (l.drop a).take n = r) = false) := Lib.hid (decide_eq_false (fun hx => by have := hx.1; omega))
    clear hl hr hlen
    go_enter Try.func63, Try.ntmps63
    go_wp2
    go_ret
    exact ⟨by (rw [HR.out]) <;> rfl, Drawn.refl _⟩
  · have i1 : decide ((m : Int) - (a : Int) < (n : Int)) = false := decide_eq_false (by omega)
    have HL := Lib.hid (And.intro hl hr)
    have hle : a + n ≤ m := by omega
    clear hl hr hlen
    go_enter Try.func63, Try.ntmps63
    go_wp2
    go_loopw [7] (fun ii wr => ∃ k : Nat, k ≤ n ∧ ii = .int .i64 k ∧ Hid ((l.drop a).take k = r.take k) ∧ Drawn w wr) (fun ii _ => n - (intOf ii).toNat)
    case atStart => exact ⟨0, by omega, rfl, Lib.hid (by simp), Drawn.refl _⟩
    case round =>
      obtain ⟨k, hk, rfl, heq, hw⟩ := hrel
      obtain ⟨q, rfl⟩ := hw.out
      by_cases hlt : k < n
      · obtain ⟨b, off, rfl⟩ := h.form (by omega)
        obtain ⟨b2, off2, rfl⟩ := hb.form (by omega)
        have ga := h.byte (a + k) (by omega)
        have gb := hb.byte k hlt
        have hk0 : (0 : Int) ≤ (k : Int) := Int.natCast_nonneg _
        have hk1 : (k : Int) < (n : Int) := by omega
        have ha0 : (0 : Int) ≤ (a : Int) + (k : Int) := by omega
        have ha1 : (a : Int) + (k : Int) < (m : Int) := by omega
        have wq : IntKind.i64.wrap ((a : Int) + (k : Int)) = (a : Int) + (k : Int) := by rw [IntKind.wrap_i64]; omega
        have wq2 : wrap64 ((a : Int) + (k : Int)) = (a : Int) + (k : Int) := by unfold wrap64; omega
        have Ta := Lib.hid (take_bt (l.drop a) k (by simp; have := HL.out.1; omega))
        have Tb := Lib.hid (take_bt r k (by rw [HL.out.2]; exact hlt))
        have La := Lib.hid (bt_drop l a k)
        obtain ⟨x, hx⟩ : ∃ x : Nat, x = bt l (a + k) := ⟨_, rfl⟩
        obtain ⟨y, hy⟩ : ∃ y : Nat, y = bt r k := ⟨_, rfl⟩
        rw [← hx] at ga La; rw [← hy] at gb Tb
        have hxb : x < 256 := by rw [hx]; exact bt_lt _ _
        have hyb : y < 256 := by rw [hy]; exact bt_lt _ _
        clear hx hy
        by_cases hxy : x = y
        · subst hxy
          have i2 : ((x : Int) != (x : Int)) = false := by simp
          go_wp2
          go_quiet (fail)
          go_wp2
          first | go_roundw | refine ⟨?rel, ?measure⟩
          case rel => exact ⟨k + 1, by omega, by go_num, Lib.hid (by rw [Ta.out, Tb.out, heq.out, La.out]), by first | exact ⟨⟨_, rfl⟩⟩ | exact ⟨⟨_, World.drewN_drewN ..⟩⟩⟩
          case measure => simp [intOf]; omega
        · have i2 : ((x : Int) != (y : Int)) = true := by simp; omega
          have HR : Hid (decide (n ≤ m - a ∧ (l.drop a).take n = r) = false) := Lib.hid (decide_eq_false (fun hx => by
            have h1 := congrArg (fun z => bt z k) hx.2
            have h2 := bt_take (l.drop a) n k hlt
            try simp only at h1
            rw [h2, La.out] at h1
            have h3 := congrArg (fun z => bt z k) Tb.out
            try simp only at h3
            rw [bt_take r (k + 1) k (by omega)] at h3
            have h4 : bt (r.take k ++ [UInt8.ofNat y]) k = y := by
              rw [bt_append_right _ _ _ (by simp; omega)]
              have : k - (r.take k).length = 0 := by simp; have := HL.out.2; omega
              rw [this]
              simp [bt]; omega
            omega))
          go_wp2
          go_quiet (fail)
          go_wp2
          go_ret
          exact ⟨by (rw [HR.out]) <;> rfl, by first | exact ⟨⟨_, rfl⟩⟩ | exact ⟨⟨_, World.drewN_drewN ..⟩⟩⟩
      · have HR : Hid (decide (n ≤ m - a ∧ (l.drop a).take n = r) = true) := Lib.hid (decide_eq_true ⟨by omega, by
          have h1 := heq.out
          rw [show k = n by omega] at h1
          rw [h1, List.take_of_length_le (by rw [HL.out.2]; exact Nat.le_refl _)]⟩)
        have hk1 : decide ((k : Int) < (n : Int)) = false := decide_eq_false (by omega)
        go_wp2
        go_ret
        exact ⟨by (rw [HR.out]) <;> rfl, hw⟩
/-- what stands there -/
def shX (l : List UInt8) (a : Nat) : Nat × Nat := match rdS (l.drop a) 0 0 with | none => (0, 0) | some xk => xk
set_option maxRecDepth 100000 in
set_option maxHeartbeats 1600000 in
theorem refShort (w : World) {A : Option Addr} {m c : Nat} {l : List UInt8} (h : Sl w 1 A m c (l.map by8)) (a : Nat) (ha : a ≤ m) (hm : m ≤ 140737488351232) :
    Calls Try.prog 60 #[.slice A m c, .int .i64 a] w fun e w' => e = .returned (.tuple #[.int .u64 ((shX l a).1 : Int), .int .i64 ((shX l a).2 : Int)]) ∧ Below w.heap.size w w' := by
  have hl : l.length = m := by simpa using h.len
  have hc := h.le; have hcm := h.max
  have HL := Lib.hid (And.intro hl h)
  obtain ⟨X, hX⟩ : ∃ X, X = shX l a := ⟨_, rfl⟩
  have HX := Lib.hid hX
  rw [← hX]
  clear hl hX h
  go_enter Try.func60, Try.ntmps60
  go_wp2
  go_loopw [6] (fun ii wr => ∃ k : Nat, 0 < k ∧ k ≤ 11 ∧ ii = .int .i64 k ∧ Hid (∀ j, 0 < j → j < k → ¬ shortOK (l.drop a) j) ∧ Below w.heap.size w wr) (fun ii _ => 11 - (intOf ii).toNat)
  case atStart => exact ⟨1, by omega, by omega, rfl, Lib.hid (fun j h1 h2 => by omega), Below.refl _ _⟩
  case round =>
    obtain ⟨k, hk0, hk, rfl, hno, hb⟩ := hrel
    by_cases hgo : k ≤ 10 ∧ k ≤ m - a
    · have i1 : (k : Int) ≤ 10 := by omega
      have i2 : (k : Int) ≤ (m : Int) - (a : Int) := by omega
      have hM := refMeant wr (HL.out.2.below hb) a k (by omega) hm
      obtain ⟨x, hx⟩ : ∃ x, x = meantN ((l.drop a).take k) % 18446744073709551616 := ⟨_, rfl⟩
      rw [← hx] at hM
      have hxl : x < 18446744073709551616 := by rw [hx]; exact Nat.mod_lt _ (by decide)
      have H1 := Lib.hid (And.intro hM (And.intro hb hx))
      clear hM hb hx
      go_wp2_with (first | (at_builtin; refine Stopped.out ?_) | (at_make; refine Stopped.out ?_))
      refine H1.out.1.mono ?_
      rintro e w1 ⟨rfl, rfl⟩
      have HU := Lib.hid (refUint wr x hxl)
      go_wp2_with (first | (at_builtin; refine Stopped.out ?_) | (at_make; refine Stopped.out ?_))
      refine HU.out.mono ?_
      rintro e w2 ⟨v2, rfl, o2, hb2⟩
      obtain ⟨A2, c2, rfl, s2, _⟩ := own_sl o2
      have hbg := refBegins w2 ((HL.out.2.below H1.out.2.1).below hb2) s2 a ha hm
      have H2 := Lib.hid (And.intro hbg (bthen H1.out.2.1 hb2))
      obtain ⟨sl, hsl⟩ : ∃ sl, sl = (shortL x).length := ⟨_, rfl⟩
      rw [← hsl] at H2 ⊢
      have HSL := Lib.hid hsl
      have hsl10 : sl ≤ 10 := by rw [hsl]; exact shortL_len x hxl
      clear o2 hb2 s2 hbg hsl
      by_cases hlen : sl = k
      · have i3 : ((sl : Int) == (k : Int)) = true := by simp; omega
        subst hlen
        by_cases hok : (l.drop a).take sl = shortL x
        · have HOK : Hid (decide (sl ≤ m - a ∧ (l.drop a).take sl = shortL x) = true) := Lib.hid (decide_eq_true ⟨hgo.2, hok⟩)
          have HV : Hid (X = (x, sl)) := Lib.hid (by
            have h1 : shortOK (l.drop a) sl := ⟨by rw [← H1.out.2.2]; exact HSL.out.symm, by simp; have := HL.out.1; omega, by rw [← H1.out.2.2]; exact hok⟩
            rw [HX.out]
            unfold shX
            rw [shortOK_rdS h1, ← H1.out.2.2])
          rw [HOK.out] at H2
          clear hok
          go_wp2_with (first | (at_builtin; refine Stopped.out ?_) | (at_make; refine Stopped.out ?_))
          refine H2.out.1.mono ?_
          rintro e w3 ⟨rfl, hd3⟩
          have HB := Lib.hid (bthen H2.out.2 hd3.below)
          clear hd3
          go_wp2
          go_ret2
          exact ⟨by (rw [HV.out]) <;> rfl, HB.out⟩
        · have HOK : Hid (decide (sl ≤ m - a ∧ (l.drop a).take sl = shortL x) = false) := Lib.hid (decide_eq_false (fun h1 => hok h1.2))
          have HN : Hid (∀ j, 0 < j → j < sl + 1 → ¬ shortOK (l.drop a) j) := Lib.hid (fun j h1 h2 => by
            by_cases hj : j = sl
            · subst hj
              intro h3
              exact hok (by rw [H1.out.2.2]; exact h3.2.2)
            · exact hno.out j h1 (by omega))
          rw [HOK.out] at H2
          clear hok
          go_wp2_with (first | (at_builtin; refine Stopped.out ?_) | (at_make; refine Stopped.out ?_))
          refine H2.out.1.mono ?_
          rintro e w3 ⟨rfl, hd3⟩
          have HB := Lib.hid (bthen H2.out.2 hd3.below)
          clear hd3
          go_wp2
          first | go_roundw | refine ⟨?rel, ?measure⟩
          case rel => exact ⟨sl + 1, by omega, by omega, by go_num, HN.out |> Lib.hid, HB.out⟩
          case measure => simp [intOf]; omega
      · have i3 : ((sl : Int) == (k : Int)) = false := by simp; omega
        have HN : Hid (∀ j, 0 < j → j < k + 1 → ¬ shortOK (l.drop a) j) := Lib.hid (fun j h1 h2 => by
          by_cases hj : j = k
          · subst hj
            intro h3
            have h4 := h3.1
            rw [← H1.out.2.2, ← HSL.out] at h4
            exact hlen h4
          · exact hno.out j h1 (by omega))
        have HB := Lib.hid H2.out.2
        clear hlen
        go_wp2
        first | go_roundw | refine ⟨?rel, ?measure⟩
        case rel => exact ⟨k + 1, by omega, by omega, by go_num, HN.out |> Lib.hid, HB.out⟩
        case measure => simp [intOf]; omega
    · have HV : Hid (X = (0, 0)) := Lib.hid (by
        rw [HX.out]
        unfold shX
        cases hr : rdS (l.drop a) 0 0 with
        | none => rfl
        | some xk =>
          obtain ⟨x, n⟩ := xk
          obtain ⟨h1, h2, h3, _⟩ := rdS_form hr
          have h4 := (rdS_shortOK hr).1
          simp at h3
          have h5 := HL.out.1
          exact absurd h4 (hno.out n h1 (by omega)))
      have HB := Lib.hid hb
      by_cases h10 : k ≤ 10
      · have i1 : (k : Int) ≤ 10 := by omega
        have i2 : decide ((k : Int) ≤ (m : Int) - (a : Int)) = false := decide_eq_false (by omega)
        clear hgo hb
        go_wp2
        go_ret2
        exact ⟨by (rw [HV.out]) <;> rfl, HB.out⟩
      · have i1 : decide ((k : Int) ≤ 10) = false := decide_eq_false (by omega)
        clear hgo hb
        go_wp2
        go_ret2
        exact ⟨by (rw [HV.out]) <;> rfl, HB.out⟩
end Go.Proofs.Ytikjhandhgfohaa
