import Derived.Test.YtdooabbeolfgfaaRf01f
import Derived.Test.YtdooabbeolfgfaaBits5
import Derived.Test.YtdooabbeolfgfaaBitsBack
set_option linter.unusedVariables false
set_option linter.unusedSimpArgs false
namespace Go.Proofs.Ytdooabbeolfgfaa
open Go.RowKit
def digV (c : Nat) : Int := match hexVal c with
  | some v => (v : Int)
  | none => -1
theorem index_dig64 (v : Nat) (hv : v < 16) (w : World) : (Instr.index 9 (.string { data := #[48, 49, 50, 51, 52, 53, 54, 55, 56, 57, 97, 98, 99, 100, 101, 102] }) (.int .i64 (v : Int))).run Try.prog w = .ok (.int .u8 ((hexDig v : Nat) : Int)) w := by
  rcases (show v = 0 ∨ v = 1 ∨ v = 2 ∨ v = 3 ∨ v = 4 ∨ v = 5 ∨ v = 6 ∨ v = 7 ∨ v = 8 ∨ v = 9 ∨ v = 10 ∨ v = 11 ∨ v = 12 ∨ v = 13 ∨ v = 14 ∨ v = 15 by omega) with rfl | rfl | rfl | rfl | rfl | rfl | rfl | rfl | rfl | rfl | rfl | rfl | rfl | rfl | rfl | rfl
  all_goals kernel_rfl
set_option maxRecDepth 10000 in
set_option maxHeartbeats 800000 in
theorem digit01 (w : World) (c : Nat) (hc : c < 256) :
    Calls Try.prog 163 #[.int .u8 (c : Int)] w fun e w' => e = .returned (.int .i64 (digV c)) ∧ w = w' := by
  obtain ⟨R, hR⟩ : ∃ R, R = digV c := ⟨_, rfl⟩
  rw [← hR]
  have HR := Lib.hid hR
  clear hR
  go_enter Try.func163, Try.ntmps163
  go_wp2
  go_loop [3] (fun i => ∃ k : Nat, k ≤ 16 ∧ i = .int .i64 k ∧ ∀ t, t < k → hexDig t ≠ c) (fun i => 16 - (intOf i).toNat)
  case atStart => exact ⟨0, by omega, rfl, fun t ht => by omega⟩
  case round =>
    obtain ⟨k, hk, rfl, hn⟩ := hrel
    by_cases hlt : k < 16
    · have hk0 : (0 : Int) ≤ (k : Int) := Int.natCast_nonneg _
      have hk1 : (k : Int) < 16 := by omega
      have i1 := fun w => index_dig64 k hlt w
      have HN := Lib.hid hn
      obtain ⟨d, hd⟩ : ∃ d, d = hexDig k := ⟨_, rfl⟩
      rw [← hd] at i1
      have HD := Lib.hid hd
      clear hn hd
      by_cases hdc : d = c
      · have hq : ((d : Int) == (c : Int)) = true := by rw [hdc]; simp
        have HV := Lib.hid (show R = (k : Int) by
          rw [HR.out, ← hdc, HD.out]
          unfold digV
          rw [hexVal_dig k hlt])
        clear hdc
        go_wp2
        go_ret
        exact ⟨by rw [HV.out]; rfl, rfl⟩
      · have hq : ((d : Int) == (c : Int)) = false := by simp; omega
        have HC := Lib.hid hdc
        clear hdc
        go_wp2
        go_round
        case rel => exact ⟨k + 1, by omega, by go_num, fun t ht => by
          by_cases htk : t = k
          · subst htk; rw [← HD.out]; exact HC.out
          · exact HN.out t (by omega)⟩
        case measure => simp [intOf] <;> omega
    · have HV := Lib.hid (show R = -1 by
        rw [HR.out]
        unfold digV
        cases h : hexVal c with
        | none => rfl
        | some v => exact absurd (hexDig_val h) (hn v (by have := hexVal_lt h; omega)))
      have k1 : (16 : Int) ≤ (k : Int) := by omega
      clear hn
      go_wp2
      go_ret
      exact ⟨by rw [HV.out]; rfl, rfl⟩
theorem digV_none {c : Nat} (h : hexVal c = none) : digV c = -1 := by unfold digV; rw [h]
theorem digV_some {c v : Nat} (h : hexVal c = some v) : digV c = v := by unfold digV; rw [h]
set_option maxRecDepth 100000 in
set_option maxHeartbeats 1600000 in
theorem refUnhex (w : World) (s : ByteArray) (hs : s.size ≤ 100000000) :
    Calls Try.prog 139 #[.string s] w (UnhexPost w s.data.toList) := by
  obtain ⟨l, hl⟩ : ∃ l, l = s.data.toList := ⟨_, rfl⟩
  have HSz : Hid (l.length = s.size) := Lib.hid (by rw [hl]; rfl)
  have HI : Hid (∀ (k : Nat) (w : World), k < s.size → (Instr.index 9 (.string s) (.int .i64 (k : Int))).run Try.prog w = .ok (.int .u8 ((bt l k : Nat) : Int)) w) :=
    Lib.hid (fun k w hk => by rw [hl]; exact index_str Try.underlying9 s k hk (by omega) w)
  rw [← hl]
  clear hl
  by_cases hev : s.size % 2 = 0
  · obtain ⟨n, hn⟩ : ∃ n, s.size = 2 * n := ⟨s.size / 2, by omega⟩
    have HN := Lib.hid hn
    have HU : Hid (unhexOf l = unhexK l n) := Lib.hid (by unfold unhexOf; rw [HSz.out, if_pos hev, hn, Nat.mul_div_cancel_left _ (by decide)])
    have hne : (((s.size : Int) % 2) != 0) = false := by simp; omega
    have hsn : s.size ≤ 2 * n := by omega
    have hsn2 : 2 * n ≤ s.size := by omega
    clear hn hev
    go_enter Try.func139, Try.ntmps139
    go_wp2
    go_loopw [4, 5] (fun o i wr => ∃ (k j : Nat) (ol : List UInt8) (v : Value), k ≤ n ∧ i = .int .i64 j ∧ Hid (j = 2 * k) ∧ j ≤ 2 * n ∧ o = v ∧ Hid (unhexK l k = some ol) ∧ Hid (ol.length = k) ∧
      wr.ownsRow w.heap.size 5 1 v k (ol.map by8) ∧ Below w.heap.size w wr) (fun _ i _ => 2 * n + 2 - (intOf i).toNat)
    case atStart => exact ⟨0, 0, [], _, by omega, rfl, Lib.hid rfl, by omega, rfl, Lib.hid rfl, Lib.hid rfl, World.ownsRow_nil .., Below.refl _ _⟩
    case round =>
      obtain ⟨k, j, ol, v, hk, rfl, hj, hjn, rfl, hol, hoL, hst, hbl⟩ := hrel
      by_cases hlt : k < n
      · have hj1 : j + 1 < s.size := by have := hj.out; omega
        have hj2 : (j : Int) + 1 < (s.size : Int) := by omega
        have j0 : (0 : Int) ≤ (j : Int) := Int.natCast_nonneg _
        have i1 := fun w => HI.out j w (by omega)
        have i2 := fun w => HI.out (j + 1) w hj1
        rw [show ((j + 1 : Nat) : Int) = (j : Int) + 1 by omega] at i2
        have hx := bt_lt l j
        have hy := bt_lt l (j + 1)
        have HO := Lib.hid (And.intro hst hbl)
        cases hA : hexVal (bt l j) with
        | none =>
          have HR : Hid (unhexOf l = none) := Lib.hid (by
            rw [HU.out, show n = (k + 1) + (n - (k + 1)) by omega]
            refine unhexK_none _ _ _ ?_
            rw [unhexK, hol.out, ← hj.out, hA])
          have D1 := Lib.hid (fun w => digit01 w (bt l j) hx)
          have D2 := Lib.hid (fun w => digit01 w (bt l (j + 1)) hy)
          rw [digV_none hA] at D1
          obtain ⟨y, hyy⟩ : ∃ y, y = bt l (j + 1) := ⟨_, rfl⟩
          rw [← hyy] at i2 hy D2
          obtain ⟨x, hxx⟩ : ∃ x, x = bt l j := ⟨_, rfl⟩
          rw [← hxx] at i1 hx D1
          obtain ⟨dy, hdy⟩ : ∃ d, d = digV y := ⟨_, rfl⟩
          rw [← hdy] at D2
          clear hA hxx hyy hdy hst hbl
          go_wp2_with (first | (at_builtin; refine Stopped.out ?_) | (at_make; refine Stopped.out ?_))
          refine (D1.out _).mono ?_
          rintro e w' ⟨rfl, rfl⟩
          go_wp2_with (first | (at_builtin; refine Stopped.out ?_) | (at_make; refine Stopped.out ?_))
          refine (D2.out _).mono ?_
          rintro e w' ⟨rfl, rfl⟩
          go_wp2
          go_ret2
          exact ⟨HO.out.2, .inl ⟨HR.out, rfl⟩⟩
        | some a =>
          have ha := hexVal_lt hA
          cases hB : hexVal (bt l (j + 1)) with
          | none =>
            have HR : Hid (unhexOf l = none) := Lib.hid (by
              rw [HU.out, show n = (k + 1) + (n - (k + 1)) by omega]
              refine unhexK_none _ _ _ ?_
              rw [unhexK, hol.out, ← hj.out, hA, hB])
            have D1 := Lib.hid (fun w => digit01 w (bt l j) hx)
            have D2 := Lib.hid (fun w => digit01 w (bt l (j + 1)) hy)
            rw [digV_some hA] at D1
            rw [digV_none hB] at D2
            obtain ⟨y, hyy⟩ : ∃ y, y = bt l (j + 1) := ⟨_, rfl⟩
            rw [← hyy] at i2 hy D2
            obtain ⟨x, hxx⟩ : ∃ x, x = bt l j := ⟨_, rfl⟩
            rw [← hxx] at i1 hx D1
            have ha0 : decide ((a : Int) < 0) = false := decide_eq_false (by omega)
            clear hA hB hxx hyy hst hbl
            go_wp2_with (first | (at_builtin; refine Stopped.out ?_) | (at_make; refine Stopped.out ?_))
            refine (D1.out _).mono ?_
            rintro e w' ⟨rfl, rfl⟩
            go_wp2_with (first | (at_builtin; refine Stopped.out ?_) | (at_make; refine Stopped.out ?_))
            refine (D2.out _).mono ?_
            rintro e w' ⟨rfl, rfl⟩
            go_wp2
            go_ret2
            exact ⟨HO.out.2, .inl ⟨HR.out, rfl⟩⟩
          | some b =>
            have hb := hexVal_lt hB
            have HR : Hid (unhexK l (k + 1) = some (ol ++ [UInt8.ofNat (16 * a + b)])) := Lib.hid (by rw [unhexK, hol.out, ← hj.out, hA, hB])
            have D1 := Lib.hid (fun w => digit01 w (bt l j) hx)
            have D2 := Lib.hid (fun w => digit01 w (bt l (j + 1)) hy)
            rw [digV_some hA] at D1
            rw [digV_some hB] at D2
            obtain ⟨y, hyy⟩ : ∃ y, y = bt l (j + 1) := ⟨_, rfl⟩
            rw [← hyy] at i2 hy D2
            obtain ⟨x, hxx⟩ : ∃ x, x = bt l j := ⟨_, rfl⟩
            rw [← hxx] at i1 hx D1
            have ha0 : decide ((a : Int) < 0) = false := decide_eq_false (by omega)
            have hb0 : decide ((b : Int) < 0) = false := decide_eq_false (by omega)
            clear hA hB hxx hyy
            go_wp2_with (first | (at_builtin; refine Stopped.out ?_) | (at_make; refine Stopped.out ?_))
            refine (D1.out _).mono ?_
            rintro e w' ⟨rfl, rfl⟩
            go_wp2_with (first | (at_builtin; refine Stopped.out ?_) | (at_make; refine Stopped.out ?_))
            refine (D2.out _).mono ?_
            rintro e w' ⟨rfl, rfl⟩
            go_wp2_with (first | (at_builtin; refine Stopped.out ?_) | (at_make; refine Stopped.out ?_))
            refine Stopped.mk (apk_own EBsh rfl (.tmp 34) (.tmp 40) rfl rfl (HO.out.1.alloc _) rfl (Sl.fresh wr [_] 5 1 1 rfl (by decide)) (by simp [Value.oneCell']) (by simp only [maxLen]; omega) (by omega) (by have := hbl.size; simp; omega) ?_)
            intro v2 w2 hst2 hg2 _
            have e5 : [Value.int .u8 (16 * (a : Int) + (b : Int))] = [UInt8.ofNat (16 * a + b)].map by8 := by
              simp [by8]
              omega
            rw [e5, ← List.map_append] at hst2
            have HN2 := Lib.hid (And.intro hst2 ((HO.out.2.alloc HO.out.2.size _).grown hg2 (by have := HO.out.2.size; simp; omega) (fun k hk => (HO.out.1.lt k hk).1)))
            clear hst hbl hst2 hg2 e5
            go_wp2
            first | go_roundw | refine ⟨?rel, ?measure⟩
            case rel => exact ⟨k + 1, j + 2, ol ++ [UInt8.ofNat (16 * a + b)], v2, by omega, by go_num, Lib.hid (by have := hj.out; omega), by have := hj.out; omega, rfl, HR, Lib.hid (by rw [List.length_append, hoL.out]; rfl), HN2.out.1, HN2.out.2⟩
            case measure => simp [intOf] <;> omega
      · have HK := Lib.hid (show k = n by omega)
        have HO := Lib.hid (And.intro hst hbl)
        have j1 : (s.size : Int) ≤ (j : Int) + 1 := by have := hj.out; omega
        clear hst hbl
        go_wp2
        go_ret2
        exact ⟨HO.out.2, .inr ⟨ol, _, by rw [HU.out, ← HK.out]; exact hol.out, rfl, by rw [hoL.out]; exact HO.out.1⟩⟩
  · have hne : (((s.size : Int) % 2) != 0) = true := by simp; omega
    have HU : Hid (unhexOf l = none) := Lib.hid (by unfold unhexOf; rw [HSz.out, if_neg hev])
    clear hev
    go_enter Try.func139, Try.ntmps139
    go_wp2
    go_ret2
    exact ⟨Below.refl _ _, .inl ⟨HU.out, rfl⟩⟩
end Go.Proofs.Ytdooabbeolfgfaa
