import Derived.Test.YtdooabbeolfgfaaBits4
import Derived.Lib.ConvBytes
set_option linter.unusedVariables false
set_option linter.unusedSimpArgs false
namespace Go.Proofs.Ytdooabbeolfgfaa
open Go.RowKit

/-- a hex digit -/
def hexDig (v : Nat) : Nat := if v < 10 then 48 + v else 87 + v
def hexL (l : List UInt8) : List UInt8 := l.flatMap fun c => [UInt8.ofNat (hexDig (c.toNat / 16)), UInt8.ofNat (hexDig (c.toNat % 16))]
theorem hexL_len (l : List UInt8) : (hexL l).length = 2 * l.length := by
  induction l with
  | nil => rfl
  | cons c l ih => simp only [hexL, List.flatMap_cons, List.length_append, List.length_cons, List.length_nil] at *; omega
theorem hexL_take (l : List UInt8) (k : Nat) (h : k < l.length) : hexL (l.take (k + 1)) = hexL (l.take k) ++ [UInt8.ofNat (hexDig (bt l k / 16)), UInt8.ofNat (hexDig (bt l k % 16))] := by
  unfold hexL
  rw [List.take_succ_eq_append_getElem h, List.flatMap_append, bt_eq l k h]
  simp
theorem hexDig_lt (v : Nat) (h : v < 16) : hexDig v < 256 := by unfold hexDig; split <;> omega
theorem index_digits (v : Nat) (hv : v < 16) (w : World) : (Instr.index 9 (.string { data := #[48, 49, 50, 51, 52, 53, 54, 55, 56, 57, 97, 98, 99, 100, 101, 102] }) (.int .u8 (v : Int))).run Try.prog w = .ok (.int .u8 ((hexDig v : Nat) : Int)) w := by
  rcases (show v = 0 ∨ v = 1 ∨ v = 2 ∨ v = 3 ∨ v = 4 ∨ v = 5 ∨ v = 6 ∨ v = 7 ∨ v = 8 ∨ v = 9 ∨ v = 10 ∨ v = 11 ∨ v = 12 ∨ v = 13 ∨ v = 14 ∨ v = 15 by omega) with rfl | rfl | rfl | rfl | rfl | rfl | rfl | rfl | rfl | rfl | rfl | rfl | rfl | rfl | rfl | rfl
  all_goals kernel_rfl
set_option maxRecDepth 100000 in
set_option maxHeartbeats 800000 in
theorem Hex_any (w : World) {A : Option Addr} {n c : Nat} {l : List UInt8} (h : Sl w 1 A n c (l.map by8)) (hn : n ≤ 70368744177664) :
    Calls Try.prog 31 #[.slice A n c] w fun e w' => e = .returned (.string ⟨(hexL l).toArray⟩) ∧ Below w.heap.size w w' := by
  have hl : l.length = n := by simpa using h.len
  have HL := Lib.hid hl
  clear hl
  have h1 := h.le; have h2 := h.max
  go_enter Try.func31, Try.ntmps31
  go_wp2_with (first | (at_builtin; refine Stopped.out ?_) | (at_make; refine Stopped.out ?_))
  refine Stopped.mk (mk_own EB rfl _ _ rfl w.heap.size (2 * n) rfl rfl (by simp) (by omega) (by simp only [maxLen]; omega) (Nat.le_refl _) ?_)
  intro w1 hown hg
  have hb1 := below_grown hg
  clear hg
  go_wp2_with (first | (at_builtin; refine Stopped.out ?_) | (at_make; refine Stopped.out ?_))
  go_loopw [3, 12] (fun o i wr => ∃ k : Nat, k ≤ n ∧ i = .int .i64 k ∧ o = .slice (some ⟨w.heap.size, 0, none⟩) (2 * k) (2 * n) ∧
    wr.ownsRow w.heap.size 5 1 (.slice (some ⟨w.heap.size, 0, none⟩) (2 * k) (2 * n)) (2 * k) ((hexL (l.take k)).map by8) ∧ Below w.heap.size w wr) (fun _ i _ => n - (intOf i).toNat)
  case atStart => exact ⟨0, by omega, rfl, rfl, by simpa [hexL] using hown, hb1⟩
  case round =>
    obtain ⟨k, hk, rfl, rfl, hst, hbl⟩ := hrel
    by_cases hlt : k < n
    · obtain ⟨b, off, rfl⟩ := h.form (by omega)
      have g := (h.below hbl).byte k hlt
      have q1 : b ≠ w.heap.size := by have := cell_lt (h.byte k hlt); simp at this; omega
      have HT := Lib.hid (hexL_take l k (by rw [HL.out]; exact hlt))
      obtain ⟨x, hx⟩ : ∃ x, x = bt l k := ⟨_, rfl⟩
      have hx2 : x < 256 := by rw [hx]; exact bt_lt l k
      rw [← hx] at g HT
      clear hx
      have e1 := u8_and15 (x := (x : Int)) (by omega) (by omega)
      have i1 := index_digits (x / 16) (by omega)
      have i2 := index_digits (x % 16) (by omega)
      have e3 : ((x / 16 : Nat) : Int) = (x : Int) / 16 := by omega
      have e4 : ((x % 16 : Nat) : Int) = (x : Int) % 16 := by omega
      rw [e3] at i1
      rw [e4] at i2
      clear e3 e4
      go_wp2
      go_region_held3 (fun w' => True) (trivial)
        ((refine fit_step EB (by rfl) _ _ (by rfl) (by rfl) ((hst.alloc _).drew) (by rfl) (Sl.drew (Sl.fresh wr [_, _] 5 2 1 (by rfl) (by decide))) (by simp [Value.oneCell']) (by omega) ?_; intro w2 hst2 hg2))
      all_goals
        go_wp2
        first | go_roundw | refine ⟨?rel, ?measure⟩
        case rel =>
          refine ⟨k + 1, by omega, by go_num, rfl, ?_, ((hbl.alloc hbl.size _).drew).grown hg2 (by have := hbl.size; simp; omega) (fun k hk => (Option.some.inj hk) ▸ Nat.le_refl _)⟩
          rw [HT.out, List.map_append]
          have e5 : [UInt8.ofNat (hexDig (x / 16)), UInt8.ofNat (hexDig (x % 16))].map by8 = [.int .u8 ((hexDig (x / 16) : Nat) : Int), .int .u8 ((hexDig (x % 16) : Nat) : Int)] := by
            have h5 := hexDig_lt (x / 16) (by omega)
            have h6 := hexDig_lt (x % 16) (by omega)
            simp [by8, Nat.mod_eq_of_lt h5, Nat.mod_eq_of_lt h6]
          rw [e5]
          exact hst2
        case measure => simp [intOf]; omega
    · obtain rfl : k = n := by omega
      have HF : Hid (hexL (l.take k) = hexL l) := Lib.hid (by rw [List.take_of_length_le (Nat.le_of_eq HL.out)])
      rw [HF.out] at hst
      have hcv := conv_bytes (dst := 9) (own_sl' hst).2.1 Try.underlying24 Try.underlying5 Try.underlying9
      go_wp2
      go_ret
      exact ⟨rfl, hbl⟩

/-! ### Unhex -/
def unhexK (l : List UInt8) : Nat → Option (List UInt8)
  | 0 => some []
  | k + 1 => match unhexK l k, hexVal (bt l (2 * k)), hexVal (bt l (2 * k + 1)) with
    | some o, some a, some b => some (o ++ [UInt8.ofNat (16 * a + b)])
    | _, _, _ => none
def unhexOf (l : List UInt8) : Option (List UInt8) := if l.length % 2 = 0 then unhexK l (l.length / 2) else none
theorem unhexK_none (l : List UInt8) (k m : Nat) (h : unhexK l k = none) : unhexK l (k + m) = none := by
  induction m with
  | zero => exact h
  | succ m ih => rw [← Nat.add_assoc, unhexK, ih]
theorem unhexK_len (l : List UInt8) : ∀ (k : Nat) (o : List UInt8), unhexK l k = some o → o.length = k
  | 0, o, h => by injection h with h; subst h; rfl
  | k + 1, o, h => by
    rw [unhexK] at h
    split at h
    · rename_i o' a b h1 h2 h3
      injection h with h
      subst h
      simp [unhexK_len l k o' h1]
    · cases h
theorem shl4_or (a b : Nat) (ha : a < 16) (hb : b < 16) : bits .or .u8 ((a : Int) * 16) (b : Int) = ((16 * a + b : Nat) : Int) := by
  rw [show ((a : Int) * 16) = ((a * 16 : Nat) : Int) by simp, bits_or8 _ _ (by omega) (by omega), show a * 16 = 2 ^ 4 * a by omega, ← Nat.two_pow_add_eq_or_of_lt (by omega)]
theorem index_str {P : Program} {t : Nat} (ht : P.underlying t = some .string) (s : ByteArray) (k : Nat) (hk : k < s.size) (hm : s.size ≤ 9223372036854775807) (w : World) :
    (Instr.index t (.string s) (.int .i64 (k : Int))).run P w = .ok (.int .u8 ((bt s.data.toList k : Nat) : Int)) w := by
  have e : bt s.data.toList k = (s[k]'hk).toNat := by
    unfold bt
    rw [List.getElem?_eq_getElem (by simpa using hk)]
    rfl
  rw [e, run_index_string w t s .i64 k ht, dif_pos ⟨by omega, by omega⟩]
  congr 1
/-- what Unhex answers -/
def UnhexPost (w : World) (l : List UInt8) (e : Ending) (w' : World) : Prop := Below w.heap.size w w' ∧ ((unhexOf l = none ∧ e = .returned (.tuple #[.slice none 0 0, .bool false])) ∨
      ∃ o v, unhexOf l = some o ∧ e = .returned (.tuple #[v, .bool true]) ∧ w'.ownsRow w.heap.size 5 1 v o.length (o.map by8))
set_option maxRecDepth 100000 in
set_option maxHeartbeats 800000 in
theorem Unhex_any (w : World) (s : ByteArray) (hs : s.size ≤ 140737488355328) :
    Calls Try.prog 30 #[.string s] w (UnhexPost w s.data.toList) := by
  obtain ⟨l, hl⟩ : ∃ l, l = s.data.toList := ⟨_, rfl⟩
  have HSz : Hid (l.length = s.size) := Lib.hid (by rw [hl]; rfl)
  have HI : Hid (∀ (k : Nat) (w : World), k < s.size → (Instr.index 9 (.string s) (.int .i64 (k : Int))).run Try.prog w = .ok (.int .u8 ((bt l k : Nat) : Int)) w) :=
    Lib.hid (fun k w hk => by rw [hl]; exact index_str Try.underlying9 s k hk (by omega) w)
  rw [← hl]
  clear hl
  by_cases hev : s.size % 2 = 0
  · obtain ⟨n, hn⟩ : ∃ n, s.size = 2 * n := ⟨s.size / 2, by omega⟩
    have HN := Lib.hid hn
    have HU : Hid (unhexOf l = unhexK l n) := Lib.hid (by unfold unhexOf; rw [HSz.out, if_pos hev, hn, Nat.mul_div_cancel_left _ (by decide)])
    have hne : (((s.size : Int) % 2) != 0) = false := by simp; omega
    have hdiv : (s.size : Int) / 2 = (n : Int) := by omega
    have hsn : s.size ≤ 2 * n := by omega
    have hsn2 : 2 * n ≤ s.size := by omega
    clear hn hev
    go_enter Try.func30, Try.ntmps30
    go_wp2_with (first | (at_builtin; refine Stopped.out ?_) | (at_make; refine Stopped.out ?_))
    refine Stopped.mk (mk_own EB rfl _ _ rfl w.heap.size n rfl rfl rfl (by omega) (by simp only [maxLen]; omega) (Nat.le_refl _) ?_)
    intro w1 hown hg
    have hb1 := below_grown hg
    clear hg hdiv
    go_wp2_with (first | (at_builtin; refine Stopped.out ?_) | (at_make; refine Stopped.out ?_))
    go_loopw [4, 5] (fun o i wr => ∃ (k j : Nat) (ol : List UInt8) (v : Value), k ≤ n ∧ i = .int .i64 j ∧ Hid (j = 2 * k) ∧ j ≤ 2 * n ∧ o = v ∧ Hid (unhexK l k = some ol) ∧ Hid (ol.length = k) ∧
      wr.ownsRow w.heap.size 5 1 v k (ol.map by8) ∧ Below w.heap.size w wr) (fun _ i _ => 2 * n + 2 - (intOf i).toNat)
    case atStart => exact ⟨0, 0, [], _, by omega, rfl, Lib.hid rfl, by omega, rfl, Lib.hid rfl, Lib.hid rfl, by simpa using hown, hb1⟩
    case round =>
      obtain ⟨k, j, ol, v, hk, rfl, hj, hjn, rfl, hol, hoL, hst, hbl⟩ := hrel
      by_cases hlt : k < n
      · have hj1 : j + 1 < s.size := by have := hj.out; omega
        have i1 := fun w => HI.out j w (by omega)
        have i2 := fun w => HI.out (j + 1) w hj1
        rw [show ((j + 1 : Nat) : Int) = (j : Int) + 1 by omega] at i2
        have hx := bt_lt l j
        have hy := bt_lt l (j + 1)
        cases hA : hexVal (bt l j) with
        | none =>
          have HR : Hid (unhexOf l = none) := Lib.hid (by
            rw [HU.out, show n = (k + 1) + (n - (k + 1)) by omega]
            refine unhexK_none _ _ _ ?_
            rw [unhexK, hol.out, ← hj.out, hA])
          obtain ⟨y, hyy⟩ : ∃ y, y = bt l (j + 1) := ⟨_, rfl⟩
          rw [← hyy] at i2 hy
          have D1 := Lib.hid (fun w => digit_no w (bt l j) hx hA)
          obtain ⟨x, hxx⟩ : ∃ x, x = bt l j := ⟨_, rfl⟩
          rw [← hxx] at i1 hx D1
          clear hA hxx hyy
          go_wp2_with (first | (at_builtin; refine Stopped.out ?_) | (at_make; refine Stopped.out ?_))
          refine (D1.out _).mono ?_
          rintro e w' ⟨rfl, rfl⟩
          go_wp2_with (first | (at_builtin; refine Stopped.out ?_) | (at_make; refine Stopped.out ?_))
          cases hB : hexVal y with
          | none =>
            refine (digit_no _ y hy hB).mono ?_
            clear hB
            rintro e w' ⟨rfl, rfl⟩
            go_wp2_with (first | (at_builtin; refine Stopped.out ?_) | (at_make; refine Stopped.out ?_))
            go_ret2
            exact ⟨hbl, .inl ⟨HR.out, rfl⟩⟩
          | some b =>
            refine (digit_yes _ y b hB).mono ?_
            clear hB
            rintro e w' ⟨rfl, rfl⟩
            go_wp2_with (first | (at_builtin; refine Stopped.out ?_) | (at_make; refine Stopped.out ?_))
            go_ret2
            exact ⟨hbl, .inl ⟨HR.out, rfl⟩⟩
        | some a =>
          have ha := hexVal_lt hA
          cases hB : hexVal (bt l (j + 1)) with
          | none =>
            have HR : Hid (unhexOf l = none) := Lib.hid (by
              rw [HU.out, show n = (k + 1) + (n - (k + 1)) by omega]
              refine unhexK_none _ _ _ ?_
              rw [unhexK, hol.out, ← hj.out, hA, hB])
            have D1 := Lib.hid (fun w => digit_yes w (bt l j) a hA)
            have D2 := Lib.hid (fun w => digit_no w (bt l (j + 1)) hy hB)
            obtain ⟨y, hyy⟩ : ∃ y, y = bt l (j + 1) := ⟨_, rfl⟩
            rw [← hyy] at i2 hy D2
            obtain ⟨x, hxx⟩ : ∃ x, x = bt l j := ⟨_, rfl⟩
            rw [← hxx] at i1 hx D1
            clear hA hB hxx hyy
            go_wp2_with (first | (at_builtin; refine Stopped.out ?_) | (at_make; refine Stopped.out ?_))
            refine (D1.out _).mono ?_
            rintro e w' ⟨rfl, rfl⟩
            go_wp2_with (first | (at_builtin; refine Stopped.out ?_) | (at_make; refine Stopped.out ?_))
            refine (D2.out _).mono ?_
            rintro e w' ⟨rfl, rfl⟩
            go_wp2_with (first | (at_builtin; refine Stopped.out ?_) | (at_make; refine Stopped.out ?_))
            go_ret2
            exact ⟨hbl, .inl ⟨HR.out, rfl⟩⟩
          | some b =>
            have hb := hexVal_lt hB
            have HR : Hid (unhexK l (k + 1) = some (ol ++ [UInt8.ofNat (16 * a + b)])) := Lib.hid (by rw [unhexK, hol.out, ← hj.out, hA, hB])
            have D1 := Lib.hid (fun w => digit_yes w (bt l j) a hA)
            have D2 := Lib.hid (fun w => digit_yes w (bt l (j + 1)) b hB)
            obtain ⟨y, hyy⟩ : ∃ y, y = bt l (j + 1) := ⟨_, rfl⟩
            rw [← hyy] at i2 hy D2
            obtain ⟨x, hxx⟩ : ∃ x, x = bt l j := ⟨_, rfl⟩
            rw [← hxx] at i1 hx D1
            clear hA hB hxx hyy
            have e1 := shl4_or a b ha hb
            go_wp2_with (first | (at_builtin; refine Stopped.out ?_) | (at_make; refine Stopped.out ?_))
            refine (D1.out _).mono ?_
            rintro e w' ⟨rfl, rfl⟩
            go_wp2_with (first | (at_builtin; refine Stopped.out ?_) | (at_make; refine Stopped.out ?_))
            refine (D2.out _).mono ?_
            rintro e w' ⟨rfl, rfl⟩
            go_wp2_with (first | (at_builtin; refine Stopped.out ?_) | (at_make; refine Stopped.out ?_))
            refine Stopped.mk (ap_own EB rfl _ _ rfl rfl (hst.alloc _) rfl (Sl.fresh wr [_] 5 1 1 rfl (by decide)) (by simp [Value.oneCell']) (by simp only [maxLen]; omega) (by omega) (by have := hbl.size; simp; omega) ?_)
            intro v2 w2 hst2 hg2 _
            go_wp2
            first | go_roundw | refine ⟨?rel, ?measure⟩
            case rel =>
              refine ⟨k + 1, j + 2, ol ++ [UInt8.ofNat (16 * a + b)], v2, by omega, by go_num, Lib.hid (by have := hj.out; omega), by have := hj.out; omega, rfl, HR, Lib.hid (by simp [hoL.out]), ?_, (hbl.alloc hbl.size _).grown hg2 (by have := hbl.size; simp; omega) (fun k hk => (hst.lt k hk).1)⟩
              have e5 : (ol ++ [UInt8.ofNat (16 * a + b)]).map by8 = ol.map by8 ++ [.int .u8 ((16 * a + b : Nat) : Int)] := by
                simp [by8]
                omega
              rw [e5]
              exact hst2
            case measure => simp [intOf]; omega
      · obtain rfl : k = n := by omega
        obtain rfl : j = 2 * k := hj.out
        go_wp2
        go_ret2
        exact ⟨hbl, .inr ⟨ol, _, by rw [HU.out, hol.out], rfl, by rw [hoL.out]; exact hst⟩⟩
  · have HR : Hid (unhexOf l = none) := Lib.hid (by unfold unhexOf; rw [HSz.out, if_neg hev])
    have hne : (((s.size : Int) % 2) != 0) = true := by simp; omega
    clear hev
    go_enter Try.func30, Try.ntmps30
    go_wp2
    go_ret2
    exact ⟨Below.refl _ _, .inl ⟨HR.out, rfl⟩⟩
end Go.Proofs.Ytdooabbeolfgfaa
