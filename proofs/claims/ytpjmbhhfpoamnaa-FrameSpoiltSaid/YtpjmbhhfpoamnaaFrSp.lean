import Derived.Test.YtpjmbhhfpoamnaaFrDec
import Derived.Test.YtpjmbhhfpoamnaaSame13
set_option linter.unusedVariables false
set_option linter.unusedSimpArgs false
namespace Go.Proofs.Ytpjmbhhfpoamnaa
open Go.RowKit
set_option maxRecDepth 100000 in
set_option maxHeartbeats 1600000 in
theorem taken_any (w : World) {A : Option Addr} {n c : Nat} {l : List UInt8} (h : Sl w 1 A n c (l.map by8)) (hn : n ≤ 140737488351232) :
    Calls Try.prog 49 #[.slice A n c] w fun e w' => e = .returned (.bool (decide ((wholeF l 0).2.2.2 = 0 ∧ 0 < n))) ∧ Below w.heap.size w w' := by
  have hc := h.le; have hcm := h.max
  have HD := Lib.hid (Decode_any w h 0 hn)
  clear h
  obtain ⟨R, hR⟩ : ∃ R, R = wholeF l 0 := ⟨_, rfl⟩
  rw [← hR] at HD ⊢
  obtain ⟨k, pl, nx, tl⟩ := R
  simp only
  clear hR
  obtain ⟨r, hr⟩ : ∃ r, r = decide (tl = 0 ∧ 0 < n) := ⟨_, rfl⟩
  rw [← hr]
  have HRr := Lib.hid hr
  clear hr
  go_enter Try.func49, Try.ntmps49
  go_wp2_with (first | (at_builtin; refine Stopped.out ?_) | (at_make; refine Stopped.out ?_))
  refine HD.out.mono ?_
  rintro e w1 ⟨g, rfl, o1, hb1⟩
  simp only
  have HB := Lib.hid (hb1.alloc hb1.size (.cells #[.int .u8 (k.toNat : Int), .slice (some ⟨g, 0, none⟩) pl.length pl.length] 70))
  clear o1 hb1 HD
  by_cases h0 : tl = 0
  · subst h0
    by_cases h1 : 0 < n
    · have i1 : (0 : Int) < (n : Int) := by omega
      have HR : Hid (decide (0 = 0 ∧ 0 < n) = true) := Lib.hid (by simp [h1])
      go_wp2
      go_ret
      exact ⟨by (rw [HRr.out, HR.out]) <;> rfl, HB.out⟩
    · have i1 : decide ((0 : Int) < (n : Int)) = false := decide_eq_false (by omega)
      have HR : Hid (decide (0 = 0 ∧ 0 < n) = false) := Lib.hid (by simp [h1])
      go_wp2
      go_ret
      exact ⟨by (rw [HRr.out, HR.out]) <;> rfl, HB.out⟩
  · have i1 : ((tl : Int) == 0) = false := by simp; omega
    have HR : Hid (decide (tl = 0 ∧ 0 < n) = false) := Lib.hid (by simp [h0])
    clear h0
    go_wp2
    go_ret
    exact ⟨by (rw [HRr.out, HR.out]) <;> rfl, HB.out⟩
set_option maxRecDepth 100000 in
set_option maxHeartbeats 1600000 in
theorem turned_any (w : World) {A : Option Addr} {n c : Nat} {l : List UInt8} (h : Sl w 1 A n c (l.map by8)) (hn : n ≤ 140737488351232) (f word : Nat) (hw : word < 4294967296) (hf : ∀ k, k < 32 → word / 2 ^ k % 2 = 1 → f + k < 8 * n) (hf2 : f ≤ 1125899906842624) :
    Calls Try.prog 48 #[.slice A n c, .int .i64 f, .int .u32 word] w fun e w' => ∃ v, e = .returned v ∧ w'.ownsRow w.heap.size 5 1 v n ((turnK l f word 32).map by8) ∧ Below w.heap.size w w' := by
  have hl : l.length = n := by simpa using h.len
  have hc := h.le; have hcm := h.max
  have HL := Lib.hid (And.intro hl hf)
  clear hl hf
  go_enter Try.func48, Try.ntmps48
  go_wp2_with (first | (at_builtin; refine Stopped.out ?_) | (at_make; refine Stopped.out ?_))
  refine Stopped.mk (ap_own EB rfl _ _ rfl rfl (World.ownsRow_lit (base := w.heap.size) _ #[] 0 (by simp) (by decide) rfl) rfl (h.alloc _) (u8_one _) (by simp only [maxLen]; omega) (by omega) (by simp) ?_)
  intro v1 w1 o1 hg1 _
  have hb1 : Below w.heap.size w w1 := ((Below.refl _ w).alloc (Nat.le_refl _) _).grown hg1 (by simp) (fun k hk => (Option.some.inj hk) ▸ Nat.le_refl _)
  rw [List.nil_append, Nat.zero_add] at o1
  have HO := Lib.hid (And.intro o1 hb1)
  obtain ⟨A1, c1, rfl, _, _⟩ := own_sl o1
  clear o1 hg1 hb1 h
  go_wp2
  go_loopw [8] (fun i wr => ∃ (k : Nat), k ≤ 32 ∧ i = .int .i64 k ∧ wr.ownsRow w.heap.size 5 1 (.slice A1 n c1) n ((turnK l f word k).map by8) ∧ Below w.heap.size w wr) (fun i _ => 32 - (intOf i).toNat)
  case atStart => exact ⟨0, by omega, rfl, HO.out.1, HO.out.2⟩
  case round =>
    clear HO
    obtain ⟨k, hk, rfl, o2, hb2⟩ := hrel
    by_cases hlt : k < 32
    · have i1 : (k : Int) < 32 := by omega
      have i0 : (0 : Int) ≤ (k : Int) := by omega
      have i2 : IntKind.u64.wrap (k : Int) = (k : Int) := by rw [IntKind.wrap_u64]; omega
      have e2 : ((word : Int) / 2 ^ k).tmod 2 = ((word / 2 ^ k % 2 : Nat) : Int) := by
        rw [show ((word : Int) / 2 ^ k) = ((word / 2 ^ k : Nat) : Int) by simp, Int.tmod_eq_emod_of_nonneg (Int.natCast_nonneg _)]; omega
      by_cases hb : word / 2 ^ k % 2 = 1
      · have q2 : (((word : Int) / 2 ^ k).tmod 2 == 1) = true := by rw [e2, hb]; rfl
        clear e2
        have hm := HL.out.2 k hlt hb
        obtain ⟨m, hme⟩ : ∃ m, m = f + k := ⟨_, rfl⟩
        rw [← hme] at hm
        have em : (f : Int) + (k : Int) = (m : Int) := by omega
        obtain ⟨g, c', e, _⟩ := own_form o2 (by omega)
        injection e with e1 e3 e4
        subst e1
        obtain ⟨x, hx⟩ : ∃ x, x = (turnK l f word k).getD (m / 8) 0 := ⟨_, rfl⟩
        have hln : (turnK l f word k).length = n := by rw [turnK_len, HL.out.1]
        have hc0 : wr.cell? ⟨g, m / 8, none⟩ = some (.int .u8 (x.toNat : Int)) := by
          have := (own_sl' o2).2.1.cell (m / 8) (by simp; omega)
          rw [Nat.zero_add] at this
          rw [this, hx, List.getD_eq_getElem?_getD, List.getElem?_eq_getElem (by omega)]
          simp [by8]
        have hf0 := o2.frozenAt (m / 8)
        have j1 : (0 : Int) ≤ (m : Int) / 8 := by omega
        have j2 : (m : Int) / 8 < (n : Int) := by omega
        have j3 : ((m : Int) / 8).toNat = m / 8 := by omega
        have j4 : IntKind.u64.wrap ((m : Int) % 8) = ((m % 8 : Nat) : Int) := by rw [IntKind.wrap_u64]; omega
        have HX := Lib.hid (And.intro hme (And.intro hx (And.intro o2 hb2)))
        clear hme hx o2 hb2
        have hv : bits .xor .u8 (x.toNat : Int) (2 ^ (m % 8) % 256) = ((x ^^^ UInt8.ofNat (2 ^ (m % 8))).toNat : Int) := by
          have h2 : 2 ^ (m % 8) < 256 := Nat.lt_of_le_of_lt (Nat.pow_le_pow_right (by decide) (show m % 8 ≤ 7 by omega)) (by decide)
          have h3 : ((2 : Int) ^ (m % 8) % 256) = ((UInt8.ofNat (2 ^ (m % 8))).toNat : Int) := by
            obtain ⟨q, hq⟩ : ∃ q, q = 2 ^ (m % 8) := ⟨_, rfl⟩
            have h5 : ((2 : Int) ^ (m % 8)) = (q : Int) := by rw [hq]; simp
            rw [UInt8.toNat_ofNat', h5, ← hq]
            rw [← hq] at h2
            rw [Nat.mod_eq_of_lt h2]; omega
          rw [h3, bits_xor8 _ _ (UInt8.toNat_lt _) (UInt8.toNat_lt _), UInt8.toNat_xor]
        have HN : Hid ((wr.setCell ⟨g, m / 8, none⟩ (.int .u8 (bits .xor .u8 (x.toNat : Int) (2 ^ (m % 8) % 256)))).ownsRow w.heap.size 5 1 (.slice (some ⟨g, 0, none⟩) n c1) n ((turnK l f word (k + 1)).map by8) ∧ Below w.heap.size w (wr.setCell ⟨g, m / 8, none⟩ (.int .u8 (bits .xor .u8 (x.toNat : Int) (2 ^ (m % 8) % 256))))) := Lib.hid (by
          refine ⟨?_, HX.out.2.2.2.setCell (p := ⟨g, m / 8, none⟩) (HX.out.2.2.1.lt g rfl).1 _⟩
          rw [hv, turnK, if_pos hb, turn1, ← HX.out.1, ← HX.out.2.1, List.map_set]
          exact (HX.out.2.2.1.stored (m / 8) (by8 (x ^^^ UInt8.ofNat (2 ^ (m % 8))))).1)
        clear hv HX
        go_wp2
        first | go_roundw | refine ⟨?rel, ?measure⟩
        case rel => exact ⟨k + 1, by omega, by go_num, HN.out.1, HN.out.2⟩
        case measure => simp [intOf]; omega
      · have q2 : (((word : Int) / 2 ^ k).tmod 2 == 1) = false := by rw [e2, show word / 2 ^ k % 2 = 0 by omega]; rfl
        clear e2
        have HN : Hid (wr.ownsRow w.heap.size 5 1 (.slice A1 n c1) n ((turnK l f word (k + 1)).map by8) ∧ Below w.heap.size w wr) := Lib.hid (by
          rw [turnK, if_neg hb]; exact ⟨o2, hb2⟩)
        clear o2 hb2
        go_wp2
        first | go_roundw | refine ⟨?rel, ?measure⟩
        case rel => exact ⟨k + 1, by omega, by go_num, HN.out.1, HN.out.2⟩
        case measure => simp [intOf]; omega
    · have HK := Lib.hid (show k = 32 by omega)
      rw [HK.out] at o2
      have HN := Lib.hid (And.intro o2 hb2)
      clear o2 hb2
      go_wp2
      go_ret
      exact ⟨_, rfl, HN.out.1, HN.out.2⟩
end Go.Proofs.Ytpjmbhhfpoamnaa
