import Derived.Test.YtpjmbhhfpoamnaaFrSp
set_option linter.unusedVariables false
set_option linter.unusedSimpArgs false
namespace Go.Proofs.Ytpjmbhhfpoamnaa
open Go.RowKit
theorem wholeF_zero (l : List UInt8) : (wholeF l 0).2.2.2 = (wholeD l).2.2.2 := by
  unfold wholeF
  rw [if_neg (by omega), show ((0 : Int)).toNat = 0 by rfl, List.drop_zero]
set_option maxRecDepth 100000 in
set_option maxHeartbeats 3200000 in
theorem FrameSpoilt_walk (w : World) (k : Nat) (hk : k < 256) {A B : Option Addr} {n c m d : Nat} {l r : List UInt8} (ha : Sl w 1 A n c (l.map by8)) (f : Int) (word : Nat) (hw : word < 4294967296) (hb : Sl w 1 B m d (r.map by8)) :
    Calls Try.prog 12 #[.int .u8 k, .slice A n c, .int .i64 f, .int .u32 word, .slice B m d] w fun e w' => e = .returned (.bool true) ∧ Below w.heap.size w w' := by
  have hl : l.length = n := by simpa using ha.len
  have n1 := ha.le; have n2 := ha.max; have m1 := hb.le; have m2 := hb.max
  by_cases h0 : 65536 < n
  · have i0 : (65536 : Int) < (n : Int) := by omega
    go_enter Try.func12, Try.ntmps12
    go_wp2
    go_ret
    exact ⟨rfl, Below.refl _ _⟩
  have d0 : decide ((65536 : Int) < (n : Int)) = false := decide_eq_false (by omega)
  by_cases h1 : 65536 < m
  · have i0 : (65536 : Int) < (m : Int) := by omega
    clear h0
    go_enter Try.func12, Try.ntmps12
    go_wp2
    go_ret
    exact ⟨rfl, Below.refl _ _⟩
  have d1 : decide ((65536 : Int) < (m : Int)) = false := decide_eq_false (by omega)
  have hn : n ≤ 65536 := by omega
  have hm : m ≤ 65536 := by omega
  clear h0 h1
  obtain ⟨kb, hkb⟩ : ∃ kb : UInt8, kb.toNat = k := ⟨UInt8.ofNat k, by simp; omega⟩
  have HL := Lib.hid (And.intro hl (And.intro ha hb))
  have hE := Encode_yes w kb ha (by omega)
  rw [hkb] at hE
  have HEn := Lib.hid hE
  have HKB := Lib.hid hkb
  clear hl ha hb hE hkb
  go_enter Try.func12, Try.ntmps12
  go_wp2_with (first | (at_builtin; refine Stopped.out ?_) | (at_make; refine Stopped.out ?_))
  refine HEn.out.mono ?_
  rintro e w1 ⟨g, rfl, o1, hb1⟩
  have HE := Lib.hid (And.intro o1 hb1)
  have HR : Hid (wholeF (frB kb l) 0 = (kb, l, (n : Int) + 10, 0)) := Lib.hid (by
    have := wholeD_frame kb l [] (by rw [HL.out.1]; omega)
    unfold wholeF
    rw [if_neg (by omega), show ((0 : Int)).toNat = 0 by rfl, List.drop_zero]
    rw [List.append_nil] at this
    rw [this, HL.out.1]
    simp)
  have hD := Decode_any _ (own_sl' o1).2.1 0 (by omega)
  rw [HR.out] at hD
  have HD := Lib.hid hD
  clear hD o1 hb1 HEn
  go_wp2_with (first | (at_builtin; refine Stopped.out ?_) | (at_make; refine Stopped.out ?_))
  refine HD.out.mono ?_
  rintro e w2 ⟨g2, rfl, o2, hb2⟩
  simp only at o2 ⊢
  rw [HL.out.1, HKB.out]
  rw [HL.out.1] at o2
  have hb3 : Below w2.heap.size w2 (w2.alloc (.cells #[.int .u8 (k : Int), .slice (some ⟨g2, 0, none⟩) n n] 70)) := (Below.refl _ _).alloc (Nat.le_refl _) _
  have hB3 : Below w.heap.size w (w2.alloc (.cells #[.int .u8 (k : Int), .slice (some ⟨g2, 0, none⟩) n n] 70)) := bthen HE.out.2 (bthen hb2 hb3)
  have hS := same13 _ (own_sl' (own_below o2 hb3)).2.1 (HL.out.2.1.below hB3)
  rw [decide_eq_true rfl] at hS
  have HS := Lib.hid hS
  have HO := Lib.hid (And.intro (own_below HE.out.1 (bthen hb2 hb3)) hB3)
  clear hS o2 hb2 hb3 hB3 HE HD HR
  go_wp2_with (first | (at_builtin; refine Stopped.out ?_) | (at_make; refine Stopped.out ?_))
  refine HS.out.mono ?_
  rintro e w3 ⟨rfl, hd3⟩
  have HO' := Lib.hid (And.intro (own_below HO.out.1 hd3.below) (bthen HO.out.2 hd3.below))
  clear HS hd3 HO
  by_cases h2 : f < 0
  · have i0 : f < 0 := h2
    go_wp2
    go_ret
    exact ⟨rfl, HO'.out.2⟩
  by_cases h3 : 8 * ((n : Int) + 10) ≤ f
  · have i0 : decide (f < 0) = false := decide_eq_false h2
    clear h2
    go_wp2
    go_ret
    exact ⟨rfl, HO'.out.2⟩
  obtain ⟨f, rfl⟩ : ∃ f' : Nat, f = f' := ⟨f.toNat, by omega⟩
  have i2 : decide ((f : Int) < 0) = false := decide_eq_false (by omega)
  have i3 : decide (8 * ((n : Int) + 10) ≤ (f : Int)) = false := decide_eq_false h3
  have hf8 : f < 8 * (n + 10) := by omega
  clear h2 h3
  have HT := Lib.hid (turned_any _ (own_sl' HO'.out.1).2.1 (by omega) f 1 (by decide) (fun t _ ht => by rw [bit_one] at ht; omega) (by omega))
  go_wp2_with (first | (at_builtin; refine Stopped.out ?_) | (at_make; refine Stopped.out ?_))
  refine HT.out.mono ?_
  rintro e w4 ⟨v4, rfl, o4, hb4⟩
  have HO := Lib.hid (And.intro (own_below HO'.out.1 hb4) (And.intro (bthen HO'.out.2 hb4) (And.intro (own_mono o4 HO'.out.2.size) (HL.out.2.2.below (bthen HO'.out.2 hb4)))))
  have hne : ∀ j, v4.ownBlock = some j → j ≠ g := fun j hj e => by have h1 := (o4.lt j hj).1; have h2 := (HO'.out.1.lt g rfl).2; omega
  have HNE := Lib.hid hne
  clear o4 hb4 HT HO' hne
  have HX : Hid (f / 8 < 2 ∨ 5 < f / 8 → decide ((wholeF (turnK (frB kb l) f 1 32 ++ r) 0).2.2.2 = 0 ∧ 0 < n + 10 + m) = false) := Lib.hid (fun h => by
    have := spoilt_one kb l r (by rw [HL.out.1]; omega) f (by rw [HL.out.1]; exact hf8) h
    rw [wholeF_zero, decide_eq_false]
    exact fun h2 => this h2.1)
  by_cases h4 : f / 8 < 2
  · have i4 : (f : Int) / 8 < 2 := by omega
    have i5 : (f : Int) < 48 := by omega
    have HXx := Lib.hid (HX.out (.inl h4))
    clear h4 HX
    go_wp2_with (first | (at_builtin; refine Stopped.out ?_) | (at_make; refine Stopped.out ?_))
    refine Stopped.mk (ap_own EB rfl _ _ rfl rfl HO.out.2.2.1 rfl HO.out.2.2.2 (u8_one _) (by simp only [maxLen]; omega) (by omega) HO.out.2.1.size ?_)
    intro v5 w5 o5 hg5 _
    rw [← List.map_append] at o5
    have hb5 := HO.out.2.1.grown hg5 HO.out.2.1.size (fun k hk => (HO.out.2.2.1.lt k hk).1)
    obtain ⟨A5, c5, rfl, s5, _⟩ := own_sl o5
    have hT := taken_any _ s5 (by omega)
    rw [HXx.out] at hT
    have HT := Lib.hid hT
    have HB := Lib.hid hb5
    clear o5 hg5 hb5 s5 hT HXx
    go_wp2_with (first | (at_builtin; refine Stopped.out ?_) | (at_make; refine Stopped.out ?_))
    refine HT.out.mono ?_
    rintro e w6 ⟨rfl, hb6⟩
    have HZ := Lib.hid (bthen HB.out hb6)
    clear hb6 HB HT
    by_cases h5 : word = 0
    · subst h5
      go_wp2
      go_ret
      exact ⟨rfl, HZ.out⟩
    · have i6 : ((word : Int) == 0) = false := by simp; omega
      go_wp2
      go_ret
      exact ⟨rfl, HZ.out⟩
  · have i4 : decide ((f : Int) / 8 < 2) = false := decide_eq_false (by omega)
    by_cases h5 : 5 < f / 8
    · have i5 : (5 : Int) < (f : Int) / 8 := by omega
      have i6 : decide ((f : Int) < 48) = false := decide_eq_false (by omega)
      have h48 : 48 ≤ f := by omega
      have HXx := Lib.hid (HX.out (.inr h5))
      clear h4 h5 HX
      go_wp2_with (first | (at_builtin; refine Stopped.out ?_) | (at_make; refine Stopped.out ?_))
      refine Stopped.mk (ap_own EB rfl _ _ rfl rfl HO.out.2.2.1 rfl HO.out.2.2.2 (u8_one _) (by simp only [maxLen]; omega) (by omega) HO.out.2.1.size ?_)
      intro v5 w5 o5 hg5 _
      rw [← List.map_append] at o5
      have hb5 := HO.out.2.1.grown hg5 HO.out.2.1.size (fun k hk => (HO.out.2.2.1.lt k hk).1)
      obtain ⟨A5, c5, rfl, s5, _⟩ := own_sl o5
      have hT := taken_any _ s5 (by omega)
      rw [HXx.out] at hT
      have HT := Lib.hid hT
      have HB := Lib.hid hb5
      have hbw5 : Keep v4.ownBlock.toList w4 w5 := (Keep.refl _ w4).grown hg5 (fun j hj => .inl (by have hj' : v4.ownBlock = some j := hj; simp [hj']))
      have hfr5 := hbw5.own HO.out.1 (fun j hj hx => by obtain rfl := Option.some.inj hj; exact HNE.out g (by simpa using hx) rfl)
      clear o5 hg5 hb5 s5 hT HXx
      go_wp2_with (first | (at_builtin; refine Stopped.out ?_) | (at_make; refine Stopped.out ?_))
      refine HT.out.mono ?_
      rintro e w6 ⟨rfl, hb6⟩
      have HZ := Lib.hid (bthen HB.out hb6)
      have HO2 := Lib.hid (And.intro (own_below hfr5 hb6) (HL.out.2.2.below HZ.out))
      clear hb6 HB HT hbw5 hfr5 HO
      by_cases h6 : word = 0
      · subst h6
        go_wp2
        go_ret
        exact ⟨rfl, HZ.out⟩
      have i7 : ((word : Int) == 0) = false := by simp; omega
      by_cases h7 : 8 * (n + 10) ≤ f + 31
      · have i8 : 8 * ((n : Int) + 10) ≤ (f : Int) + 31 := by omega
        clear h7
        go_wp2
        go_ret
        exact ⟨rfl, HZ.out⟩
      have i8 : decide (8 * ((n : Int) + 10) ≤ (f : Int) + 31) = false := decide_eq_false (by omega)
      have HXy : Hid (decide ((wholeF (turnK (frB kb l) f word 32 ++ r) 0).2.2.2 = 0 ∧ 0 < n + 10 + m) = false) := Lib.hid (by
        have := spoilt_word kb l r (by rw [HL.out.1]; omega) f word h6 hw h48 (by rw [HL.out.1]; omega)
        rw [wholeF_zero, decide_eq_false]
        exact fun h2 => this h2.1)
      have HT2 := Lib.hid (turned_any _ (own_sl' HO2.out.1).2.1 (by omega) f word hw (fun t ht _ => by omega) (by omega))
      clear h6 h7
      go_wp2_with (first | (at_builtin; refine Stopped.out ?_) | (at_make; refine Stopped.out ?_))
      refine HT2.out.mono ?_
      rintro e w7 ⟨v7, rfl, o7, hb7⟩
      have HP := Lib.hid (And.intro (bthen HZ.out hb7) (And.intro (own_mono o7 HZ.out.size) (HO2.out.2.below hb7)))
      clear o7 hb7 HT2 HO2
      go_wp2_with (first | (at_builtin; refine Stopped.out ?_) | (at_make; refine Stopped.out ?_))
      refine Stopped.mk (ap_own EB rfl _ _ rfl rfl HP.out.2.1 rfl HP.out.2.2 (u8_one _) (by simp only [maxLen]; omega) (by omega) HP.out.1.size ?_)
      intro v8 w8 o8 hg8 _
      rw [← List.map_append] at o8
      have hb8 := HP.out.1.grown hg8 HP.out.1.size (fun k hk => (HP.out.2.1.lt k hk).1)
      obtain ⟨A8, c8, rfl, s8, _⟩ := own_sl o8
      have hT := taken_any _ s8 (by omega)
      rw [HXy.out] at hT
      have HT := Lib.hid hT
      have HB := Lib.hid hb8
      clear o8 hg8 hb8 s8 hT HXy HP
      go_wp2_with (first | (at_builtin; refine Stopped.out ?_) | (at_make; refine Stopped.out ?_))
      refine HT.out.mono ?_
      rintro e w9 ⟨rfl, hb9⟩
      have HZ2 := Lib.hid (bthen HB.out hb9)
      clear hb9 HB HT
      go_wp2
      go_ret
      exact ⟨rfl, HZ2.out⟩
    · have i5 : decide ((5 : Int) < (f : Int) / 8) = false := decide_eq_false (by omega)
      have i6 : (f : Int) < 48 := by omega
      clear h4 h5 HX
      by_cases h6 : word = 0
      · subst h6
        go_wp2
        go_ret
        exact ⟨rfl, HO.out.2.1⟩
      · have i7 : ((word : Int) == 0) = false := by simp; omega
        go_wp2
        go_ret
        exact ⟨rfl, HO.out.2.1⟩
end Go.Proofs.Ytpjmbhhfpoamnaa
