import Derived.Test.YtpjmbhhfpoamnaaFrWhole
set_option linter.unusedVariables false
set_option linter.unusedSimpArgs false
namespace Go.Proofs.Ytpjmbhhfpoamnaa
open Go.RowKit
theorem heap_new2 (w : World) (o1 o2 : Obj) : ((w.alloc o1).alloc o2).heap[w.heap.size + 1]? = some o2 := by
  have := heap_alloc_new (w.alloc o1) o2
  rwa [show (w.alloc o1).heap.size = w.heap.size + 1 by simp] at this
theorem heap_new1 (w : World) (o1 o2 : Obj) : ((w.alloc o1).alloc o2).heap[w.heap.size]? = some o1 := heap_below (heap_alloc_new w o1) ((Below.refl _ _).alloc (Nat.le_refl _) _)
/-- Join of one list -/
theorem Join1 (w : World) {A : Option Addr} {n c : Nat} {l : List UInt8} (h : Sl w 1 A n c (l.map by8)) (hn : n ≤ 140737488351232) (z : Nat) (hz : z = w.heap.size) :
    Calls Try.prog 89 #[.slice (some ⟨z, 0, none⟩) 1 1] (w.alloc (.cells #[.slice A n c] 22)) fun e w' => ∃ g, e = .returned (.slice (some ⟨g, 0, none⟩) n n) ∧ w'.ownsRow w.heap.size 5 1 (.slice (some ⟨g, 0, none⟩) n n) n (l.map by8) ∧ Below w.heap.size w w' := by
  have hl : l.length = n := by simpa using h.len
  have hs := Sls.fresh w [.slice A n c] [l] 22 1 rfl rfl (by decide) (fun i r hi => by
    match i, hi with
    | 0, hi => obtain rfl := Option.some.inj hi; exact ⟨_, _, _, rfl, h, hn⟩)
  have ef : [l].flatten = l := by simp
  have hj := Join_any _ hs (by rw [ef]; omega)
  rw [← hz, ef, hl] at hj
  exact hj.mono fun e w' ⟨he, ho, hb⟩ => ⟨_, he, own_mono ho (by simp), bthen ((Below.refl _ w).alloc (Nat.le_refl _) _) hb⟩
/-- Join of three lists -/
theorem Join3 (w : World) {a0 a1 a2 : Option Addr} {m0 c0 m1 c1 m2 c2 : Nat} {l0 l1 l2 : List UInt8} (h0 : Sl w 1 a0 m0 c0 (l0.map by8)) (h1 : Sl w 1 a1 m1 c1 (l1.map by8)) (h2 : Sl w 1 a2 m2 c2 (l2.map by8)) (hn : m0 + m1 + m2 ≤ 140737488351232) (z : Nat) (hz : z = w.heap.size) (N : Nat) (hN : N = m0 + m1 + m2) :
    Calls Try.prog 89 #[.slice (some ⟨z, 0, none⟩) 3 3] (w.alloc (.cells #[.slice a0 m0 c0, .slice a1 m1 c1, .slice a2 m2 c2] 22)) fun e w' => ∃ g, e = .returned (.slice (some ⟨g, 0, none⟩) N N) ∧ w'.ownsRow w.heap.size 5 1 (.slice (some ⟨g, 0, none⟩) N N) N ((l0 ++ (l1 ++ l2)).map by8) ∧ Below w.heap.size w w' := by
  have e0 : l0.length = m0 := by simpa using h0.len
  have e1 : l1.length = m1 := by simpa using h1.len
  have e2 : l2.length = m2 := by simpa using h2.len
  have hs := Sls.fresh w [.slice a0 m0 c0, .slice a1 m1 c1, .slice a2 m2 c2] [l0, l1, l2] 22 3 rfl rfl (by decide) (fun i r hi => by
    match i, hi with
    | 0, hi => obtain rfl := Option.some.inj hi; exact ⟨_, _, _, rfl, h0, by omega⟩
    | 1, hi => obtain rfl := Option.some.inj hi; exact ⟨_, _, _, rfl, h1, by omega⟩
    | 2, hi => obtain rfl := Option.some.inj hi; exact ⟨_, _, _, rfl, h2, by omega⟩)
  have ef : [l0, l1, l2].flatten = l0 ++ (l1 ++ l2) := by simp
  have el : (l0 ++ (l1 ++ l2)).length = N := by simp; omega
  have hj := Join_any _ hs (by rw [ef, el]; omega)
  rw [← hz, ef, el] at hj
  exact hj.mono fun e w' ⟨he, ho, hb⟩ => ⟨_, he, own_mono ho (by simp), bthen ((Below.refl _ w).alloc (Nat.le_refl _) _) hb⟩
set_option maxRecDepth 100000 in
set_option maxHeartbeats 1600000 in
/-- a frame's payload in memory of its own -/
theorem fown_any (w : World) {A : Option Addr} {n c : Nat} {l : List UInt8} (h : Sl w 1 A n c (l.map by8)) (k : Nat) (hn : n ≤ 140737488351232) :
    Calls Try.prog 93 #[.agg #[.int .u8 k, .slice A n c]] w fun e w' => ∃ g, e = .returned (.agg #[.int .u8 k, .slice (some ⟨g, 0, none⟩) n n]) ∧ w'.ownsRow w.heap.size 5 1 (.slice (some ⟨g, 0, none⟩) n n) n (l.map by8) ∧ Below w.heap.size w w' := by
  have hl : l.length = n := by simpa using h.len
  have hc := h.le; have hcm := h.max
  have hB : Below w.heap.size w ((w.alloc (.cells #[.int .u8 k, .slice A n c] 70)).alloc (.cells #[.int .u8 0, .slice none 0 0] 70)) := ((Below.refl _ w).alloc (Nat.le_refl _) _).alloc (by simp) _
  have HA := Lib.hid (And.intro (h.below hB) hB)
  clear hl h hB
  go_enter Try.func93, Try.ntmps93
  go_wp2_with (first | (at_builtin; refine Stopped.out ?_) | (at_make; refine Stopped.out ?_))
  refine (Join1 _ HA.out.1 hn _ (by simp)).mono ?_
  rintro e w1 ⟨g, rfl, o1, hb1⟩
  have b0 := heap_below (heap_new1 w (.cells #[.int .u8 k, .slice A n c] 70) (.cells #[.int .u8 0, .slice none 0 0] 70)) hb1
  have b1 := heap_below (heap_new2 w (.cells #[.int .u8 k, .slice A n c] 70) (.cells #[.int .u8 0, .slice none 0 0] 70)) hb1
  have HO := Lib.hid (And.intro o1 (And.intro hb1 (And.intro b0 b1)))
  have c0 := box_cell b0 0 _ rfl
  have c1 := box_cell b0 1 _ rfl
  have d0 := box_cell b1 0 _ rfl
  have d1 := box_cell b1 1 _ rfl
  have f1 := box_free b0 1
  have k0 := box_free b1 0
  have k1 := box_free b1 1
  clear o1 hb1 b0 b1
  go_wp2
  have b1' := ((Keep.refl [w.heap.size] w1).setCell (p := ⟨w.heap.size, 1, none⟩) (.inl (by simp)) (.slice (some ⟨g, 0, none⟩) n n)).heap HO.out.2.2.2 (by simp)
  have b2 := heap_setCell_same _ (w.heap.size + 1) 1 _ _ (.slice (some ⟨g, 0, none⟩) n n) (heap_setCell_same _ (w.heap.size + 1) 0 _ _ (.int .u8 (k : Int)) b1')
  have kk : Keep [w.heap.size, w.heap.size + 1] w1 (((w1.setCell ⟨w.heap.size, 1, none⟩ (.slice (some ⟨g, 0, none⟩) n n)).setCell ⟨w.heap.size + 1, 0, none⟩ (.int .u8 (k : Int))).setCell ⟨w.heap.size + 1, 1, none⟩ (.slice (some ⟨g, 0, none⟩) n n)) :=
    (((Keep.refl _ w1).setCell (p := ⟨w.heap.size, 1, none⟩) (.inl (by simp)) _).setCell (p := ⟨w.heap.size + 1, 0, none⟩) (.inl (by simp)) _).setCell (p := ⟨w.heap.size + 1, 1, none⟩) (.inl (by simp)) _
  refine bodyPost_ret (results_cell_row (P := Try.prog) rfl _ _ _ _ _ _ _ (by rfl) b2 Try.underlying70 rfl (by kernel_rfl)) rfl ?_
  have hb3 := bthen HA.out.2 HO.out.2.1
  refine ⟨g, by simp, own_mono (kk.own HO.out.1 (fun j hj hx => ?_)) HA.out.2.size, kk.below hb3 hb3.size (fun x hx => by simp at hx; omega)⟩
  have h1 := (HO.out.1.lt j hj).1
  simp at h1 hx
  omega
/-- how a frame is told: its payload in memory of its own -/
def DecPost (w : World) (R : UInt8 × List UInt8 × Int × Nat) (e : Ending) (w' : World) : Prop :=
  ∃ g, e = .returned (.tuple #[.agg #[.int .u8 (R.1.toNat : Int), .slice (some ⟨g, 0, none⟩) R.2.1.length R.2.1.length], .int .i64 R.2.2.1, .int .i64 (R.2.2.2 : Nat)]) ∧
    w'.ownsRow w.heap.size 5 1 (.slice (some ⟨g, 0, none⟩) R.2.1.length R.2.1.length) R.2.1.length (R.2.1.map by8) ∧ Below w.heap.size w w'
theorem wholeF_len (l : List UInt8) (at_ : Int) (hn : l.length ≤ 140737488351232) : (wholeF l at_).2.1.length ≤ 140737488351232 := by
  unfold wholeF
  split
  · simp
  · unfold wholeD
    repeat' split
    all_goals first | (simp; done) | (simp; omega)
set_option maxRecDepth 100000 in
set_option maxHeartbeats 1600000 in
theorem Decode_any (w : World) {A : Option Addr} {n c : Nat} {l : List UInt8} (h : Sl w 1 A n c (l.map by8)) (at_ : Int) (hn : n ≤ 140737488351232) :
    Calls Try.prog 46 #[.slice A n c, .int .i64 at_] w (DecPost w (wholeF l at_)) := by
  have hl : l.length = n := by simpa using h.len
  have HLn := Lib.hid (wholeF_len l at_ (by omega))
  have hB : Below w.heap.size w (w.alloc (.cells #[.int .u8 0, .slice none 0 0] 70)) := (Below.refl _ w).alloc (Nat.le_refl _) _
  have HA := Lib.hid (And.intro hB (whole_any _ (h.below hB) at_ hn))
  have HW := heap_alloc_new w (.cells #[.int .u8 0, .slice none 0 0] 70)
  obtain ⟨R, hR⟩ : ∃ R, R = wholeF l at_ := ⟨_, rfl⟩
  rw [← hR] at HA HLn ⊢
  obtain ⟨k, pl, nx, tl⟩ := R
  clear hR hB h hl
  go_enter Try.func46, Try.ntmps46
  go_wp2_with (first | (at_builtin; refine Stopped.out ?_) | (at_make; refine Stopped.out ?_))
  refine HA.out.2.mono ?_
  rintro e w1 ⟨P, pc, rfl, sp, hb1⟩
  simp only at sp HLn
  have bw := heap_below HW hb1
  obtain ⟨m, hm⟩ : ∃ m, m = pl.length := ⟨_, rfl⟩
  simp only
  rw [← hm] at sp HLn ⊢
  have HM := Lib.hid hm
  clear hm HW
  have HB := Lib.hid (bthen HA.out.1 hb1)
  have HS := Lib.hid (And.intro sp bw)
  clear sp bw hb1
  go_wp2_with (first | (at_builtin; refine Stopped.out ?_) | (at_make; refine Stopped.out ?_))
  refine (fown_any _ (HS.out.1.below ((Below.refl _ _).alloc (Nat.le_refl _) _)) k.toNat HLn.out).mono ?_
  rintro e w2 ⟨g, rfl, o2, hb2⟩
  have hb2' : Below w1.heap.size w1 w2 := bthen ((Below.refl _ _).alloc (Nat.le_refl _) _) hb2
  have b2 := heap_below HS.out.2 hb2'
  have d0 := box_cell b2 0 _ rfl
  have d1 := box_cell b2 1 _ rfl
  have k0 := box_free b2 0
  have k1 := box_free b2 1
  have HZ := Lib.hid (And.intro b2 (And.intro (own_mono o2 (show w.heap.size + 1 ≤ _ by have := HB.out.size; have := hb2'.size; have := cell_lt (box_cell HS.out.2 0 _ rfl); simp; omega)) (bthen HB.out hb2')))
  clear b2 o2 hb2 hb2'
  go_wp2
  have b3 := heap_setCell_same _ w.heap.size 1 _ _ (.slice (some ⟨g, 0, none⟩) m m) (heap_setCell_same w2 w.heap.size 0 _ _ (.int .u8 (k.toNat : Int)) HZ.out.1)
  have kk : Keep [w.heap.size] w2 ((w2.setCell ⟨w.heap.size, 0, none⟩ (.int .u8 (k.toNat : Int))).setCell ⟨w.heap.size, 1, none⟩ (.slice (some ⟨g, 0, none⟩) m m)) :=
    ((Keep.refl _ w2).setCell (p := ⟨w.heap.size, 0, none⟩) (.inl (by simp)) _).setCell (p := ⟨w.heap.size, 1, none⟩) (.inl (by simp)) _
  refine bodyPost_ret (results_k3 (P := Try.prog) rfl _ _ _ _ _ _ _ (by rfl) b3 Try.underlying70 rfl (by kernel_rfl)) rfl ?_
  refine ⟨g, ?_, ?_, kk.below HZ.out.2.2 HZ.out.2.2.size (fun x hx => by simp at hx; omega)⟩
  · simp only
    rw [← HM.out]
    simp
  · simp only
    rw [← HM.out]
    refine own_mono (kk.own HZ.out.2.1 (fun j hj hx => ?_)) (Nat.le_succ _)
    have h1 := (HZ.out.2.1.lt j hj).1
    simp at hx
    omega
theorem stBE32_be4 (x : Nat) : stBE32 x 4 = be4 x := by simp [stBE32, be4, List.range, List.range.loop]
theorem stLE32_le4 (x : Nat) : stLE32 x 4 = le4 x := by simp [stLE32, le4, List.range, List.range.loop]
theorem Encode_no (w : World) (k : Nat) {A : Option Addr} {n c : Nat} (hn : 262144 < n) :
    Calls Try.prog 45 #[.int .u8 k, .slice A n c] w fun e w' => e = .returned (.tuple #[.slice none 0 0, .bool false]) ∧ w = w' := by
  have i1 : (262144 : Int) < (n : Int) := by omega
  clear hn
  go_enter Try.func45, Try.ntmps45
  go_wp2
  go_ret2
  exact ⟨rfl, rfl⟩
set_option maxRecDepth 100000 in
set_option maxHeartbeats 1600000 in
theorem Encode_yes (w : World) (k : UInt8) {A : Option Addr} {n c : Nat} {l : List UInt8} (h : Sl w 1 A n c (l.map by8)) (hn : n ≤ 262144) :
    Calls Try.prog 45 #[.int .u8 (k.toNat : Int), .slice A n c] w fun e w' => ∃ g, e = .returned (.tuple #[.slice (some ⟨g, 0, none⟩) (n + 10) (n + 10), .bool true]) ∧ w'.ownsRow w.heap.size 5 1 (.slice (some ⟨g, 0, none⟩) (n + 10) (n + 10)) (n + 10) ((frB k l).map by8) ∧ Below w.heap.size w w' := by
  have hl : l.length = n := by simpa using h.len
  have hc := h.le; have hcm := h.max
  have i1 : decide ((262144 : Int) < (n : Int)) = false := decide_eq_false (by omega)
  have i2 : IntKind.u32.wrap (n : Int) = (n : Int) := by rw [IntKind.wrap_u32]; omega
  have sk := Sl.fresh w [.int .u8 (k.toNat : Int)] 5 1 1 rfl (by decide)
  have hbk : Below w.heap.size w (w.alloc (.cells #[.int .u8 (k.toNat : Int)] 5)) := (Below.refl _ _).alloc (Nat.le_refl _) _
  have HL := Lib.hid (And.intro hl (And.intro sk (And.intro hbk (h.below hbk))))
  clear hl h sk hbk
  go_enter Try.func45, Try.ntmps45
  go_wp2_with (first | (at_builtin; refine Stopped.out ?_) | (at_make; refine Stopped.out ?_))
  refine (StoreBE32 _ n (by omega)).mono ?_
  rintro e w1 ⟨rfl, o1, hb1⟩
  rw [stBE32_be4] at o1
  have s0 := HL.out.2.1.below hb1
  have s1 := (own_sl' o1).2.1
  have s2 := HL.out.2.2.2.below hb1
  have e0 : [Value.int .u8 (k.toNat : Int)] = ([k] : List UInt8).map by8 := rfl
  rw [e0] at s0
  have HJ := Lib.hid (Join3 w1 s0 s1 s2 (by omega) _ rfl (n + 5) (by omega))
  have HB := Lib.hid (bthen HL.out.2.2.1 hb1)
  obtain ⟨z1, hz1⟩ : ∃ z, z = (w.alloc (.cells #[.int .u8 (k.toNat : Int)] 5)).heap.size := ⟨_, rfl⟩
  rw [← hz1] at HJ ⊢
  clear s0 s1 s2 o1 hb1 e0 hz1
  go_wp2_with (first | (at_builtin; refine Stopped.out ?_) | (at_make; refine Stopped.out ?_))
  refine HJ.out.mono ?_
  rintro e w2 ⟨g2, rfl, o2, hb2⟩
  have e2 : [k] ++ (be4 n ++ l) = frS k l := by rw [frS, HL.out.1]; rfl
  rw [e2] at o2
  have HO := Lib.hid (And.intro o2 (bthen HB.out hb2))
  clear HJ hb2 e2 o2
  have sk := Sl.fresh w2 [.int .u8 165] 5 1 1 rfl (by decide)
  have hbk : Below w2.heap.size w2 (w2.alloc (.cells #[.int .u8 165] 5)) := (Below.refl _ _).alloc (Nat.le_refl _) _
  have HK := Lib.hid (And.intro sk (And.intro hbk (own_below HO.out.1 hbk)))
  clear sk hbk
  go_wp2_with (first | (at_builtin; refine Stopped.out ?_) | (at_make; refine Stopped.out ?_))
  refine (Sum_any _ (own_sl' HK.out.2.2).2.1).mono ?_
  rintro e w3 ⟨rfl, rfl⟩
  go_wp2_with (first | (at_builtin; refine Stopped.out ?_) | (at_make; refine Stopped.out ?_))
  refine (StoreLE32 _ (crcSum (frS k l)).toNat (crcSum (frS k l)).isLt).mono ?_
  rintro e w4 ⟨rfl, o4, hb4⟩
  rw [stLE32_le4] at o4
  have s0 := HK.out.1.below hb4
  have s1 := (own_sl' (own_below HK.out.2.2 hb4)).2.1
  have s2 := (own_sl' o4).2.1
  have e0 : [Value.int .u8 165] = ([0xa5] : List UInt8).map by8 := rfl
  rw [e0] at s0
  have HJ := Lib.hid (Join3 w4 s0 s1 s2 (by omega) _ rfl (n + 10) (by omega))
  have HB4 := Lib.hid (bthen HO.out.2 (bthen HK.out.2.1 hb4))
  obtain ⟨z2, hz2⟩ : ∃ z, z = (w2.alloc (.cells #[.int .u8 165] 5)).heap.size := ⟨_, rfl⟩
  rw [← hz2] at HJ ⊢
  clear s0 s1 s2 o4 hb4 e0 hz2
  go_wp2_with (first | (at_builtin; refine Stopped.out ?_) | (at_make; refine Stopped.out ?_))
  refine HJ.out.mono ?_
  rintro e w5 ⟨g5, rfl, o5, hb5⟩
  have e2 : [0xa5] ++ (frS k l ++ le4 (crcSum (frS k l)).toNat) = frB k l := rfl
  rw [e2] at o5
  have HF := Lib.hid (And.intro (own_mono o5 HB4.out.size) (bthen HB4.out hb5))
  clear o5 hb5 HJ
  go_wp2
  go_ret2
  exact ⟨g5, rfl, HF.out.1, HF.out.2⟩
end Go.Proofs.Ytpjmbhhfpoamnaa
