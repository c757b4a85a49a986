import Derived.Test.YtikjhandhgfohaaP33a
import Derived.Test.YtikjhandhgfohaaWr
import Derived.Test.YtikjhandhgfohaaHeads
set_option linter.unusedVariables false
set_option linter.unusedSimpArgs false
namespace Go.Proofs.Ytikjhandhgfohaa
open Go.RowKit
def tagL (t : Nat → Nat) : List UInt8 := [UInt8.ofNat (t 0), UInt8.ofNat (t 1), UInt8.ofNat (t 2), UInt8.ofNat (t 3), UInt8.ofNat (t 4), UInt8.ofNat (t 5), UInt8.ofNat (t 6), UInt8.ofNat (t 7)]
/-- the bytes of a piece -/
def encL (x : Nat) (nd : Int) (t : Nat → Nat) (l : List UInt8) : List UInt8 := headL 12 ++ [UInt8.ofNat x] ++ [UInt8.ofNat nd.toNat] ++ tagL t ++ (shortL l.length ++ l)
def encR (x : Nat) (nd : Int) (t : Nat → Nat) (l : List UInt8) : List UInt8 := if rgP x nd l.length then encL x nd t l else []
def encE (x : Nat) (nd : Int) (n : Nat) : Nat := if rgP x nd n then 0 else 2
theorem ofNat_by8 {k : Nat} (h : k < 256) : by8 (UInt8.ofNat k) = .int .u8 (k : Int) := by
  simp [by8, Nat.mod_eq_of_lt h]
theorem tagL_by8 {t : Nat → Nat} (h : ∀ i, t i < 256) : (tagL t).map by8 = [.int .u8 (t 0), .int .u8 (t 1), .int .u8 (t 2), .int .u8 (t 3), .int .u8 (t 4), .int .u8 (t 5), .int .u8 (t 6), .int .u8 (t 7)] := by
  simp only [tagL, List.map_cons, List.map_nil, ofNat_by8 (h _)]
/-- the eight cells of a piece's mark -/
theorem tag_sl {w : World} {b : Nat} {x : Nat} {nd : Int} {t : Nat → Nat} {A : Option Addr} {n c T : Nat} (h : w.heap[b]? = some (.cells (pcA x nd t A n c) T (0, 0))) (ht : ∀ i, t i < 256) : Sl w 1 (some ⟨b, 2, none⟩) 8 8 ((tagL t).map by8) := by
  rw [tagL_by8 ht]
  refine ⟨by simp, Nat.le_refl _, by omega, (fun e => by cases e), fun ad e hp => ?_⟩
  obtain rfl := Option.some.inj e
  refine ⟨rfl, fun i hi => ?_⟩
  simp only [Addr.add] at *
  refine box_cell h (2 + i) _ ?_
  have hi8 : i < 8 := by simpa using hi
  revert hi
  refine bound8 (Q := fun i => ∀ hi, (pcA x nd t A n c)[2 + i]? = some ([Value.int .u8 (t 0), .int .u8 (t 1), .int .u8 (t 2), .int .u8 (t 3), .int .u8 (t 4), .int .u8 (t 5), .int .u8 (t 6), .int .u8 (t 7)][i]'hi)) ?_ i hi8
  exact ⟨fun _ => rfl, fun _ => rfl, fun _ => rfl, fun _ => rfl, fun _ => rfl, fun _ => rfl, fun _ => rfl, fun _ => rfl⟩
set_option maxRecDepth 100000 in
set_option maxHeartbeats 1600000 in
theorem enc33 (w : World) (x : Nat) (hx : x < 256) (nd : Int) (t : Nat → Nat) (ht : ∀ i, t i < 256) {A : Option Addr} {n c : Nat} {l : List UInt8} (hs : Sl w 1 A n c (l.map by8)) :
    Calls Try.prog 5 #[.agg (pcA x nd t A n c)] w fun e w' => (∃ v, e = .returned (.tuple #[v, .int .i64 (encE x nd n : Nat)]) ∧ w'.ownsRow w.heap.size 5 1 v (encR x nd t l).length ((encR x nd t l).map by8)) ∧ Below w.heap.size w w' := by
  have hl : l.length = n := by simpa using hs.len
  obtain ⟨W1, hW1⟩ : ∃ W1, W1 = w.alloc (.cells (pcA x nd t A n c) 25) := ⟨_, rfl⟩
  have hb1 : Below w.heap.size w W1 := by rw [hW1]; exact (Below.refl _ w).alloc (Nat.le_refl _) _
  have x0 : W1.heap[w.heap.size]? = some (.cells (pcA x nd t A n c) 25 (0, 0)) := by rw [hW1]; exact heap_alloc_new w _
  have s1 := hs.below hb1
  have st := tag_sl x0 ht
  have HR := Lib.hid (ranged_any W1 x nd t A n c)
  have HX := Lib.hid x0
  unfold pcA at hW1 x0 ⊢
  have c0 : W1.cell? ⟨w.heap.size, 0, none⟩ = some (.int .u8 x) := box_cell x0 0 _ rfl
  have c1 : W1.cell? ⟨w.heap.size, 1, none⟩ = some (.int .i64 nd) := box_cell x0 1 _ rfl
  have c10 : W1.cell? ⟨w.heap.size, 10, none⟩ = some (.slice A n c) := box_cell x0 10 _ rfl
  have c2 : W1.cell? ⟨w.heap.size, 2, none⟩ = some (.int .u8 (t 0)) := box_cell x0 2 _ rfl
  have c3 : W1.cell? ⟨w.heap.size, 3, none⟩ = some (.int .u8 (t 1)) := box_cell x0 3 _ rfl
  have c4 : W1.cell? ⟨w.heap.size, 4, none⟩ = some (.int .u8 (t 2)) := box_cell x0 4 _ rfl
  have c5 : W1.cell? ⟨w.heap.size, 5, none⟩ = some (.int .u8 (t 3)) := box_cell x0 5 _ rfl
  have c6 : W1.cell? ⟨w.heap.size, 6, none⟩ = some (.int .u8 (t 4)) := box_cell x0 6 _ rfl
  have c7 : W1.cell? ⟨w.heap.size, 7, none⟩ = some (.int .u8 (t 5)) := box_cell x0 7 _ rfl
  have c8 : W1.cell? ⟨w.heap.size, 8, none⟩ = some (.int .u8 (t 6)) := box_cell x0 8 _ rfl
  have c9 : W1.cell? ⟨w.heap.size, 9, none⟩ = some (.int .u8 (t 7)) := box_cell x0 9 _ rfl
  have cs : ∀ i (v : Value), (pcA x nd t A n c)[i]? = some v → W1.cell? ⟨w.heap.size, i, none⟩ = some v := fun i v hv => box_cell HX.out i v hv
  have HRR : Hid ((rgP x nd n ∧ encR x nd t l = encL x nd t l ∧ encE x nd n = 0) ∨ (¬ rgP x nd n ∧ encR x nd t l = [] ∧ encE x nd n = 2)) := Lib.hid (by
    by_cases hr : rgP x nd n
    · exact .inl ⟨hr, by rw [encR, hl, if_pos hr], by rw [encE, if_pos hr]⟩
    · exact .inr ⟨hr, by rw [encR, hl, if_neg hr], by rw [encE, if_neg hr]⟩)
  clear x0 hs
  rcases HRR.out with ⟨hr, e1, e2⟩ | ⟨hr, e1, e2⟩
  · rw [e1, e2]
    have hd : decide (rgP x nd n) = true := decide_eq_true hr
    simp only [hd] at HR
    have hn64 := Lib.hid (And.intro hr hl)
    have hnv : n ≤ 64 := hr.2.2.2.2
    obtain ⟨k, rfl⟩ : ∃ k : Nat, nd = k := Int.eq_ofNat_of_zero_le (by have := hr.2.1; omega)
    have hE : Hid (encL x k t l = headL 12 ++ [UInt8.ofNat x] ++ [UInt8.ofNat k] ++ tagL t ++ (shortL n ++ l)) := Lib.hid (by rw [encL, hl]; rfl)
    have hcv : IntKind.u8.wrap (k : Int) = (k : Int) := by
      have h1 := hr.2.1; have h2 := hr.2.2.1
      rw [IntKind.wrap_u8]; omega
    have hnd : k < 256 := by have h2 := hr.2.2.1; omega
    clear hd e1 e2 HRR hr hl
    go_enter Try.func5, Try.ntmps5
    go_wp2_with (rw [← hW1])
    clear hW1 c2 c3 c4 c5 c6 c7 c8 c9
    refine HR.out.mono ?_
    rintro e w2 ⟨rfl, hb2⟩
    clear HR
    go_wp2_with (first | (at_builtin; refine Stopped.out ?_) | (at_make; refine Stopped.out ?_))
    refine (wr_new W1 w2 hb2).mono ?_
    rintro e w3 ⟨p, rfl, o3⟩
    go_wp2_with fail
    refine (Head_yes _ 12 (by decide) (by decide)).mono ?_
    rintro e w4 ⟨rfl, hd, hb4⟩
    have o4 := o3.below hb4
    go_wp2_with fail
    refine (wr_Fixed o4 hd (by simp)).mono ?_
    rintro e w5 ⟨rfl, o5⟩
    rw [List.nil_append] at o5
    have d0 := cell_below c0 o5.bel
    clear hd hb4 o4 o3 c0
    go_wp2_with fail
    refine (wr_Byte o5 x hx (by simp [headL])).mono ?_
    rintro e w6 ⟨rfl, o6⟩
    have d1 := cell_below c1 o6.bel
    clear o5 c1 d0
    go_wp2_with fail
    refine (wr_Byte o6 k hnd (by simp [headL])).mono ?_
    rintro e w7 ⟨rfl, o7⟩
    have st7 := st.below o7.bel
    clear o6 d1 st
    go_wp2_with fail
    refine (wr_Fixed o7 st7 (by simp [headL])).mono ?_
    rintro e w8 ⟨rfl, o8⟩
    have d10 := cell_below c10 o8.bel
    clear o7 st7 c10
    go_wp2_with fail
    refine (wr_Bytes o8 s1 64 (by omega) (by simp [headL, tagL]; omega)).mono ?_
    rintro e w9 ⟨rfl, o9⟩
    rw [← hE.out] at o9
    clear o8 d10
    go_wp2_with fail
    refine (wr_Done o9 (by rw [hE.out]; have := shortL_len n (by omega); have h2 := hn64.out.2; simp [headL, tagL]; omega)).mono ?_
    rintro e w10 ⟨v, rfl, own, hb10⟩
    clear o9
    go_wp2
    go_ret2
    exact ⟨⟨v, rfl, own_mono own hb1.size⟩, bthen hb1 hb10⟩
  · rw [e1, e2]
    have hd : decide (rgP x nd n) = false := decide_eq_false hr
    simp only [hd] at HR
    clear hd e1 e2 HRR hr hl cs
    go_enter Try.func5, Try.ntmps5
    go_wp2_with (rw [← hW1])
    clear hW1 c2 c3 c4 c5 c6 c7 c8 c9
    refine HR.out.mono ?_
    rintro e w2 ⟨rfl, hb2⟩
    clear HR c0 c1 c10
    go_wp2
    go_ret2
    exact ⟨⟨_, rfl, World.ownsRow_nil ..⟩, bthen hb1 hb2⟩
set_option maxRecDepth 100000 in
set_option maxHeartbeats 1600000 in
theorem refEnc33 (w : World) (x : Nat) (hx : x < 256) (nd : Int) (t : Nat → Nat) (ht : ∀ i, t i < 256) {A : Option Addr} {n c : Nat} {l : List UInt8} (hs : Sl w 1 A n c (l.map by8)) :
    Calls Try.prog 6 #[.agg (pcA x nd t A n c)] w fun e w' => (∃ B m d, e = .returned (.tuple #[.slice B m d, .int .i64 (encE x nd n : Nat)]) ∧ Sl w' 1 B m d ((encR x nd t l).map by8) ∧ ∀ ad, B = some ad → w.heap.size ≤ ad.block) ∧ Below w.heap.size w w' := by
  have hl : l.length = n := by simpa using hs.len
  obtain ⟨W1, hW1⟩ : ∃ W1, W1 = w.alloc (.cells (pcA x nd t A n c) 25) := ⟨_, rfl⟩
  have hb1 : Below w.heap.size w W1 := by rw [hW1]; exact (Below.refl _ w).alloc (Nat.le_refl _) _
  have x0 : W1.heap[w.heap.size]? = some (.cells (pcA x nd t A n c) 25 (0, 0)) := by rw [hW1]; exact heap_alloc_new w _
  have s1 := hs.below hb1
  have st := tag_sl x0 ht
  have HR := Lib.hid (refRanged_any W1 x nd t A n c)
  have HX := Lib.hid x0
  unfold pcA at hW1 x0 ⊢
  have c0 : W1.cell? ⟨w.heap.size, 0, none⟩ = some (.int .u8 x) := box_cell x0 0 _ rfl
  have c1 : W1.cell? ⟨w.heap.size, 1, none⟩ = some (.int .i64 nd) := box_cell x0 1 _ rfl
  have c10 : W1.cell? ⟨w.heap.size, 10, none⟩ = some (.slice A n c) := box_cell x0 10 _ rfl
  have c2 : W1.cell? ⟨w.heap.size, 2, none⟩ = some (.int .u8 (t 0)) := box_cell x0 2 _ rfl
  have c3 : W1.cell? ⟨w.heap.size, 3, none⟩ = some (.int .u8 (t 1)) := box_cell x0 3 _ rfl
  have c4 : W1.cell? ⟨w.heap.size, 4, none⟩ = some (.int .u8 (t 2)) := box_cell x0 4 _ rfl
  have c5 : W1.cell? ⟨w.heap.size, 5, none⟩ = some (.int .u8 (t 3)) := box_cell x0 5 _ rfl
  have c6 : W1.cell? ⟨w.heap.size, 6, none⟩ = some (.int .u8 (t 4)) := box_cell x0 6 _ rfl
  have c7 : W1.cell? ⟨w.heap.size, 7, none⟩ = some (.int .u8 (t 5)) := box_cell x0 7 _ rfl
  have c8 : W1.cell? ⟨w.heap.size, 8, none⟩ = some (.int .u8 (t 6)) := box_cell x0 8 _ rfl
  have c9 : W1.cell? ⟨w.heap.size, 9, none⟩ = some (.int .u8 (t 7)) := box_cell x0 9 _ rfl
  have cs : ∀ i (v : Value), (pcA x nd t A n c)[i]? = some v → W1.cell? ⟨w.heap.size, i, none⟩ = some v := fun i v hv => box_cell HX.out i v hv
  have HRR : Hid ((rgP x nd n ∧ encR x nd t l = encL x nd t l ∧ encE x nd n = 0) ∨ (¬ rgP x nd n ∧ encR x nd t l = [] ∧ encE x nd n = 2)) := Lib.hid (by
    by_cases hr : rgP x nd n
    · exact .inl ⟨hr, by rw [encR, hl, if_pos hr], by rw [encE, if_pos hr]⟩
    · exact .inr ⟨hr, by rw [encR, hl, if_neg hr], by rw [encE, if_neg hr]⟩)
  clear x0 hs
  rcases HRR.out with ⟨hr, e1, e2⟩ | ⟨hr, e1, e2⟩
  · rw [e1, e2]
    have hd : decide (rgP x nd n) = true := decide_eq_true hr
    simp only [hd] at HR
    have hn64 := Lib.hid (And.intro hr hl)
    have hnv : n ≤ 64 := hr.2.2.2.2
    obtain ⟨k, rfl⟩ : ∃ k : Nat, nd = k := Int.eq_ofNat_of_zero_le (by have := hr.2.1; omega)
    have hE : Hid (encL x k t l = headL 12 ++ [UInt8.ofNat x] ++ [UInt8.ofNat k] ++ tagL t ++ (shortL n ++ l)) := Lib.hid (by rw [encL, hl]; rfl)
    have hcv : IntKind.u8.wrap (k : Int) = (k : Int) := by
      have h1 := hr.2.1; have h2 := hr.2.2.1
      rw [IntKind.wrap_u8]; omega
    have hnd : k < 256 := by have h2 := hr.2.2.1; omega
    clear hd e1 e2 HRR hr hl
    go_enter Try.func6, Try.ntmps6
    go_wp2_with (rw [← hW1])
    clear hW1 c2 c3 c4 c5 c6 c7 c8 c9
    refine HR.out.mono ?_
    rintro e w2 ⟨rfl, hb2⟩
    clear HR
    go_wp2_with fail
    have o3 := ot_new hb2
    obtain ⟨w3, hw3⟩ : ∃ w3, w3 = w2.alloc (.cells #[.slice none 0 0, .int .i64 0] 55) := ⟨_, rfl⟩
    rw [← hw3] at o3 ⊢
    clear hw3
    refine (refHead_yes _ 12 (by decide) (by decide)).mono ?_
    rintro e w4 ⟨rfl, hd, hb4⟩
    have o4 := o3.below hb4
    go_wp2_with fail
    refine (ot_Fixed o4 hd (by simp)).mono ?_
    rintro e w5 ⟨rfl, o5⟩
    rw [List.nil_append] at o5
    have d0 := cell_below c0 o5.bel
    clear hd hb4 o4 o3 c0
    go_wp2_with fail
    refine (ot_Byte o5 x hx (by simp [headL])).mono ?_
    rintro e w6 ⟨rfl, o6⟩
    have d1 := cell_below c1 o6.bel
    clear o5 c1 d0
    go_wp2_with fail
    refine (ot_Byte o6 k hnd (by simp [headL])).mono ?_
    rintro e w7 ⟨rfl, o7⟩
    have st7 := st.below o7.bel
    clear o6 d1 st
    go_wp2_with fail
    refine (ot_Fixed o7 st7 (by simp [headL])).mono ?_
    rintro e w8 ⟨rfl, o8⟩
    have d10 := cell_below c10 o8.bel
    clear o7 st7 c10
    go_wp2_with fail
    refine (ot_Bytes o8 s1 64 (by omega) (by simp [headL, tagL]; omega)).mono ?_
    rintro e w9 ⟨rfl, o9⟩
    rw [← hE.out] at o9
    clear o8 d10
    go_wp2_with fail
    refine (ot_Done o9).mono ?_
    rintro e w10 ⟨B, m, d, rfl, sB, hB, hb10⟩
    clear o9
    go_wp2
    go_ret2
    exact ⟨⟨B, m, d, rfl, sB, fun ad e => Nat.le_trans hb1.size (hB ad e)⟩, bthen hb1 hb10⟩
  · rw [e1, e2]
    have hd : decide (rgP x nd n) = false := decide_eq_false hr
    simp only [hd] at HR
    clear hd e1 e2 HRR hr hl cs
    go_enter Try.func6, Try.ntmps6
    go_wp2_with (rw [← hW1])
    clear hW1 c2 c3 c4 c5 c6 c7 c8 c9
    refine HR.out.mono ?_
    rintro e w2 ⟨rfl, hb2⟩
    clear HR c0 c1 c10
    go_wp2
    go_ret2
    exact ⟨⟨_, _, _, rfl, Sl.nilS _ _, fun ad e => by cases e⟩, bthen hb1 hb2⟩
end Go.Proofs.Ytikjhandhgfohaa
