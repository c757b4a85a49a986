import Derived.Test.YtpjmbhhfpoamnaaFlash8
set_option linter.unusedVariables false
set_option linter.unusedSimpArgs false
namespace Go.Proofs.Ytpjmbhhfpoamnaa
open Go.RowKit
/-- the size of a flash of so many bytes -/
def capF (n : Int) : Nat := (min (max n 0) 1048576).toNat
theorem capF_le (n : Int) : capF n ≤ 1048576 := by unfold capF; omega
theorem capF_eq (n : Int) : ((capF n : Nat) : Int) = min (max n 0) 1048576 := by unfold capF; omega
theorem run_max {P : Program} (x y : Int) (ats : Array TypeId) (ty : TypeId) (w : World) : (Builtin.max_ ats ty #[.int .i64 x, .int .i64 y]).run P w = .ok (.int .i64 (max x y)) w := by
  by_cases h : x < y <;> simp [Builtin.max_, Builtin.max2, h, Int.max_def] <;> omega
theorem run_min {P : Program} (x y : Int) (ats : Array TypeId) (ty : TypeId) (w : World) : (Builtin.min_ ats ty #[.int .i64 x, .int .i64 y]).run P w = .ok (.int .i64 (min x y)) w := by
  by_cases h : y < x <;> simp [Builtin.min_, Builtin.min2, h, Int.min_def] <;> omega
set_option maxHeartbeats 800000 in
set_option maxRecDepth 100000 in
theorem flash_Load (w : World) (n : Int) {A B : Option Addr} {m c k d : Nat} {l r : List UInt8} (ha : Sl w 1 A m c (l.map by8)) (hb : Sl w 1 B k d (r.map by8)) :
    Calls Try.prog 20 #[.int .i64 n, .slice A m c, .slice B k d] w fun e w' => ∃ G, e = .returned (.pointer (some ⟨w.heap.size, 0, none⟩)) ∧ Fl w' w.heap.size G ⟨capF n, l.take (capF n), r.take (capF n), [], 0, 0, false⟩ ∧ Below w.heap.size w w' ∧ ∀ x ∈ G, w.heap.size ≤ x := by
  have hz := capF_eq n
  have hzl := capF_le n
  obtain ⟨z, hze⟩ : ∃ z, z = capF n := ⟨_, rfl⟩
  rw [← hze] at hz hzl ⊢
  clear hze
  have hM1 : ∀ (ats : Array TypeId) (ty : TypeId) (w : World), (Builtin.max_ ats ty #[.int .i64 n, .int .i64 0]).run Try.prog w = .ok (.int .i64 (max n 0)) w := run_max n 0
  have hM2 : ∀ (ats : Array TypeId) (ty : TypeId) (w : World), (Builtin.min_ ats ty #[.int .i64 (max n 0), .int .i64 1048576]).run Try.prog w = .ok (.int .i64 z) w := fun ats ty w => by rw [hz]; exact run_min _ _ ats ty w
  have hla : l.length = m := by simpa using ha.len
  have hlb : r.length = k := by simpa using hb.len
  have m1 := ha.le; have m2 := ha.max; have m3 := hb.le; have m4 := hb.max
  obtain ⟨q, hq, hqm, hqz⟩ : ∃ q, q = min m z ∧ q ≤ m ∧ q ≤ z := ⟨_, rfl, by omega, by omega⟩
  obtain ⟨s, hs, hsk, hsz⟩ : ∃ s, s = min k z ∧ s ≤ k ∧ s ≤ z := ⟨_, rfl, by omega, by omega⟩
  have hM3 : ∀ (ats : Array TypeId) (ty : TypeId) (w : World), (Builtin.min_ ats ty #[.int .i64 (m : Int), .int .i64 (z : Int)]).run Try.prog w = .ok (.int .i64 (q : Int)) w := fun ats ty w => by rw [show (q : Int) = min (m : Int) (z : Int) by omega]; exact run_min _ _ ats ty w
  have hM4 : ∀ (ats : Array TypeId) (ty : TypeId) (w : World), (Builtin.min_ ats ty #[.int .i64 (k : Int), .int .i64 (z : Int)]).run Try.prog w = .ok (.int .i64 (s : Int)) w := fun ats ty w => by rw [show (s : Int) = min (k : Int) (z : Int) by omega]; exact run_min _ _ ats ty w
  have hsa : Sl w 1 A q c ((l.take q).map by8) := ha.preB hqm
  have hsb : Sl w 1 B s d ((r.take s).map by8) := hb.preB hsk
  have eq1 : l.take q = l.take z := by
    rcases Nat.lt_or_ge m z with h | h
    · rw [List.take_of_length_le (by omega), List.take_of_length_le (by omega)]
    · rw [show q = z by omega]
  have eq2 : r.take s = r.take z := by
    rcases Nat.lt_or_ge k z with h | h
    · rw [List.take_of_length_le (by omega), List.take_of_length_le (by omega)]
    · rw [show s = z by omega]
  have el1 : (l.take z).length = q := by rw [← eq1, List.length_take]; omega
  have el2 : (r.take z).length = s := by rw [← eq2, List.length_take]; omega
  rw [eq1] at hsa; rw [eq2] at hsb
  obtain ⟨X, hX⟩ : ∃ X, X = l.take z := ⟨_, rfl⟩
  obtain ⟨Y, hY⟩ : ∃ Y, Y = r.take z := ⟨_, rfl⟩
  rw [← hX] at hsa el1 ⊢; rw [← hY] at hsb el2 ⊢
  have HZ := Lib.hid (And.intro hq hs)
  have HE := Lib.hid (And.intro el1 el2)
  have HA := Lib.hid (And.intro hsa hsb)
  clear hz hq hs hX hY eq1 eq2 hla hlb ha hb hsa hsb el1 el2
  go_enter Try.func20, Try.ntmps20
  go_wp2
  go_loopw [19] (fun i wr => ∃ (j : Nat) (v0 v1 : Value), j ≤ 2 ∧ i = .int .i64 j ∧ wr.heap[w.heap.size]? = some (.cells #[.int .i64 z, v0, v1, .slice none 0 0, .int .i64 0, .int .i64 0, .bool false] 128 (0, 0)) ∧
    wr.ownsRow (w.heap.size + 1) 5 1 v0 (if 0 < j then X else []).length ((if 0 < j then X else []).map by8) ∧ wr.ownsRow (w.heap.size + 1) 5 1 v1 (if 1 < j then Y else []).length ((if 1 < j then Y else []).map by8) ∧
    (∀ g, v0.ownBlock = some g → v1.ownBlock ≠ some g) ∧ Below w.heap.size w wr) (fun i _ => 2 - (intOf i).toNat)
  case atStart => exact ⟨0, _, _, by omega, rfl, heap_alloc_new w _, (World.ownsRow_nil ..), (World.ownsRow_nil ..), (fun g hg => by cases hg), (Below.refl _ _).alloc (Nat.le_refl _) _⟩
  case round =>
    obtain ⟨j, v0, v1, hj, rfl, hblk, o0, o1, hne, hbl⟩ := hrel
    rcases (show j = 0 ∨ j = 1 ∨ j = 2 by omega) with rfl | rfl | rfl
    · have hs1 := HA.out.1.below hbl
      have hl2 := HE.out.1
      have hI : ∀ w : World, (Instr.index 125 (.agg #[.slice A m c, .slice B k d]) (.int .i64 0)).run Try.prog w = .ok (.slice A m c) w := fun w => by rfl
      have f1 := box_free hblk 1
      have hp1 : w.heap.size < wr.heap.size := lt_of_block hblk
      have c1 := box_cell hblk 1 v0 rfl
      have iq0 : (0 : Int) ≤ (q : Int) := Int.natCast_nonneg _
      have iq1 : (q : Int) ≤ (c : Int) := by omega
      have HO := Lib.hid (And.intro (And.intro o0 o1) hblk)
      clear o0 o1 hblk
      go_wp2_with fail
      go_region_held3 (fun w' => True) (trivial)
        (first | (go_at_call 74; refine (flash_own _ hs1.drew (by omega)).mono ?_; rintro e w2 ⟨rfl, o2, hb2⟩; have g1 := cell_below (w := wr.drew) c1 hb2; have g2 : w2.frozen? ⟨w.heap.size, 1, none⟩ = false := (hb2.frozen (p := ⟨w.heap.size, 1, none⟩) hp1).trans f1))
      all_goals
        obtain ⟨⟨o0, o1⟩, hblk⟩ := HO.out
        have hblk2 : w2.heap[w.heap.size]? = _ := (hb2.block _ hp1).trans hblk
        have hB2 : Below w.heap.size w w2 := bthen hbl.drew hb2
        have kk : Keep [w.heap.size] w2 (w2.setCell ⟨w.heap.size, 1, none⟩ (.slice (some ⟨wr.heap.size, 0, none⟩) q q)) := (Keep.refl _ w2).setCell (.inl (by simp)) _
        have HN := Lib.hid (And.intro (by simpa using heap_setCell_same w2 w.heap.size 1 _ _ (.slice (some ⟨wr.heap.size, 0, none⟩) q q) hblk2) (And.intro (kk.own o2 (fun g hg => by have : wr.heap.size = g := Option.some.inj hg; simp; omega)) (And.intro (hB2.setCell (p := ⟨w.heap.size, 1, none⟩) (Nat.le_refl _) (.slice (some ⟨wr.heap.size, 0, none⟩) q q)) (kk.own (own_below (w := wr.drew) o1 hb2) (fun g hg => by have := (o1.lt g hg).1; simp; omega)))))
        have hv1 : ∀ g, v1.ownBlock = some g → g < wr.heap.size := fun g hg => (o1.lt g hg).2
        clear o0 o1 hblk hblk2 hB2 kk o2 hb2 g1 g2
        go_wp2
        first | go_roundw | refine ⟨?rel, ?measure⟩
        case rel => exact ⟨1, _, v1, by omega, by go_num, HN.out.1, by simpa [hl2] using own_mono HN.out.2.1 (by have := hp1; show _ ≤ wr.heap.size; omega), by simpa using HN.out.2.2.2, (fun g hg hg2 => by have := hv1 g hg2; have : wr.heap.size = g := Option.some.inj hg; omega), HN.out.2.2.1⟩
        case measure => simp [intOf]
    · have hs1 := HA.out.2.below hbl
      have hl2 := HE.out.2
      have hI : ∀ w : World, (Instr.index 125 (.agg #[.slice A m c, .slice B k d]) (.int .i64 1)).run Try.prog w = .ok (.slice B k d) w := fun w => by rfl
      have f1 := box_free hblk 2
      have hp1 : w.heap.size < wr.heap.size := lt_of_block hblk
      have c1 := box_cell hblk 2 v1 rfl
      have iq0 : (0 : Int) ≤ (s : Int) := Int.natCast_nonneg _
      have iq1 : (s : Int) ≤ (d : Int) := by omega
      have HO := Lib.hid (And.intro (And.intro o0 o1) hblk)
      clear o0 o1 hblk
      go_wp2_with fail
      go_region_held3 (fun w' => True) (trivial)
        (first | (go_at_call 74; refine (flash_own _ hs1.drew (by omega)).mono ?_; rintro e w2 ⟨rfl, o2, hb2⟩; have g1 := cell_below (w := wr.drew) c1 hb2; have g2 : w2.frozen? ⟨w.heap.size, 2, none⟩ = false := (hb2.frozen (p := ⟨w.heap.size, 2, none⟩) hp1).trans f1))
      all_goals
        obtain ⟨⟨o0, o1⟩, hblk⟩ := HO.out
        have hblk2 : w2.heap[w.heap.size]? = _ := (hb2.block _ hp1).trans hblk
        have hB2 : Below w.heap.size w w2 := bthen hbl.drew hb2
        have kk : Keep [w.heap.size] w2 (w2.setCell ⟨w.heap.size, 2, none⟩ (.slice (some ⟨wr.heap.size, 0, none⟩) s s)) := (Keep.refl _ w2).setCell (.inl (by simp)) _
        have HN := Lib.hid (And.intro (by simpa using heap_setCell_same w2 w.heap.size 2 _ _ (.slice (some ⟨wr.heap.size, 0, none⟩) s s) hblk2) (And.intro (kk.own o2 (fun g hg => by have : wr.heap.size = g := Option.some.inj hg; simp; omega)) (And.intro (hB2.setCell (p := ⟨w.heap.size, 2, none⟩) (Nat.le_refl _) (.slice (some ⟨wr.heap.size, 0, none⟩) s s)) (kk.own (own_below (w := wr.drew) o0 hb2) (fun g hg => by have := (o0.lt g hg).1; simp; omega)))))
        have hv0 : ∀ g, v0.ownBlock = some g → g < wr.heap.size := fun g hg => (o0.lt g hg).2
        clear o0 o1 hblk hblk2 hB2 kk o2 hb2 g1 g2
        go_wp2
        first | go_roundw | refine ⟨?rel, ?measure⟩
        case rel => exact ⟨2, v0, _, by omega, by go_num, HN.out.1, by simpa using HN.out.2.2.2, by simpa [hl2] using own_mono HN.out.2.1 (by have := hp1; show _ ≤ wr.heap.size; omega), (fun g hg hg2 => by have := hv0 g hg; have : wr.heap.size = g := Option.some.inj hg2; omega), HN.out.2.2.1⟩
        case measure => simp [intOf]
    · have HF : Hid (∃ G, Fl wr w.heap.size G ⟨z, X, Y, [], 0, 0, false⟩ ∧ ∀ x ∈ G, w.heap.size ≤ x) := Lib.hid (by
        have l0 : ∀ g, v0.ownBlock = some g → w.heap.size < g ∧ g < wr.heap.size := fun g hg => o0.lt g hg
        have l1 : ∀ g, v1.ownBlock = some g → w.heap.size < g ∧ g < wr.heap.size := fun g hg => o1.lt g hg
        have hp1 : w.heap.size < wr.heap.size := lt_of_block hblk
        refine ⟨w.heap.size :: (v0.ownBlock.toList ++ v1.ownBlock.toList), ⟨⟨v0, v1, .slice none 0 0, hblk, own_mono (by simpa using o0) (Nat.zero_le _), own_mono (by simpa using o1) (Nat.zero_le _), World.ownsRow_nil .., fun g hg => ⟨by have := l0 g hg; omega, by simp [hg], hne g hg, by simp [Value.ownBlock]⟩, fun g hg => ⟨by have := l1 g hg; omega, by simp [hg], by simp [Value.ownBlock]⟩, fun g hg => by cases hg⟩, by simp, ?_⟩, ?_⟩
        · intro x hx
          simp at hx
          rcases hx with rfl | hx | hx
          · exact hp1
          · exact (l0 x hx).2
          · exact (l1 x hx).2
        · intro x hx
          simp at hx
          rcases hx with rfl | hx | hx
          · exact Nat.le_refl _
          · exact Nat.le_of_lt (l0 x hx).1
          · exact Nat.le_of_lt (l1 x hx).1)
      clear hblk o0 o1
      go_wp2
      go_ret
      obtain ⟨G, h1, h2⟩ := HF.out
      exact ⟨G, rfl, h1, hbl, h2⟩
theorem flash_New (w : World) (n : Int) :
    Calls Try.prog 21 #[.int .i64 n] w fun e w' => ∃ G, e = .returned (.pointer (some ⟨w.heap.size, 0, none⟩)) ∧ Fl w' w.heap.size G ⟨capF n, [], [], [], 0, 0, false⟩ ∧ Below w.heap.size w w' ∧ ∀ x ∈ G, w.heap.size ≤ x := by
  go_enter Try.func21, Try.ntmps21
  go_wp2_with (first | (at_builtin; refine Stopped.out ?_) | (at_make; refine Stopped.out ?_))
  refine (flash_Load _ n (l := []) (r := []) (Sl.nilS w 1) (Sl.nilS w 1)).mono ?_
  rintro e w1 ⟨G, rfl, h1, h2, h3⟩
  go_wp2
  go_ret
  exact ⟨G, rfl, by simpa using h1, h2, h3⟩
end Go.Proofs.Ytpjmbhhfpoamnaa
