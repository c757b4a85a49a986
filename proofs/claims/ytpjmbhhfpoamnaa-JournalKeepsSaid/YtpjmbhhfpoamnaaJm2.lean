import Derived.Test.YtpjmbhhfpoamnaaJm1
import Derived.Test.YtpjmbhhfpoamnaaChecked
import Derived.Deep.RegionLaw
set_option linter.unusedVariables false
set_option linter.unusedSimpArgs false
namespace Go.Proofs.Ytpjmbhhfpoamnaa
open Go.RowKit
/-- the size of a flash of so many bytes -/
def capF (n : Int) : Nat := (min (max n 0) 1048576).toNat
theorem capF_le (n : Int) : capF n ≤ 1048576 := by unfold capF; omega
theorem capF_eq (n : Int) : ((capF n : Nat) : Int) = min (max n 0) 1048576 := by unfold capF; omega
theorem run_max {P : Program} (x y : Int) (ats : Array TypeId) (ty : TypeId) (w : World) : (Builtin.max_ ats ty #[.int .i64 x, .int .i64 y]).run P w = .ok (.int .i64 (max x y)) w := by
  by_cases h : x < y <;> simp [Builtin.max_, Builtin.max2, h, Int.max_def] <;> omega
theorem run_min {P : Program} (x y : Int) (ats : Array TypeId) (ty : TypeId) (w : World) : (Builtin.min_ ats ty #[.int .i64 x, .int .i64 y]).run P w = .ok (.int .i64 (min x y)) w := by
  by_cases h : y < x <;> simp [Builtin.min_, Builtin.min2, h, Int.min_def] <;> omega
set_option maxHeartbeats 800000 in
set_option maxRecDepth 100000 in
theorem flash_Load (w : World) (n : Int) {A B : Option Addr} {m c k d : Nat} {l r : List UInt8} (ha : Sl w 1 A m c (l.map by8)) (hb : Sl w 1 B k d (r.map by8)) :
    Calls Try.prog 20 #[.int .i64 n, .slice A m c, .slice B k d] w fun e w' => ∃ G, e = .returned (.pointer (some ⟨w.heap.size, 0, none⟩)) ∧ Fl w' w.heap.size G ⟨capF n, l.take (capF n), r.take (capF n), [], 0, 0, false⟩ ∧ Below w.heap.size w w' ∧ ∀ x ∈ G, w.heap.size ≤ x := by
  have hz := capF_eq n
  have hzl := capF_le n
  obtain ⟨z, hze⟩ : ∃ z, z = capF n := ⟨_, rfl⟩
  rw [← hze] at hz hzl ⊢
  clear hze
  have hM1 : ∀ (ats : Array TypeId) (ty : TypeId) (w : World), (Builtin.max_ ats ty #[.int .i64 n, .int .i64 0]).run Try.prog w = .ok (.int .i64 (max n 0)) w := run_max n 0
  have hM2 : ∀ (ats : Array TypeId) (ty : TypeId) (w : World), (Builtin.min_ ats ty #[.int .i64 (max n 0), .int .i64 1048576]).run Try.prog w = .ok (.int .i64 z) w := fun ats ty w => by rw [hz]; exact run_min _ _ ats ty w
  have hla : l.length = m := by simpa using ha.len
  have hlb : r.length = k := by simpa using hb.len
  have m1 := ha.le; have m2 := ha.max; have m3 := hb.le; have m4 := hb.max
  obtain ⟨q, hq, hqm, hqz⟩ : ∃ q, q = min m z ∧ q ≤ m ∧ q ≤ z := ⟨_, rfl, by omega, by omega⟩
  obtain ⟨s, hs, hsk, hsz⟩ : ∃ s, s = min k z ∧ s ≤ k ∧ s ≤ z := ⟨_, rfl, by omega, by omega⟩
  have hM3 : ∀ (ats : Array TypeId) (ty : TypeId) (w : World), (Builtin.min_ ats ty #[.int .i64 (m : Int), .int .i64 (z : Int)]).run Try.prog w = .ok (.int .i64 (q : Int)) w := fun ats ty w => by rw [show (q : Int) = min (m : Int) (z : Int) by omega]; exact run_min _ _ ats ty w
  have hM4 : ∀ (ats : Array TypeId) (ty : TypeId) (w : World), (Builtin.min_ ats ty #[.int .i64 (k : Int), .int .i64 (z : Int)]).run Try.prog w = .ok (.int .i64 (s : Int)) w := fun ats ty w => by rw [show (s : Int) = min (k : Int) (z : Int) by omega]; exact run_min _ _ ats ty w
  have hsa : Sl w 1 A q c ((l.take q).map by8) := ha.preB hqm
  have hsb : Sl w 1 B s d ((r.take s).map by8) := hb.preB hsk
  have eq1 : l.take q = l.take z := by
    rcases Nat.lt_or_ge m z with h | h
    · rw [List.take_of_length_le (by omega), List.take_of_length_le (by omega)]
    · rw [show q = z by omega]
  have eq2 : r.take s = r.take z := by
    rcases Nat.lt_or_ge k z with h | h
    · rw [List.take_of_length_le (by omega), List.take_of_length_le (by omega)]
    · rw [show s = z by omega]
  have el1 : (l.take z).length = q := by rw [← eq1, List.length_take]; omega
  have el2 : (r.take z).length = s := by rw [← eq2, List.length_take]; omega
  rw [eq1] at hsa; rw [eq2] at hsb
  obtain ⟨X, hX⟩ : ∃ X, X = l.take z := ⟨_, rfl⟩
  obtain ⟨Y, hY⟩ : ∃ Y, Y = r.take z := ⟨_, rfl⟩
  rw [← hX] at hsa el1 ⊢; rw [← hY] at hsb el2 ⊢
  have HZ := Lib.hid (And.intro hq hs)
  have HE := Lib.hid (And.intro el1 el2)
  have HA := Lib.hid (And.intro hsa hsb)
  clear hz hq hs hX hY eq1 eq2 hla hlb ha hb hsa hsb el1 el2
  go_enter Try.func20, Try.ntmps20
  go_wp2
  go_loopw [19] (fun i wr => ∃ (j : Nat) (v0 v1 : Value), j ≤ 2 ∧ i = .int .i64 j ∧ wr.heap[w.heap.size]? = some (.cells #[.int .i64 z, v0, v1, .slice none 0 0, .int .i64 0, .int .i64 0, .bool false] 128 (0, 0)) ∧
    wr.ownsRow (w.heap.size + 1) 5 1 v0 (if 0 < j then X else []).length ((if 0 < j then X else []).map by8) ∧ wr.ownsRow (w.heap.size + 1) 5 1 v1 (if 1 < j then Y else []).length ((if 1 < j then Y else []).map by8) ∧
    (∀ g, v0.ownBlock = some g → v1.ownBlock ≠ some g) ∧ Below w.heap.size w wr) (fun i _ => 2 - (intOf i).toNat)
  case atStart => exact ⟨0, _, _, by omega, rfl, heap_alloc_new w _, (World.ownsRow_nil ..), (World.ownsRow_nil ..), (fun g hg => by cases hg), (Below.refl _ _).alloc (Nat.le_refl _) _⟩
  case round =>
    obtain ⟨j, v0, v1, hj, rfl, hblk, o0, o1, hne, hbl⟩ := hrel
    rcases (show j = 0 ∨ j = 1 ∨ j = 2 by omega) with rfl | rfl | rfl
    · have hs1 := HA.out.1.below hbl
      have hl2 := HE.out.1
      have hI : ∀ w : World, (Instr.index 125 (.agg #[.slice A m c, .slice B k d]) (.int .i64 0)).run Try.prog w = .ok (.slice A m c) w := fun w => by rfl
      have f1 := box_free hblk 1
      have hp1 : w.heap.size < wr.heap.size := lt_of_block hblk
      have c1 := box_cell hblk 1 v0 rfl
      have iq0 : (0 : Int) ≤ (q : Int) := Int.natCast_nonneg _
      have iq1 : (q : Int) ≤ (c : Int) := by omega
      have HO := Lib.hid (And.intro (And.intro o0 o1) hblk)
      clear o0 o1 hblk
      go_wp2_with fail
      go_region_held3 (fun w' => True) (trivial)
        (first | (go_at_call 74; refine (flash_own _ hs1.drew (by omega)).mono ?_; rintro e w2 ⟨rfl, o2, hb2⟩; have g1 := cell_below (w := wr.drew) c1 hb2; have g2 : w2.frozen? ⟨w.heap.size, 1, none⟩ = false := (hb2.frozen (p := ⟨w.heap.size, 1, none⟩) hp1).trans f1))
      all_goals
        obtain ⟨⟨o0, o1⟩, hblk⟩ := HO.out
        have hblk2 : w2.heap[w.heap.size]? = _ := (hb2.block _ hp1).trans hblk
        have hB2 : Below w.heap.size w w2 := bthen hbl.drew hb2
        have kk : Keep [w.heap.size] w2 (w2.setCell ⟨w.heap.size, 1, none⟩ (.slice (some ⟨wr.heap.size, 0, none⟩) q q)) := (Keep.refl _ w2).setCell (.inl (by simp)) _
        have HN := Lib.hid (And.intro (by simpa using heap_setCell_same w2 w.heap.size 1 _ _ (.slice (some ⟨wr.heap.size, 0, none⟩) q q) hblk2) (And.intro (kk.own o2 (fun g hg => by have : wr.heap.size = g := Option.some.inj hg; simp; omega)) (And.intro (hB2.setCell (p := ⟨w.heap.size, 1, none⟩) (Nat.le_refl _) (.slice (some ⟨wr.heap.size, 0, none⟩) q q)) (kk.own (own_below (w := wr.drew) o1 hb2) (fun g hg => by have := (o1.lt g hg).1; simp; omega)))))
        have hv1 : ∀ g, v1.ownBlock = some g → g < wr.heap.size := fun g hg => (o1.lt g hg).2
        clear o0 o1 hblk hblk2 hB2 kk o2 hb2 g1 g2
        go_wp2
        first | go_roundw | refine ⟨?rel, ?measure⟩
        case rel => exact ⟨1, _, v1, by omega, by go_num, HN.out.1, by simpa [hl2] using own_mono HN.out.2.1 (by have := hp1; show _ ≤ wr.heap.size; omega), by simpa using HN.out.2.2.2, (fun g hg hg2 => by have := hv1 g hg2; have : wr.heap.size = g := Option.some.inj hg; omega), HN.out.2.2.1⟩
        case measure => simp [intOf]
    · have hs1 := HA.out.2.below hbl
      have hl2 := HE.out.2
      have hI : ∀ w : World, (Instr.index 125 (.agg #[.slice A m c, .slice B k d]) (.int .i64 1)).run Try.prog w = .ok (.slice B k d) w := fun w => by rfl
      have f1 := box_free hblk 2
      have hp1 : w.heap.size < wr.heap.size := lt_of_block hblk
      have c1 := box_cell hblk 2 v1 rfl
      have iq0 : (0 : Int) ≤ (s : Int) := Int.natCast_nonneg _
      have iq1 : (s : Int) ≤ (d : Int) := by omega
      have HO := Lib.hid (And.intro (And.intro o0 o1) hblk)
      clear o0 o1 hblk
      go_wp2_with fail
      go_region_held3 (fun w' => True) (trivial)
        (first | (go_at_call 74; refine (flash_own _ hs1.drew (by omega)).mono ?_; rintro e w2 ⟨rfl, o2, hb2⟩; have g1 := cell_below (w := wr.drew) c1 hb2; have g2 : w2.frozen? ⟨w.heap.size, 2, none⟩ = false := (hb2.frozen (p := ⟨w.heap.size, 2, none⟩) hp1).trans f1))
      all_goals
        obtain ⟨⟨o0, o1⟩, hblk⟩ := HO.out
        have hblk2 : w2.heap[w.heap.size]? = _ := (hb2.block _ hp1).trans hblk
        have hB2 : Below w.heap.size w w2 := bthen hbl.drew hb2
        have kk : Keep [w.heap.size] w2 (w2.setCell ⟨w.heap.size, 2, none⟩ (.slice (some ⟨wr.heap.size, 0, none⟩) s s)) := (Keep.refl _ w2).setCell (.inl (by simp)) _
        have HN := Lib.hid (And.intro (by simpa using heap_setCell_same w2 w.heap.size 2 _ _ (.slice (some ⟨wr.heap.size, 0, none⟩) s s) hblk2) (And.intro (kk.own o2 (fun g hg => by have : wr.heap.size = g := Option.some.inj hg; simp; omega)) (And.intro (hB2.setCell (p := ⟨w.heap.size, 2, none⟩) (Nat.le_refl _) (.slice (some ⟨wr.heap.size, 0, none⟩) s s)) (kk.own (own_below (w := wr.drew) o0 hb2) (fun g hg => by have := (o0.lt g hg).1; simp; omega)))))
        have hv0 : ∀ g, v0.ownBlock = some g → g < wr.heap.size := fun g hg => (o0.lt g hg).2
        clear o0 o1 hblk hblk2 hB2 kk o2 hb2 g1 g2
        go_wp2
        first | go_roundw | refine ⟨?rel, ?measure⟩
        case rel => exact ⟨2, v0, _, by omega, by go_num, HN.out.1, by simpa using HN.out.2.2.2, by simpa [hl2] using own_mono HN.out.2.1 (by have := hp1; show _ ≤ wr.heap.size; omega), (fun g hg hg2 => by have := hv0 g hg; have : wr.heap.size = g := Option.some.inj hg2; omega), HN.out.2.2.1⟩
        case measure => simp [intOf]
    · have HF : Hid (∃ G, Fl wr w.heap.size G ⟨z, X, Y, [], 0, 0, false⟩ ∧ ∀ x ∈ G, w.heap.size ≤ x) := Lib.hid (by
        have l0 : ∀ g, v0.ownBlock = some g → w.heap.size < g ∧ g < wr.heap.size := fun g hg => o0.lt g hg
        have l1 : ∀ g, v1.ownBlock = some g → w.heap.size < g ∧ g < wr.heap.size := fun g hg => o1.lt g hg
        have hp1 : w.heap.size < wr.heap.size := lt_of_block hblk
        refine ⟨w.heap.size :: (v0.ownBlock.toList ++ v1.ownBlock.toList), ⟨⟨v0, v1, .slice none 0 0, hblk, own_mono (by simpa using o0) (Nat.zero_le _), own_mono (by simpa using o1) (Nat.zero_le _), World.ownsRow_nil .., fun g hg => ⟨by have := l0 g hg; omega, by simp [hg], hne g hg, by simp [Value.ownBlock]⟩, fun g hg => ⟨by have := l1 g hg; omega, by simp [hg], by simp [Value.ownBlock]⟩, fun g hg => by cases hg⟩, by simp, ?_⟩, ?_⟩
        · intro x hx
          simp at hx
          rcases hx with rfl | hx | hx
          · exact hp1
          · exact (l0 x hx).2
          · exact (l1 x hx).2
        · intro x hx
          simp at hx
          rcases hx with rfl | hx | hx
          · exact Nat.le_refl _
          · exact Nat.le_of_lt (l0 x hx).1
          · exact Nat.le_of_lt (l1 x hx).1)
      clear hblk o0 o1
      go_wp2
      go_ret
      obtain ⟨G, h1, h2⟩ := HF.out
      exact ⟨G, rfl, h1, hbl, h2⟩
theorem flash_New (w : World) (n : Int) :
    Calls Try.prog 21 #[.int .i64 n] w fun e w' => ∃ G, e = .returned (.pointer (some ⟨w.heap.size, 0, none⟩)) ∧ Fl w' w.heap.size G ⟨capF n, [], [], [], 0, 0, false⟩ ∧ Below w.heap.size w w' ∧ ∀ x ∈ G, w.heap.size ≤ x := by
  go_enter Try.func21, Try.ntmps21
  go_wp2_with (first | (at_builtin; refine Stopped.out ?_) | (at_make; refine Stopped.out ?_))
  refine (flash_Load _ n (l := []) (r := []) (Sl.nilS w 1) (Sl.nilS w 1)).mono ?_
  rintro e w1 ⟨G, rfl, h1, h2, h3⟩
  go_wp2
  go_ret
  exact ⟨G, rfl, by simpa using h1, h2, h3⟩
end Go.Proofs.Ytpjmbhhfpoamnaa

namespace Go.Proofs.Ytpjmbhhfpoamnaa
open Go.RowKit
set_option maxHeartbeats 400000 in
theorem same12 (w : World) {A B : Option Addr} {n c m d : Nat} {l r : List UInt8} (ha : Sl w 1 A n c (l.map by8)) (hb : Sl w 1 B m d (r.map by8)) :
    Calls Try.prog 26 #[.slice A n c, .slice B m d] w fun e w' => e = .returned (.bool (decide (l = r))) ∧ Drawn w w' := by
  have hla : l.length = n := by simpa using ha.len
  have hlb : r.length = m := by simpa using hb.len
  have h1 := ha.le; have h2 := ha.max; have h3 := hb.le; have h4 := hb.max
  by_cases hnm : n = m
  · subst hnm
    have HA := Lib.hid hla; have HB := Lib.hid hlb
    have HRes : Hid (n ≤ n) := Lib.hid (Nat.le_refl _)
    clear hla hlb
    have hne : ((n : Int) != n) = false := by simp
    go_enter Try.func26, Try.ntmps26
    go_wp2
    go_loopw [5] (fun i wr => ∃ k : Nat, k ≤ n ∧ i = .int .i64 k ∧ Hid (l.take k = r.take k) ∧ Drawn w wr) (fun i _ => n - (intOf i).toNat)
    case atStart => exact ⟨0, by omega, rfl, Lib.hid (by simp), Drawn.refl _⟩
    case round =>
      obtain ⟨k, hk, rfl, heq, hw⟩ := hrel
      obtain ⟨q, rfl⟩ := hw.out
      by_cases hlt : k < n
      · obtain ⟨b, off, rfl⟩ := ha.form (by omega)
        obtain ⟨b2, off2, rfl⟩ := hb.form (by omega)
        have ga := ha.byte k hlt
        have gb := hb.byte k hlt
        have hk0 : (0 : Int) ≤ (k : Int) := Int.natCast_nonneg _
        have hk1 : (k : Int) < (n : Int) := by omega
        have Ta := Lib.hid (take_bt l k (by rw [HA.out]; exact hlt))
        have Tb := Lib.hid (take_bt r k (by rw [HB.out]; exact hlt))
        have La := Lib.hid (bt_eq l k (by rw [HA.out]; exact hlt))
        have Lb := Lib.hid (bt_eq r k (by rw [HB.out]; exact hlt))
        obtain ⟨x, hx⟩ : ∃ x : Nat, x = bt l k := ⟨_, rfl⟩
        obtain ⟨y, hy⟩ : ∃ y : Nat, y = bt r k := ⟨_, rfl⟩
        rw [← hx] at ga Ta La; rw [← hy] at gb Tb Lb
        clear hx hy
        by_cases hxy : x = y
        · subst hxy
          have hxx : ((x : Int) != x) = false := by simp
          go_wp2
          go_quiet (fail)
          go_wp2
          go_roundw
          case rel => exact ⟨k + 1, by omega, by go_num, Lib.hid (by rw [Ta.out, Tb.out, heq.out]), (by first | exact ⟨⟨_, rfl⟩⟩ | exact ⟨⟨_, World.drewN_drewN ..⟩⟩)⟩
          case measure => simp [intOf]; omega
        · have hxx : ((x : Int) != y) = true := by simp; omega
          have HD : Hid (decide (l = r) = false) := Lib.hid (decide_eq_false (by rintro rfl; exact hxy (La.out.trans Lb.out.symm)))
          clear hxy
          go_wp2
          go_quiet (fail)
          go_wp2
          go_ret
          exact ⟨by (rw [HD.out]) <;> rfl, (by first | exact ⟨⟨_, rfl⟩⟩ | exact ⟨⟨_, World.drewN_drewN ..⟩⟩)⟩
      · obtain rfl : k = n := by omega
        have HD : Hid (decide (l = r) = true) := Lib.hid (decide_eq_true (by rw [← List.take_of_length_le (l := l) (Nat.le_of_eq HA.out), ← List.take_of_length_le (l := r) (Nat.le_of_eq HB.out)]; exact heq.out))
        go_wp2
        go_ret
        exact ⟨by (rw [HD.out]) <;> rfl, hw⟩
  · have hne : ((n : Int) != m) = true := by simp; omega
    have HD : Hid (decide (l = r) = false) := Lib.hid (decide_eq_false (by rintro rfl; omega))
    clear hla hlb hnm
    go_enter Try.func26, Try.ntmps26
    go_wp2
    go_ret
    exact ⟨by (rw [HD.out]) <;> rfl, Drawn.refl _⟩
end Go.Proofs.Ytpjmbhhfpoamnaa

namespace Go.Proofs.Ytpjmbhhfpoamnaa
open Go.RowKit
/-- a flash behind an Append that is taken -/
def appS (s : FSt) (n : Nat) (l : List UInt8) : FSt := if n = 0 then { s with writes := s.writes + 1, b0 := s.b0 ++ l } else { s with writes := s.writes + 1, b1 := s.b1 ++ l }
theorem flash_Append_calm (w : World) {p : Nat} {G : List Nat} {s : FSt} (h : Fl w p G s) (n : Nat) (hn : n ≤ 1) (hd : s.down = false) (ha0 : s.armed = []) (hw : s.writes ≤ 4611686018427387904) (hs : s.size ≤ 1048576) {A : Option Addr} {m c : Nat} {l : List UInt8} (hb : Sl w 1 A m c (l.map by8)) (hA : ∀ ad, A = some ad → 0 < m → ad.block ∉ G) (hroom : (bankF s n).length + m ≤ s.size) :
    Calls Try.prog 23 #[.pointer (some ⟨p, 0, none⟩), .int .i64 n, .slice A m c] w fun e w' => e = .returned (.int .i64 0) ∧ FStep w w' p G (appS s n l) := by
  rcases (show n = 0 ∨ n = 1 by omega) with rfl | rfl
  · exact flash_Append_calm0 w h hd ha0 hw hs hb hA hroom
  · exact flash_Append_calm1 w h hd ha0 hw hs hb hA hroom
/-- what a step leaves, and what else is kept -/
theorem FStep.below {W w w' : World} {p : Nat} {G : List Nat} {s : FSt} (k : FStep w w' p G s) (hB : Below W.heap.size W w) (hG : ∀ x ∈ G, W.heap.size ≤ x) : ∃ G', Fl w' p G' s ∧ Below W.heap.size W w' ∧ (∀ x ∈ G', W.heap.size ≤ x) ∧ Keep G w w' ∧ ∀ x ∈ G', x ∈ G ∨ w.heap.size ≤ x := by
  obtain ⟨G', h1, h2, h3⟩ := k.out
  exact ⟨G', h1, h2.below hB hB.size hG, fun x hx => by rcases h3 x hx with h | h; exact hG x h; exact Nat.le_trans hB.size h, h2, h3⟩
theorem capF_nat (n : Nat) (h : n ≤ 1048576) : capF n = n := by unfold capF; omega
set_option maxHeartbeats 800000 in
theorem holds12 (w : World) : Calls Try.prog 22 #[] w fun e w' => e = .returned (.bool true) ∧ Below w.heap.size w w' := by
  go_enter Try.func22, Try.ntmps22
  go_wp2_with (first | (at_builtin; refine Stopped.out ?_) | (at_make; refine Stopped.out ?_))
  refine (flash_New _ 9).mono ?_
  rintro e w1 ⟨G, rfl, h1, hb1, hG⟩
  go_wp2_with (first | (at_builtin; refine Stopped.out ?_) | (at_make; refine Stopped.out ?_))
  have h2 := h1.below (w' := w1.alloc (.cells #[.int .u8 5, .int .u8 6, .int .u8 7] 5)) ((Below.refl _ _).alloc (Nat.le_refl _) _)
  have hb2 : Below w.heap.size w (w1.alloc (.cells #[.int .u8 5, .int .u8 6, .int .u8 7] 5)) := hb1.alloc hb1.size _
  have s2 : Sl (w1.alloc (.cells #[.int .u8 5, .int .u8 6, .int .u8 7] 5)) 1 (some ⟨w1.heap.size, 0, none⟩) 3 3 (([5, 6, 7] : List UInt8).map by8) := Sl.fresh w1 [.int .u8 5, .int .u8 6, .int .u8 7] _ 3 1 rfl (by decide)
  refine (flash_Append_calm _ h2 1 (by decide) rfl rfl (by decide) (by decide) s2 (fun ad e _ hx => by obtain rfl := Option.some.inj e; have := h1.lts _ hx; simp at this) (by decide)).mono ?_
  rintro e w3 ⟨rfl, hst⟩
  obtain ⟨G3, h3, hb3, hG3, _, _⟩ := hst.below hb2 hG
  clear hst h2 hb2 s2 h1
  go_wp2_with (first | (at_builtin; refine Stopped.out ?_) | (at_make; refine Stopped.out ?_))
  refine (flash_Read_yes _ h3 1 (by decide) rfl (by decide)).mono ?_
  rintro e w4 ⟨rfl, o4, hb4⟩
  have h4 := h3.below hb4
  have hB4 := bthen hb3 hb4
  have s4 := (own_sl' o4).2.1
  clear h3 hb4 hb3 o4
  go_wp2_with (first | (at_builtin; refine Stopped.out ?_) | (at_make; refine Stopped.out ?_))
  refine (same12 _ (s4.alloc _) (r := [5, 6, 7]) (Sl.fresh w4 [.int .u8 5, .int .u8 6, .int .u8 7] 5 3 1 rfl (by decide))).mono ?_
  rintro e w5 ⟨rfl, hd5⟩
  rw [show decide (bankF (appS ⟨capF 9, [], [], [], 0, 0, false⟩ 1 [5, 6, 7]) 1 = ([5, 6, 7] : List UInt8)) = true from by decide]
  have hB5 := bthen (hB4.alloc hB4.size (.cells #[.int .u8 5, .int .u8 6, .int .u8 7] 5)) hd5.below
  have h5 := (h4.below (w' := w4.alloc (.cells #[.int .u8 5, .int .u8 6, .int .u8 7] 5)) ((Below.refl _ _).alloc (Nat.le_refl _) _)).below hd5.below
  clear hd5 h4 hB4 s4
  go_wp2_with (first | (at_builtin; refine Stopped.out ?_) | (at_make; refine Stopped.out ?_))
  refine (flash_Writes _ h5).mono ?_
  rintro e w6 ⟨rfl, rfl⟩
  go_wp2
  go_ret
  exact ⟨by simp [appS], hB5⟩
end Go.Proofs.Ytpjmbhhfpoamnaa

namespace Go.Proofs.Ytpjmbhhfpoamnaa
open Go.RowKit
/-- what else is known behind an append: every row that stood in no more places than the row appended to is as it was -/
theorem ap_rows {P : Program} {w : World} {base : Nat} {t ty e : TypeId} {i : TypeInfo} {z : Value} (ht : P.underlying t = some (.slice e)) (hi : P.info? e = some i) (hz : i.zero = some z)
    {v : Value} {n : Nat} {xs : List Value} (hown : w.ownsRow base e i.size v n xs)
    {ad : Addr} {m c : Nat} {news : List Value} (hl : news.length = m * i.size) (hnews : ∀ j u, news[j]? = some u → w.cell? (ad.add j) = some u) (h1 : ∀ u ∈ news, u.oneCell' = true)
    (h63 : n + m ≤ maxLen) (hbytes : (n + m) * i.bytes ≤ 140737488355328)
    {v' : Value} {w' : World} (hr : (Builtin.append_ #[t, t] ty #[v, .slice (some ad) m c]).run P w = .ok v' w') :
    ∀ (base2 : Nat) (v2 : Value) (n2 : Nat) (xs2 : List Value), n2 ≤ n → w.ownsRow base2 e i.size v2 n2 xs2 → w'.ownsRow base2 e i.size v2 n2 xs2 := by
  have hsmall : n + m ≤ 9223372036854775807 := by simp only [maxLen] at h63; omega
  intro base2 v2 n2 xs2 hn2 ho2
  rcases hown.2 with ⟨rfl, rfl⟩ | ⟨g, cap, cur, rfl, hbg, hg, hnc, hcm, hcs, htake⟩
  · by_cases hm : m = 0
    · subst hm
      have hn : news = [] := List.eq_nil_of_length_eq_zero (by simpa using hl)
      subst hn
      have e2 : (Builtin.append_ #[t, t] ty #[.slice none 0 0, .slice (some ad) 0 c]).run P w = .ok (.slice none 0 0) w := by
        simp [Builtin.append_, run_underlying ht, sizeOf, typeInfo, hi, Builtin.lenOf, Builtin.firstCells, loadCells, loadCellsFrom]
      rw [e2] at hr
      injection hr with _ hr
      subst hr
      exact ho2
    · have e2 := run_append_nil (P := P) w t ty e i z ht hi hz ad m c news hl hnews (by omega) (by omega) (by have hb := hbytes; simp only [Nat.zero_add] at hb; omega)
      rw [e2] at hr
      injection hr with _ hr
      subst hr
      exact own_below ho2 (((Below.refl _ _).drew).alloc (Nat.le_refl _) _)
  · by_cases hroom : n + m ≤ cap
    · have hfit : n * i.size + news.length ≤ cur.size := by rw [hl, hcs, ← Nat.add_mul]; exact Nat.mul_le_mul_right _ hroom
      have e2 := run_append_room (P := P) w t ty e i ht hi g n cap cur hg ad m c news hl hnews h1 hroom hfit
      rw [e2] at hr
      injection hr with _ hr
      subst hr
      rcases ho2.2 with ⟨rfl, rfl⟩ | ⟨g2, cap2, cur2, rfl, hb2, hg2, hnc2, hcm2, hcs2, htake2⟩
      · exact ⟨ho2.1, .inl ⟨rfl, rfl⟩⟩
      · by_cases hgg : g2 = g
        · subst hgg
          rw [hg] at hg2
          injection hg2 with hg2
          injection hg2 with hg2
          subst hg2
          have hle : n2 * i.size ≤ n * i.size := Nat.mul_le_mul_right _ hn2
          have hle2 : n * i.size ≤ cur.size := by omega
          refine ⟨ho2.1, .inr ⟨g2, cap2, _, rfl, hb2, setRow_heap w g2 cur _ e _ hg, hnc2, hcm2, ?_, ?_⟩⟩
          · simp; omega
          · simp only [List.append_assoc]
            rw [List.take_append_of_le_length (by simp; omega), List.take_take, Nat.min_eq_left hle, htake2]
        · exact ⟨ho2.1, .inr ⟨g2, cap2, cur2, rfl, hb2, (setRow_other w g g2 _ hgg).trans hg2, hnc2, hcm2, hcs2, htake2⟩⟩
    · have holds : ∀ j u, xs[j]? = some u → w.cell? ((⟨g, 0, none⟩ : Addr).add j) = some u := hown.cells (g := g) rfl
      have e2 := run_append_grow (P := P) w t ty e i z ht hi hz ⟨g, 0, none⟩ n cap xs hown.1 holds ad m c news hl hnews (by omega) (by omega) (growslice_fits (by omega) hbytes)
      rw [e2] at hr
      injection hr with _ hr
      subst hr
      exact own_below ho2 (((Below.refl _ _).drew).alloc (Nat.le_refl _) _)
/-- append to a row of one's own: where it lies behind it, and which rows are as they were -/
theorem apx_own {P : Program} {w : World} {ops : Array Oper} {rest : List Oper} {o : Oper} {a : Act} {Q : Exit → Act → World → Prop} {t e size bytes : Nat} {z : Value} (E : ElemT P t e z size bytes) (hgd : o.guard = none) (s x : Operand)
    (ho : o.op = .call { callee := .builtin .append, args := #[s, x], argTypes := #[t, t] }) {base : Nat}
    {v : Value} {n : Nat} {xs : List Value} (hs : a.eval s = v) (hown : w.ownsRow base e size v n xs)
    {A : Option Addr} {m c : Nat} {news : List Value} (hx : a.eval x = .slice A m c) (hsl : Sl w size A m c news) (h1 : ∀ u ∈ news, u.oneCell' = true)
    (h63 : n + m ≤ maxLen) (hbytes : (n + m) * bytes ≤ 140737488355328) (hbase : base ≤ w.heap.size)
    (h : ∀ v' w', w'.ownsRow base e size v' (n + m) (xs ++ news) → w.grownBy w' v.ownBlock → (∀ k, v'.ownBlock = some k → v.ownBlock = some k ∨ k = w.heap.size) →
      (∀ (base2 : Nat) (v2 : Value) (n2 : Nat) (xs2 : List Value), n2 ≤ n → w.ownsRow base2 e size v2 n2 xs2 → w'.ownsRow base2 e size v2 n2 xs2) → wpList P ops Q rest (a.put o.dst v') w') : wpList P ops Q (o :: rest) a w := by
  refine wpList_plain hgd fun _ hK => ?_
  obtain ⟨i, hi, hz0, hz1, hz2⟩ := info_parts E.info
  cases A with
  | none =>
    obtain rfl : c = 0 := hsl.nil rfl
    obtain rfl : m = 0 := by have := hsl.le; omega
    obtain rfl : news = [] := List.eq_nil_of_length_eq_zero (by have := hsl.len; simpa using this)
    have hrun := run_append_owned_none (P := P) (w := w) base t o.type e i size E.und hi v n xs hown
    unfold Oper.wp
    simp [execOp, ho, resolve, invoke, builtin, hs, hx, hrun, Result.andThen]
    exact hK _ _ (h v w (by simpa using hown) ⟨rfl, rfl, rfl, Nat.le_refl _, fun _ _ _ => rfl⟩ (fun k hk => .inl hk) (fun _ _ _ _ _ h2 => h2))
  | some ad =>
    obtain ⟨v', w', hr, h2, h3, h4⟩ := run_append_own (P := P) w base t o.type e i z size bytes E.und hi hz0 hz1 hz2 E.zs E.pos v n xs hown ad m c news hsl.len hsl.news h1 h63 hbytes hbase
    have h5 := ap_block (ty := o.type) E.und hi hz0 (hz1.symm ▸ hown) (hz1.symm ▸ hsl.len) hsl.news h1 h63 (hz2.symm ▸ hbytes) hr
    have h6 := ap_rows (ty := o.type) E.und hi hz0 (hz1.symm ▸ hown) (hz1.symm ▸ hsl.len) hsl.news h1 h63 (hz2.symm ▸ hbytes) hr
    rw [hz1] at h6
    unfold Oper.wp execOp
    simp only [ho, resolve, invoke, builtin, Sem.run_bind, Sem.run_pure, Result.andThen_ok, List.map_toArray, List.map_cons, List.map_nil, hs, hx, hr]
    exact hK _ _ (h v' w' h2 h3 h5 h6)

/-! ### many rows of bytes, apart from one another and from the blocks of X -/
structure Many (w : World) (T B : Nat) (X : List Nat) (vs : List Value) (ls : List (List UInt8)) : Prop where
  len : vs.length = ls.length
  own : ∀ (i : Nat) v l, vs[i]? = some v → ls[i]? = some l → w.ownsRow B T 1 v l.length (l.map by8)
  apart : ∀ (i j : Nat) v u k, vs[i]? = some v → vs[j]? = some u → v.ownBlock = some k → u.ownBlock = some k → i = j
  out : ∀ (i : Nat) v k, vs[i]? = some v → v.ownBlock = some k → k ∉ X
variable {w w' : World} {T B : Nat} {X X' M : List Nat} {vs : List Value} {ls : List (List UInt8)}
theorem Many.nil (w : World) (T B : Nat) (X : List Nat) : Many w T B X [] [] := ⟨rfl, by simp, by simp, by simp⟩
theorem Many.get (h : Many w T B X vs ls) (i : Nat) (hi : i < vs.length) : ∃ v l, vs[i]? = some v ∧ ls[i]? = some l ∧ w.ownsRow B T 1 v l.length (l.map by8) := by
  have h1 : vs[i]? = some vs[i] := List.getElem?_eq_getElem hi
  have hi2 : i < ls.length := by rw [← h.len]; exact hi
  have h2 : ls[i]? = some ls[i] := List.getElem?_eq_getElem hi2
  exact ⟨_, _, h1, h2, h.own i _ _ h1 h2⟩
theorem Many.lt (h : Many w T B X vs ls) {i : Nat} {v : Value} {k : Nat} (hv : vs[i]? = some v) (hk : v.ownBlock = some k) : B ≤ k ∧ k < w.heap.size := by
  obtain ⟨v', l, h1, _, h3⟩ := h.get i (List.getElem?_eq_some_iff.1 hv).1
  rw [hv] at h1
  obtain rfl := Option.some.inj h1
  exact h3.lt k hk
theorem Many.keep (h : Many w T B X vs ls) (k : Keep M w w') (hM : ∀ (i : Nat) v b, vs[i]? = some v → v.ownBlock = some b → b ∉ M) : Many w' T B X vs ls :=
  ⟨h.len, fun i v l hv hl => k.own (h.own i v l hv hl) (fun b hb => hM i v b hv hb), h.apart, h.out⟩
theorem Many.keepX (h : Many w T B X vs ls) (k : Keep M w w') (hM : ∀ x ∈ M, x ∈ X) : Many w' T B X vs ls :=
  h.keep k (fun i v b hv hb hx => h.out i v b hv hb (hM b hx))
theorem Many.below (h : Many w T B X vs ls) (k : Below w.heap.size w w') : Many w' T B X vs ls := h.keep (Keep.of_below k []) (by simp)
theorem Many.more (h : Many w T B X vs ls) (hX : ∀ x ∈ X', x ∈ X ∨ w.heap.size ≤ x) : Many w T B X' vs ls :=
  ⟨h.len, h.own, h.apart, fun i v k hv hk hx => by
    rcases hX k hx with h1 | h1
    · exact h.out i v k hv hk h1
    · have := (h.lt hv hk).2
      omega⟩
theorem Many.snoc (h : Many w T B X vs ls) {v : Value} {l : List UInt8} (o : w.ownsRow B T 1 v l.length (l.map by8)) (ha : ∀ (i : Nat) u k, vs[i]? = some u → u.ownBlock = some k → v.ownBlock ≠ some k) (hX : ∀ k, v.ownBlock = some k → k ∉ X) : Many w T B X (vs ++ [v]) (ls ++ [l]) := by
  have hl := h.len
  refine ⟨by simp [hl], fun i u r hu hr => ?_, fun i j u u2 k hu hu2 hk hk2 => ?_, fun i u k hu hk => ?_⟩
  · rw [List.getElem?_append] at hu hr
    rw [hl] at hu
    split at hu
    · rename_i h1
      rw [if_pos h1] at hr
      exact h.own i u r hu hr
    · rename_i h1
      rw [if_neg h1] at hr
      cases hq : i - ls.length with
      | zero => rw [hq] at hu hr; obtain rfl := Option.some.inj hu; obtain rfl := Option.some.inj hr; exact o
      | succ q => rw [hq] at hu; simp at hu
  · rw [List.getElem?_append] at hu hu2
    split at hu <;> split at hu2
    · exact h.apart i j u u2 k hu hu2 hk hk2
    · rename_i h1 h2
      cases hq : j - vs.length with
      | zero => rw [hq] at hu2; obtain rfl := Option.some.inj hu2; exact absurd hk2 (ha i u k hu hk)
      | succ q => rw [hq] at hu2; simp at hu2
    · rename_i h1 h2
      cases hq : i - vs.length with
      | zero => rw [hq] at hu; obtain rfl := Option.some.inj hu; exact absurd hk (ha j u2 k hu2 hk2)
      | succ q => rw [hq] at hu; simp at hu
    · have e1 : i - vs.length = 0 := by
        cases hq : i - vs.length with
        | zero => rfl
        | succ q => rw [hq] at hu; simp at hu
      have e2 : j - vs.length = 0 := by
        cases hq : j - vs.length with
        | zero => rfl
        | succ q => rw [hq] at hu2; simp at hu2
      omega
  · rw [List.getElem?_append] at hu
    split at hu
    · exact h.out i u k hu hk
    · cases hq : i - vs.length with
      | zero => rw [hq] at hu; obtain rfl := Option.some.inj hu; exact hX k hk
      | succ q => rw [hq] at hu; simp at hu
/-- a new row -/
theorem Many.new (h : Many w T B X vs ls) (k : Below w.heap.size w w') {v : Value} {l : List UInt8} {C : Nat} (o : w'.ownsRow C T 1 v l.length (l.map by8)) (hC : w.heap.size ≤ C) (hB : B ≤ w.heap.size) (hX : ∀ x ∈ X, x < w.heap.size) : Many w' T B X (vs ++ [v]) (ls ++ [l]) :=
  (h.below k).snoc (own_mono o (Nat.le_trans hB hC)) (fun i u b hu hb hv => by have h1 := (h.lt hu hb).2; have h2 := (o.lt b hv).1; omega) (fun b hb hx => by have h1 := hX b hx; have h2 := (o.lt b hb).1; omega)
/-- a byte of one of them is written -/
theorem Many.store (h : Many w T B X vs ls) {j : Nat} {g n c : Nat} {l : List UInt8} (hv : vs[j]? = some (.slice (some ⟨g, 0, none⟩) n c)) (hl : ls[j]? = some l) (k : Nat) (x : UInt8) :
    Many (w.setCell ⟨g, k, none⟩ (by8 x)) T B X vs (ls.set j (l.set k x)) := by
  have hj : j < ls.length := (List.getElem?_eq_some_iff.1 hl).1
  refine ⟨by simp [h.len], fun i v r hvi hri => ?_, h.apart, h.out⟩
  by_cases hij : i = j
  · subst hij
    rw [hv] at hvi
    obtain rfl := Option.some.inj hvi
    rw [List.getElem?_set_self hj] at hri
    obtain rfl := Option.some.inj hri
    have o := h.own i _ _ hv hl
    have hn : n = l.length := by
      rcases o.2 with ⟨e, _⟩ | ⟨g', c', cur, e, _⟩
      · cases e
      · injection e
    subst hn
    have := (o.stored k (by8 x)).1
    rw [← List.map_set] at this
    simpa using this
  · rw [List.getElem?_set_ne (fun e => hij e.symm)] at hri
    refine ((Keep.refl [g] w).setCell (.inl (by simp)) (by8 x)).own (h.own i v r hvi hri) (fun b hb hx => hij ?_)
    simp at hx
    subst hx
    exact h.apart i j v _ b hvi hv hb rfl
/-- one of them is gone on with -/
theorem Many.gone (h : Many w T B X vs ls) {j : Nat} {v : Value} {l : List UInt8} (hv : vs[j]? = some v) (hl : ls[j]? = some l) (o : w'.ownsRow B T 1 v l.length (l.map by8)) (k : Keep M w w') (hM : ∀ (i : Nat) u b, vs[i]? = some u → u.ownBlock = some b → b ∈ M → i = j) : Many w' T B X vs ls := by
  refine ⟨h.len, fun i u r hu hr => ?_, h.apart, h.out⟩
  by_cases hij : i = j
  · subst hij
    rw [hv] at hu; rw [hl] at hr
    obtain rfl := Option.some.inj hu; obtain rfl := Option.some.inj hr
    exact o
  · exact k.own (h.own i u r hu hr) (fun b hb hx => hij (hM i u b hu hb hx))
/-- the end of a row behind a place -/
theorem own_drop {w : World} {base e g m cap : Nat} {xs : List Value} (o : w.ownsRow base e 1 (.slice (some ⟨g, 0, none⟩) m cap) m xs) (n : Nat) (hn : n ≤ m) : Sl w 1 (some ⟨g, n, none⟩) (m - n) (cap - n) (xs.drop n) := by
  obtain ⟨_, s, _⟩ := own_sl' o
  have h1 := s.le; have h2 := s.max; have h3 := s.len
  refine ⟨by simp [h3], by omega, by omega, (fun e => by cases e), fun ad he hp => ?_⟩
  obtain rfl := Option.some.inj he
  refine ⟨rfl, fun i hi => ?_⟩
  have hi2 : n + i < xs.length := by simp at hi; omega
  have := s.cell (n + i) hi2
  rw [List.getElem_drop]
  simpa using this
end Go.Proofs.Ytpjmbhhfpoamnaa

namespace Go.Proofs.Ytpjmbhhfpoamnaa
open Go.RowKit
/-! ### a write, crashes and all -/
/-- the flash behind one write more -/
def strikeF (s : FSt) : FSt := match s.armed with
  | [] => { s with writes := s.writes + 1 }
  | c :: r => if s.count + 1 < c.1 then { s with writes := s.writes + 1, count := s.count + 1 } else { s with writes := s.writes + 1, armed := r, count := 0, down := true }
def struckF (s : FSt) : Bool := match s.armed with
  | [] => false
  | c :: _ => !decide (s.count + 1 < c.1)
def keepF (s : FSt) : Nat := match s.armed with
  | [] => 0
  | c :: _ => if s.count + 1 < c.1 then 0 else c.2
theorem crashL_cons (c : Nat × Nat) (r : List (Nat × Nat)) : crashL (c :: r) = .int .i64 (c.1 : Int) :: .int .i64 (c.2 : Int) :: crashL r := rfl
theorem crashL_len (r : List (Nat × Nat)) : (crashL r).length = r.length * 2 := by
  induction r with
  | nil => rfl
  | cons c r ih => rw [crashL_cons]; simp [ih]; omega
theorem crashL_one (r : List (Nat × Nat)) : ∀ u ∈ crashL r, u.oneCell' = true := by
  intro u hu
  unfold crashL at hu
  simp at hu
  obtain ⟨a, b, _, rfl | rfl⟩ := hu <;> rfl
theorem EC : ElemT Try.prog 126 138 (.agg #[.int .i64 0, .int .i64 0]) 2 16 := ⟨Try.underlying126, by kernel_rfl, rfl, by decide⟩
theorem clear_one (w : World) (g o : Nat) (c : Nat) (ty : TypeId) (hc : ∀ j, j < 2 → (w.cell? ⟨g, o + j, none⟩).isSome = true) (hf : ∀ j, j < 2 → w.frozen? ⟨g, o + j, none⟩ = false) :
    (Builtin.clear_ #[126] ty #[.slice (some ⟨g, o, none⟩) 1 c]).run Try.prog w = .ok (.tuple #[]) (w.setCells g o [.int .i64 0, .int .i64 0]) := by
  have hz : ∀ w : World, (zeroValue 138).run Try.prog w = .ok (.agg #[.int .i64 0, .int .i64 0]) w := fun w => by kernel_rfl
  have hst := run_storeCells_cells (P := Try.prog) g o [.int .i64 0, .int .i64 0] 0 w (by simpa using hc) (by simpa using hf) (by intro v hv; simp at hv; rw [hv]; rfl)
  simp only [Nat.add_zero] at hst
  simp [Builtin.clear_, run_underlying Try.underlying126, hz, Value.cells, Builtin.zeroCells]
  rw [show (List.map (fun i => [Value.int IntKind.i64 0, Value.int IntKind.i64 0][i % 2]?.getD default) (List.range 2)) = [.int .i64 0, .int .i64 0] from rfl, hst]
  rfl
def setL (xs : List Value) : Nat → List Value → List Value
  | _, [] => xs
  | o, v :: vs => setL (xs.set o v) (o + 1) vs
theorem setL_out : ∀ (vs xs : List Value) (o : Nat), xs.length ≤ o → setL xs o vs = xs
  | [], xs, o, _ => rfl
  | v :: vs, xs, o, h => by rw [setL, List.set_eq_of_length_le h]; exact setL_out vs xs (o + 1) (by omega)
theorem setL_in : ∀ (vs xs : List Value) (o : Nat), o + vs.length ≤ xs.length → setL xs o vs = xs.take o ++ vs ++ xs.drop (o + vs.length)
  | [], xs, o, h => by simp [setL]
  | v :: vs, xs, o, h => by
    simp only [List.length_cons] at h
    rw [setL, setL_in vs (xs.set o v) (o + 1) (by simp; omega)]
    rw [List.take_set, List.drop_set_of_lt (by omega), List.take_succ_eq_append_getElem (by omega), List.set_append_right _ _ (by simp; omega)]
    simp
    rw [Nat.min_eq_left (by omega)]
    simp
    congr 1
    omega
theorem own_setCells {base e size g n cap : Nat} : ∀ (vs : List Value) (o : Nat) (w : World) (xs : List Value), w.ownsRow base e size (.slice (some ⟨g, 0, none⟩) n cap) n xs → (w.setCells g o vs).ownsRow base e size (.slice (some ⟨g, 0, none⟩) n cap) n (setL xs o vs)
  | [], o, w, xs, h => h
  | v :: vs, o, w, xs, h => own_setCells vs (o + 1) _ _ (h.stored o v).1
theorem keep_setCells {M : List Nat} {g : Nat} (hg : g ∈ M) : ∀ (vs : List Value) (o : Nat) (w w0 : World), Keep M w0 w → Keep M w0 (w.setCells g o vs)
  | [], o, w, w0, h => h
  | v :: vs, o, w, w0, h => keep_setCells hg vs (o + 1) _ w0 (h.setCell (.inl hg) v)
theorem own_less {w : World} {base e size g n m cap : Nat} {xs : List Value} (h : w.ownsRow base e size (.slice (some ⟨g, 0, none⟩) n cap) n xs) (hm : m ≤ n) : w.ownsRow base e size (.slice (some ⟨g, 0, none⟩) m cap) m (xs.take (m * size)) := by
  rcases h.2 with ⟨h', _⟩ | ⟨g', cap', cur, h', hb, hg, h1, h2, h3, h4⟩
  · cases h'
  · injection h' with e1 e2 e3
    injection e1 with e1
    injection e1 with e1 _ _
    subst e1; subst e3
    have hle : m * size ≤ n * size := Nat.mul_le_mul_right _ hm
    refine ⟨by rw [List.length_take, h.1]; omega, .inr ⟨g, cap, cur, rfl, hb, hg, by omega, h2, h3, ?_⟩⟩
    rw [← h4, List.take_take, Nat.min_eq_left hle]
set_option maxRecDepth 100000 in
set_option maxHeartbeats 1600000 in
/-- slices.Delete of the first crash -/
theorem crash_Delete (w : World) {g cap : Nat} {c : Nat × Nat} {r : List (Nat × Nat)} (h : w.ownsRow 0 138 2 (.slice (some ⟨g, 0, none⟩) (r.length + 1) cap) (r.length + 1) (crashL (c :: r))) (hl : r.length ≤ 100) :
    Calls Try.prog 117 #[.slice (some ⟨g, 0, none⟩) (r.length + 1) cap, .int .i64 0, .int .i64 1] w fun e w' => e = .returned (.slice (some ⟨g, 0, none⟩) r.length cap) ∧
      w'.ownsRow 0 138 2 (.slice (some ⟨g, 0, none⟩) r.length cap) r.length (crashL r) ∧ Keep [g] w w' := by
  obtain ⟨_, s, _⟩ := own_sl' h
  have hc1 := s.le; have hc2 := s.max
  obtain ⟨n, hn⟩ : ∃ n, n = r.length := ⟨_, rfl⟩
  have HN := Lib.hid hn
  rw [← hn] at h hl s hc1 ⊢
  obtain ⟨i0, hi, hz0, hz1, hz2⟩ := info_parts EC.info
  have hfz : ∀ j, w.frozen? ⟨g, j, none⟩ = false := fun j => h.frozenAt j
  have hcl : ∀ j, j < (n + 1) * 2 → ∃ v, w.cell? ⟨g, j, none⟩ = some v := fun j hj => own_cell h j hj
  have H := Lib.hid h
  have hlen : (crashL r).length = n * 2 := by rw [crashL_len, hn]
  have hsrc : ∀ t u, (crashL r)[t]? = some u → w.drew.cell? ((⟨g, 2, none⟩ : Addr).add t) = some u := fun t u hu => by
    have ht : t < n * 2 := by rw [← hlen]; exact (List.getElem?_eq_some_iff.1 hu).1
    have e1 := h.cellAt (2 + t) (by omega)
    rw [crashL_cons] at e1
    have e2 : (⟨g, 2, none⟩ : Addr).add t = ⟨g, 2 + t, none⟩ := by unfold Addr.add; split <;> simp_all
    rw [e2]
    show w.cell? _ = _
    rw [e1, show 2 + t = t + 1 + 1 by omega]
    simpa using hu
  obtain ⟨A, hA, hs1⟩ : ∃ A : Addr, (if cap = 1 then (some (⟨g, 0, none⟩ : Addr)) else some ⟨g, 2, none⟩) = some A ∧ Hid (∀ t u, (crashL r)[t]? = some u → w.drew.cell? (A.add t) = some u) := by
    by_cases hcap : cap = 1
    · refine ⟨_, by rw [if_pos hcap], fun t u hu => ?_⟩
      have : (crashL r).length = 0 := by omega
      have := (List.getElem?_eq_some_iff.1 hu).1
      omega
    · exact ⟨_, by rw [if_neg hcap], hsrc⟩
  have hsp : Hid (∀ j, j < (crashL r).length → (w.drew.cell? ⟨g, 0 + 0 * 2 + j, none⟩).isSome = true ∧ w.drew.frozen? ⟨g, 0 + 0 * 2 + j, none⟩ = false) := Lib.hid (fun j hj => by
    obtain ⟨v, hv⟩ := hcl j (by omega)
    refine ⟨?_, hfz _⟩
    show (w.cell? _).isSome = true
    rw [show 0 + 0 * 2 + j = j by omega, hv]; rfl)
  have hlenH := Lib.hid hlen
  obtain ⟨W1, hW1⟩ : ∃ W1, W1 = w.drew.setCells g (0 + 0 * 2) (crashL r) := ⟨_, rfl⟩
  have O1 : W1.ownsRow 0 138 2 (.slice (some ⟨g, 0, none⟩) (n + 1) cap) (n + 1) (setL (crashL (c :: r)) 0 (crashL r)) := by
    rw [hW1]
    exact own_setCells (crashL r) 0 w.drew _ (own_below h ((Below.refl _ _).drew))
  have K1 : Keep [g] w W1 := by rw [hW1]; exact keep_setCells (by simp) _ _ _ _ ((Keep.refl _ _).drew)
  have hcl2 : ∀ ty, (Builtin.clear_ #[126] ty #[.slice (some ⟨g, n * 2, none⟩) 1 (cap - n)]).run Try.prog W1 = .ok (.tuple #[]) (W1.setCells g (n * 2) [.int .i64 0, .int .i64 0]) := fun ty => clear_one W1 g (n * 2) (cap - n) ty (fun j hj => by
    obtain ⟨v, hv⟩ := own_cell O1 (n * 2 + j) (by omega)
    rw [hv]; rfl) (fun j hj => O1.frozenAt _)
  have hfin : (W1.setCells g (n * 2) [.int .i64 0, .int .i64 0]).ownsRow 0 138 2 (.slice (some ⟨g, 0, none⟩) n cap) n (crashL r) ∧ Keep [g] w (W1.setCells g (n * 2) [.int .i64 0, .int .i64 0]) := by
    refine ⟨?_, keep_setCells (by simp) _ _ _ _ K1⟩
    have h1 := own_less (own_setCells [.int .i64 0, .int .i64 0] (n * 2) W1 _ O1) (Nat.le_succ n)
    have e1 : (setL (crashL (c :: r)) 0 (crashL r)) = crashL r ++ (crashL (c :: r)).drop (n * 2) := by
      rw [setL_in _ _ _ (by rw [crashL_cons]; simp; omega), hlen]
      simp
    have l1 : (crashL (c :: r)).length = n * 2 + 2 := by rw [crashL_cons]; simp [hlen]
    have e2 : (setL (setL (crashL (c :: r)) 0 (crashL r)) (n * 2) [.int .i64 0, .int .i64 0]).take (n * 2) = crashL r := by
      rw [e1, setL_in _ _ _ (by simp [hlen, l1]), List.append_assoc, List.take_append_of_le_length (by simp [hlen, l1]), List.take_take, Nat.min_self, List.take_append_of_le_length (by omega), List.take_of_length_le (by omega)]
    rwa [e2] at h1
  have HF := Lib.hid hfin
  have HW : Hid (W1 = w.drew.setCells g (0 + 0 * 2) (crashL r)) := Lib.hid hW1
  have i1 : (1 : Int) ≤ (n : Int) + 1 := by omega
  clear hfin O1 K1 hW1 hsrc hlen hcl hfz h s hn
  by_cases hcap : cap = 1
  · rw [if_pos hcap] at hA
    obtain rfl := Option.some.inj hA
    clear hA
    obtain rfl : n = 0 := by omega
    subst hcap
    go_enter Try.func117, Try.ntmps117
    go_wp2_with fail
    go_region_held3 (fun w' => True) (trivial) (first | (refine step_append_room rfl (.tmp 22) (.tmp 25) 126 rfl 138 i0 2 Try.underlying126 hi hz1 g 0 0 1 (by simp [Act.eval, Act.put]) ⟨g, 0, none⟩ 0 0 (crashL r) (by simp [Act.eval, Act.put]) hlenH.out hs1.out (crashL_one r) (by omega) hsp.out ?_; rw [← HW.out]))
    all_goals
      have hcl3 : ∀ ty, (Builtin.clear_ #[126] ty #[.slice (some ⟨g, 0, none⟩) 1 1]).run Try.prog W1 = .ok (.tuple #[]) (W1.setCells g 0 [.int .i64 0, .int .i64 0]) := fun ty => hcl2 ty
      clear hcl2
      go_wp2
      go_ret
      exact ⟨rfl, HF.out.1, HF.out.2⟩
  · rw [if_neg hcap] at hA
    obtain rfl := Option.some.inj hA
    clear hA
    go_enter Try.func117, Try.ntmps117
    go_wp2_with fail
    go_region_held3 (fun w' => True) (trivial) (first | (refine step_append_room rfl (.tmp 22) (.tmp 25) 126 rfl 138 i0 2 Try.underlying126 hi hz1 g 0 0 cap (by simp [Act.eval, Act.put]) ⟨g, 2, none⟩ n (cap - 1) (crashL r) (by simp [Act.eval, Act.put]) hlenH.out hs1.out (crashL_one r) (by omega) hsp.out ?_; rw [← HW.out]))
    all_goals
      go_wp2
      go_ret
      exact ⟨rfl, HF.out.1, HF.out.2⟩
/-- a flash's block behind two rows' worth of steps: the crashes turned -/
theorem Fl.struck {w w2 : World} {p : Nat} {G : List Nat} {s : FSt} (h : Fl w p G s) {v0 v1 va va' : Value} {cs : Array Value} (hb : w2.heap[p]? = some (.cells cs 128 (0, 0))) (s' : FSt) (hcs : cs = #[.int .i64 s'.size, v0, v1, va', .int .i64 s'.count, .int .i64 s'.writes, .bool s'.down])
    (h0 : w2.ownsRow 0 5 1 v0 s'.b0.length (s'.b0.map by8)) (h1 : w2.ownsRow 0 5 1 v1 s'.b1.length (s'.b1.map by8)) (ha : w2.ownsRow 0 138 2 va' s'.armed.length (crashL s'.armed))
    (k0 : ∀ k, v0.ownBlock = some k → k ≠ p ∧ k ∈ G ∧ v1.ownBlock ≠ some k ∧ va.ownBlock ≠ some k) (k1 : ∀ k, v1.ownBlock = some k → k ≠ p ∧ k ∈ G ∧ va.ownBlock ≠ some k) (ka : ∀ k, va.ownBlock = some k → k ≠ p ∧ k ∈ G) (hva : va'.ownBlock = va.ownBlock)
    (k : Keep G w w2) : FStep w w2 p G s' := by
  subst hcs
  exact ⟨G, ⟨⟨v0, v1, va', hb, h0, h1, ha, fun j hj => by rw [hva]; exact k0 j hj, fun j hj => by rw [hva]; exact k1 j hj, fun j hj => ka j (hva ▸ hj)⟩, h.mem, fun x hx => Nat.lt_of_lt_of_le (h.lts x hx) k.size⟩, k, fun x hx => .inl hx⟩
set_option maxRecDepth 100000 in
set_option maxHeartbeats 1600000 in
theorem flash_write (w : World) {p : Nat} {G : List Nat} {s : FSt} (h : Fl w p G s) (hw : s.writes ≤ 4611686018427387904) (hc : s.count ≤ 4611686018427387904) (hal : s.armed.length ≤ 100) (hav : ∀ c ∈ s.armed, c.1 ≤ 1000000 ∧ c.2 ≤ 1048576) :
    Calls Try.prog 76 #[.pointer (some ⟨p, 0, none⟩)] w fun e w' => e = .returned (.tuple #[.int .i64 (keepF s), .bool (struckF s)]) ∧ FStep w w' p G (strikeF s) := by
  cases harm : s.armed with
  | nil =>
    refine (flash_write_calm w h harm hw).mono fun e w' ⟨he, k⟩ => ⟨?_, ?_⟩
    · rw [he]; simp [keepF, struckF, harm]
    · simpa [strikeF, harm] using k
  | cons c r =>
    obtain ⟨v0, v1, va, hb, h0, h1, ha, k0, k1, ka⟩ := h.out
    have hm := h.mem
    rw [harm] at ha hal
    obtain ⟨g, cap, rfl, _, _, _⟩ := own_form ha (by simp)
    have hgp := (ka g rfl).1
    have hpg : ¬ p = g := fun e => hgp e.symm
    have cc0 : w.cell? ⟨g, 0, none⟩ = some (.int .i64 (c.1 : Int)) := ha.cellAt 0 (by simp)
    have cc1 : w.cell? ⟨g, 1, none⟩ = some (.int .i64 (c.2 : Int)) := ha.cellAt 1 (by simp; omega)
    obtain ⟨n, hn⟩ : ∃ n, n = r.length := ⟨_, rfl⟩
    rw [show (c :: r).length = n + 1 by rw [hn]; rfl] at hb ha hal
    have c3 : w.cell? ⟨p, 3, none⟩ = some (.slice (some ⟨g, 0, none⟩) (n + 1) cap) := box_cell hb 3 _ rfl
    have c4 : w.cell? ⟨p, 4, none⟩ = some (.int .i64 (s.count : Int)) := box_cell hb 4 _ rfl
    have c5 : w.cell? ⟨p, 5, none⟩ = some (.int .i64 (s.writes : Int)) := box_cell hb 5 _ rfl
    have c6 : w.cell? ⟨p, 6, none⟩ = some (.bool s.down) := box_cell hb 6 _ rfl
    have f3 := box_free hb 3; have f4 := box_free hb 4; have f5 := box_free hb 5; have f6 := box_free hb 6
    have hc1 := hav c (by rw [harm]; simp)
    obtain ⟨c1, c2⟩ := c
    obtain ⟨cnt, hcnt⟩ : ∃ x, x = s.count := ⟨_, rfl⟩
    obtain ⟨wrt, hwrt⟩ : ∃ x, x = s.writes := ⟨_, rfl⟩
    simp only at cc0 cc1 hc1
    have hpl := cell_lt c3
    have hgl := cell_lt cc0
    have HB := Lib.hid (And.intro (And.intro hb (And.intro h0 (And.intro h1 ha))) (And.intro k0 (And.intro k1 ka)))
    have HE := Lib.hid (And.intro (And.intro hcnt hwrt) (And.intro hn harm))
    have HH := Lib.hid h
    rw [← hcnt] at c4 hc; rw [← hwrt] at c5 hw
    clear hb h0 h1 ha k0 k1 ka hcnt hwrt hn harm h hav
    obtain ⟨W3, hW3⟩ : ∃ W3, W3 = ((w.setCell ⟨p, 5, none⟩ (.int .i64 ((wrt : Int) + 1))).setCell ⟨p, 4, none⟩ (.int .i64 ((cnt : Int) + 1))).alloc (.cells #[.int .i64 (c1 : Int), .int .i64 (c2 : Int)] 138) := ⟨_, rfl⟩
    have HS := HB.out
    have b1 := heap_setCell_same w p 5 _ _ (.int .i64 ((wrt : Int) + 1)) HS.1.1
    have b2 := heap_setCell_same _ p 4 _ _ (.int .i64 ((cnt : Int) + 1)) b1
    have k3 : Keep [p] w W3 := by rw [hW3]; exact (((Keep.refl [p] w).setCell (p := ⟨p, 5, none⟩) (.inl (by simp)) _).setCell (p := ⟨p, 4, none⟩) (.inl (by simp)) _).alloc _
    have b3 : W3.heap[p]? = some (.cells #[.int .i64 s.size, v0, v1, .slice (some ⟨g, 0, none⟩) (n + 1) cap, .int .i64 ((cnt : Int) + 1), .int .i64 ((wrt : Int) + 1), .bool s.down] 128 (0, 0)) := by
      rw [hW3]
      refine ((Keep.refl [] _).alloc _).heap ?_ (by simp)
      simpa using b2
    have n0 : W3.cell? ⟨w.heap.size, 0, none⟩ = some (.int .i64 (c1 : Int)) := by
      have := box_cell (heap_alloc_new ((w.setCell ⟨p, 5, none⟩ (.int .i64 ((wrt : Int) + 1))).setCell ⟨p, 4, none⟩ (.int .i64 ((cnt : Int) + 1))) (.cells #[.int .i64 (c1 : Int), .int .i64 (c2 : Int)] 138)) 0 _ rfl
      rw [hW3]; simpa using this
    have n1 : W3.cell? ⟨w.heap.size, 1, none⟩ = some (.int .i64 (c2 : Int)) := by
      have := box_cell (heap_alloc_new ((w.setCell ⟨p, 5, none⟩ (.int .i64 ((wrt : Int) + 1))).setCell ⟨p, 4, none⟩ (.int .i64 ((cnt : Int) + 1))) (.cells #[.int .i64 (c1 : Int), .int .i64 (c2 : Int)] 138)) 1 _ rfl
      rw [hW3]; simpa using this
    have d3 : W3.cell? ⟨p, 3, none⟩ = some (.slice (some ⟨g, 0, none⟩) (n + 1) cap) := box_cell b3 3 _ rfl
    have d4 : W3.cell? ⟨p, 4, none⟩ = some (.int .i64 ((cnt : Int) + 1)) := box_cell b3 4 _ rfl
    have o0 := k3.own HS.1.2.1 (fun k hk hx => by have := (HS.2.1 k hk).1; simp at hx; exact this hx)
    have o1 := k3.own HS.1.2.2.1 (fun k hk hx => by have := (HS.2.2.1 k hk).1; simp at hx; exact this hx)
    have oa := k3.own HS.1.2.2.2 (fun k hk hx => by have := (HS.2.2.2 k hk).1; simp at hx; exact this hx)
    have HO := Lib.hid (And.intro b3 (And.intro o0 (And.intro o1 (And.intro oa k3))))
    clear b1 b2 b3 o0 o1 oa k3 HS
    by_cases hlt : cnt + 1 < c1
    · have i1 : (cnt : Int) + 1 < (c1 : Int) := by omega
      have HR : Hid (keepF s = 0 ∧ struckF s = false ∧ strikeF s = { s with writes := wrt + 1, count := cnt + 1 }) := Lib.hid (by
        have h1 := HE.out.2.2
        have h2 : s.count + 1 < c1 := by rw [← HE.out.1.1]; exact hlt
        refine ⟨by simp [keepF, h1, h2], by simp [struckF, h1, h2], by simp [strikeF, h1, h2, HE.out.1.1, HE.out.1.2]⟩)
      clear hlt
      go_enter Try.func76, Try.ntmps76
      go_wp2_with fail
      rw [← hW3]
      clear hW3
      go_quiet (fail)
      go_wp2
      go_ret2
      have hdr : ∀ m, Below W3.heap.size W3 (W3.drewN m) := fun m => below_drewN (Below.refl _ _) m
      refine ⟨by rw [HR.out.1, HR.out.2.1]; rfl, ?_⟩
      rw [HR.out.2.2]
      refine HH.out.struck (w2 := W3.drewN nq) (va := .slice (some ⟨g, 0, none⟩) (n + 1) cap) (va' := .slice (some ⟨g, 0, none⟩) (n + 1) cap) (v0 := v0) (v1 := v1) (cs := #[.int .i64 s.size, v0, v1, .slice (some ⟨g, 0, none⟩) (n + 1) cap, .int .i64 ((cnt : Int) + 1), .int .i64 ((wrt : Int) + 1), .bool s.down]) HO.out.1 { s with writes := wrt + 1, count := cnt + 1 } rfl (own_below HO.out.2.1 (hdr nq)) (own_below HO.out.2.2.1 (hdr nq)) ?_ HB.out.2.1 HB.out.2.2.1 HB.out.2.2.2 rfl ?_
      · have := HO.out.2.2.2.1
        rw [← HE.out.2.2] at this
        have e : s.armed.length = n + 1 := by rw [HE.out.2.2, HE.out.2.1]; rfl
        show World.ownsRow _ _ _ _ _ s.armed.length _
        rw [e]
        exact own_below this (hdr nq)
      · exact (HO.out.2.2.2.2.mono (by intro x hx; simp at hx; subst hx; exact hm)).drewN _
    · have i1 : decide ((cnt : Int) + 1 < (c1 : Int)) = false := decide_eq_false (by omega)
      have HR : Hid (keepF s = c2 ∧ struckF s = true ∧ strikeF s = { s with writes := wrt + 1, count := 0, armed := r, down := true }) := Lib.hid (by
        have h1 := HE.out.2.2
        have h2 : ¬ s.count + 1 < c1 := by rw [← HE.out.1.1]; exact hlt
        refine ⟨by simp [keepF, h1, h2], by simp [struckF, h1, h2], by simp [strikeF, h1, h2, HE.out.1.2]⟩)
      have HD := Lib.hid (fun m : Nat => show Calls Try.prog 117 #[.slice (some ⟨g, 0, none⟩) (n + 1) cap, .int .i64 0, .int .i64 1] (W3.drewN m) (fun e w' => e = .returned (.slice (some ⟨g, 0, none⟩) n cap) ∧ w'.ownsRow 0 138 2 (.slice (some ⟨g, 0, none⟩) n cap) n (crashL r) ∧ Keep [g] (W3.drewN m) w') by
        have hn := HE.out.2.1
        have ho := own_below HO.out.2.2.2.1 (below_drewN (Below.refl _ W3) m)
        rw [hn] at ho ⊢
        exact crash_Delete (W3.drewN m) (c := (c1, c2)) ho (by omega))
      clear hlt
      go_enter Try.func76, Try.ntmps76
      go_wp2_with fail
      rw [← hW3]
      clear hW3
      go_quiet (fail)
      go_wp2_with (first | (at_builtin; refine Stopped.out ?_) | (at_make; refine Stopped.out ?_))
      refine (HD.out _).mono ?_
      rintro e w4 ⟨rfl, ra, hk4⟩
      have hk4' : Keep [g] W3 w4 := (Keep.of_below (below_drewN (Below.refl _ W3) nq) [g]).trans hk4
      have b4 := hk4'.heap HO.out.1 (by simpa using hpg)
      have e3 := box_cell b4 3 _ rfl
      have e4 := box_cell b4 4 _ rfl
      have e6 := box_cell b4 6 _ rfl
      have x3 := box_free b4 3; have x4 := box_free b4 4; have x6 := box_free b4 6
      have n1' := hk4'.cell n1 (by simp; omega)
      have hwp : ¬ p = w.heap.size := by omega
      have HZ := Lib.hid (And.intro b4 (And.intro (hk4'.own HO.out.2.1 (fun k hk hx => by have := (HB.out.2.1 k hk).2.2.2; simp at hx; subst hx; exact this rfl)) (And.intro (hk4'.own HO.out.2.2.1 (fun k hk hx => by have := (HB.out.2.2.1 k hk).2.2; simp at hx; subst hx; exact this rfl)) (And.intro ra (HO.out.2.2.2.2.mono (M' := G) (by intro x hx; simp at hx; subst hx; exact hm) |>.trans (hk4'.mono (by intro x hx; simp at hx; subst hx; exact (HB.out.2.2.2 _ rfl).2)))))))
      clear hk4 hk4' b4 ra d3 d4 n0 n1 cc0 cc1 c3 c4 c5 c6
      go_wp2
      go_ret2
      refine ⟨by rw [HR.out.1, HR.out.2.1]; rfl, ?_⟩
      rw [HR.out.2.2]
      have hb5 := heap_setCell_same _ p 6 _ _ (.bool true) (heap_setCell_same _ p 4 _ _ (.int .i64 0) (heap_setCell_same w4 p 3 _ _ (.slice (some ⟨g, 0, none⟩) n cap) HZ.out.1))
      have kk : Keep [p] w4 (((w4.setCell ⟨p, 3, none⟩ (.slice (some ⟨g, 0, none⟩) n cap)).setCell ⟨p, 4, none⟩ (.int .i64 0)).setCell ⟨p, 6, none⟩ (.bool true)) := (((Keep.refl [p] w4).setCell (p := ⟨p, 3, none⟩) (.inl (by simp)) _).setCell (p := ⟨p, 4, none⟩) (.inl (by simp)) _).setCell (p := ⟨p, 6, none⟩) (.inl (by simp)) _
      have hn : r.length = n := HE.out.2.1.symm
      refine HH.out.struck (va := .slice (some ⟨g, 0, none⟩) (n + 1) cap) (va' := .slice (some ⟨g, 0, none⟩) n cap) (v0 := v0) (v1 := v1) (cs := #[.int .i64 s.size, v0, v1, .slice (some ⟨g, 0, none⟩) n cap, .int .i64 0, .int .i64 ((wrt : Int) + 1), .bool true]) (by simpa using hb5) { s with writes := wrt + 1, armed := r, count := 0, down := true } rfl
        (kk.own HZ.out.2.1 (fun k hk hx => by have := (HB.out.2.1 k hk).1; simp at hx; exact this hx)) (kk.own HZ.out.2.2.1 (fun k hk hx => by have := (HB.out.2.2.1 k hk).1; simp at hx; exact this hx)) ?_ HB.out.2.1 HB.out.2.2.1 HB.out.2.2.2 rfl (HZ.out.2.2.2.2.trans (kk.mono (by intro x hx; simp at hx; subst hx; exact hm)))
      show World.ownsRow _ _ _ _ _ r.length _
      rw [hn]
      exact kk.own HZ.out.2.2.2.1 (fun k hk hx => by obtain rfl := Option.some.inj hk; simp at hx; exact hgp hx)
end Go.Proofs.Ytpjmbhhfpoamnaa

namespace Go.Proofs.Ytpjmbhhfpoamnaa
open Go.RowKit
def addB (s : FSt) (n : Nat) (l : List UInt8) : FSt := if n = 0 then { s with b0 := s.b0 ++ l } else { s with b1 := s.b1 ++ l }
theorem strikeF_b0 (s : FSt) : (strikeF s).b0 = s.b0 := by unfold strikeF; split <;> (try split) <;> rfl
theorem strikeF_b1 (s : FSt) : (strikeF s).b1 = s.b1 := by unfold strikeF; split <;> (try split) <;> rfl
theorem strikeF_size (s : FSt) : (strikeF s).size = s.size := by unfold strikeF; split <;> (try split) <;> rfl
theorem keepF_le (s : FSt) (h : ∀ c ∈ s.armed, c.1 ≤ 1000000 ∧ c.2 ≤ 1048576) : keepF s ≤ 1048576 := by
  unfold keepF
  split
  · omega
  · rename_i c r hc
    have := h c (by rw [hc]; simp)
    split <;> omega
structure FOk (s : FSt) : Prop where
  size : s.size ≤ 1048576
  b0 : s.b0.length ≤ s.size
  b1 : s.b1.length ≤ s.size
  writes : s.writes ≤ 4611686018427387904
  count : s.count ≤ 4611686018427387904
  armed : s.armed.length ≤ 64
  vals : ∀ c ∈ s.armed, c.1 ≤ 1000000 ∧ c.2 ≤ 1048576
set_option maxRecDepth 100000 in
set_option maxHeartbeats 1600000 in
theorem flash_Append_any0 (w : World) {p : Nat} {G : List Nat} {s : FSt} (h : Fl w p G s) (hk : FOk s) (hd : s.down = false) {A : Option Addr} {m c : Nat} {l : List UInt8} (hb : Sl w 1 A m c (l.map by8)) (hA : ∀ ad, A = some ad → 0 < m → ad.block ∉ G) (hroom : s.b0.length + m ≤ s.size) :
    Calls Try.prog 23 #[.pointer (some ⟨p, 0, none⟩), .int .i64 0, .slice A m c] w fun e w' => e = .returned (.int .i64 (if struckF s then 121 else 0 : Nat)) ∧ FStep w w' p G (addB (strikeF s) 0 (if struckF s then l.take (keepF s) else l)) := by
  obtain ⟨B, d, hc, sb⟩ := h.bank 0 (by decide)
  have c0 := h.cellSize
  have hs := hk.size
  have hl : l.length = m := by simpa using hb.len
  have HA := Lib.hid (flash_at_yes w h 0 (by decide) hd)
  have hbk : bankF s 0 = s.b0 := rfl
  rw [hbk] at hc
  have hc' : w.cell? ⟨p, 1, none⟩ = some (.slice B s.b0.length d) := hc
  obtain ⟨q, hle⟩ : ∃ q, q = s.b0.length := ⟨_, rfl⟩
  obtain ⟨z, hz⟩ : ∃ z, z = s.size := ⟨_, rfl⟩
  have HQ := Lib.hid hle
  have HK := Lib.hid hk
  have HKP := Lib.hid (keepF_le s hk.vals)
  rw [← hle] at hc' hroom
  rw [← hz] at c0 hs hroom
  have i1 : decide ((z : Int) - q < m) = false := decide_eq_false (by omega)
  have hmc := hb.le; have hmx := hb.max
  have HB := Lib.hid (And.intro hb (And.intro hA hl))
  clear hle hz sb hc hbk hk hb hA hl
  cases hst : struckF s
  · rw [if_neg (by simp), if_neg (by simp)]
    have HST := Lib.hid hst
    have HL := Lib.hid (show ∃ l', l' = l ∧ m = l'.length from ⟨l, rfl, HB.out.2.2.symm⟩)
    clear hst
    go_enter Try.func23, Try.ntmps23
    go_wp2_with (first | (at_builtin; refine Stopped.out ?_) | (at_make; refine Stopped.out ?_))
    refine HA.out.mono ?_
    rintro e w' ⟨rfl, rfl⟩
    go_wp2
    go_quiet (fail)
    go_wp2_with (first | (at_builtin; refine Stopped.out ?_) | (at_make; refine Stopped.out ?_))
    have hbd : Below w.heap.size w (w.drewN nq) := below_drewN (Below.refl _ _) nq
    refine (flash_write _ (h.below hbd) HK.out.writes HK.out.count (by have := HK.out.armed; omega) HK.out.vals).mono ?_
    rintro e w1 ⟨rfl, hst⟩
    rw [HST.out]
    skip
    obtain ⟨G1, h1, hk1, hG1⟩ := hst.out
    have hkw : Keep G w w1 := (Keep.of_below hbd G).trans hk1
    have hb1 := HB.out.1.keepz hkw HB.out.2.1
    obtain ⟨v0, v1, va, hblk, r0, r1, ra, k0, k1, ka⟩ := h1.out
    rw [strikeF_b0] at r0
    rw [strikeF_b1] at r1
    obtain ⟨A0, c0', rfl, _, _⟩ := own_sl r0
    have d1 := box_cell hblk 1 (.slice A0 s.b0.length c0') rfl
    clear hst
    go_wp2_with (first | (at_builtin; refine Stopped.out ?_) | (at_make; refine Stopped.out ?_))
    refine Stopped.mk (apk_own EF rfl (.tmp 47) (.tmp 48) rfl rfl r0 rfl hb1 (u8_one l) (by simp only [maxLen]; have := HQ.out; show s.b0.length + m ≤ _; omega) (by have := HQ.out; show (s.b0.length + m) * 1 ≤ _; omega) (Nat.zero_le _) ?_)
    intro v' w2 o2 hg2 hv2
    rw [← List.map_append] at o2
    have o2' : w2.ownsRow 0 5 1 v' (s.b0 ++ l).length ((s.b0 ++ l).map by8) := by rw [List.length_append, HB.out.2.2]; exact o2
    have HF := Lib.hid (FStep.thn hkw (fun x hx => (hG1 x hx).imp id (fun h => h)) (h1.app0 hblk (by rw [strikeF_b1]; exact r1) ra k0 k1 ka o2' hg2 hv2))
    have hpb : w2.heap[p]? = _ := (hg2.block p (h1.lts p h1.mem) (fun e => (k0 p e.symm).1 rfl)).trans hblk
    have e1 := box_cell hpb 1 _ rfl
    have f1 := box_free hpb 1
    obtain ⟨A2, c2, rfl, _, _⟩ := own_sl o2'
    clear hblk r0 r1 ra o2 o2' hg2 hv2 hpb d1
    go_wp2
    go_ret
    exact ⟨rfl, by simpa [addB, strikeF_b0] using HF.out⟩
  · rw [if_pos rfl, if_pos rfl]
    have HST := Lib.hid hst
    clear hst
    obtain ⟨kp, hkp⟩ : ∃ kp, kp = keepF s := ⟨_, rfl⟩
    have HKE := Lib.hid hkp
    have hkb : kp ≤ 1048576 := by rw [hkp]; exact HKP.out
    obtain ⟨m', hm'⟩ : ∃ m', m' = min kp m := ⟨_, rfl⟩
    have hmm : m' ≤ m := by omega
    have hM : ∀ (ats : Array TypeId) (ty : TypeId) (w : World), (Builtin.min_ ats ty #[.int .i64 (kp : Int), .int .i64 (m : Int)]).run Try.prog w = .ok (.int .i64 (m' : Int)) w := fun ats ty w => by rw [show (m' : Int) = min (kp : Int) (m : Int) by omega]; exact run_min _ _ ats ty w
    have HT : Hid (l.take m' = l.take kp ∧ (l.take kp).length = m') := Lib.hid (by
      have := HB.out.2.2
      refine ⟨?_, by simp; omega⟩
      rw [hm']
      rcases Nat.lt_or_ge kp m with h1 | h1
      · rw [Nat.min_eq_left (by omega)]
      · rw [Nat.min_eq_right h1, List.take_of_length_le (by omega), List.take_of_length_le (by omega)])
    rw [← hkp]
    have iq0 : (0 : Int) ≤ (m' : Int) := Int.natCast_nonneg _
    have iq1 : (m' : Int) ≤ (c : Int) := by omega
    clear hkp hm'
    go_enter Try.func23, Try.ntmps23
    go_wp2_with (first | (at_builtin; refine Stopped.out ?_) | (at_make; refine Stopped.out ?_))
    refine HA.out.mono ?_
    rintro e w' ⟨rfl, rfl⟩
    go_wp2
    go_quiet (fail)
    go_wp2_with (first | (at_builtin; refine Stopped.out ?_) | (at_make; refine Stopped.out ?_))
    have hbd : Below w.heap.size w (w.drewN nq) := below_drewN (Below.refl _ _) nq
    refine (flash_write _ (h.below hbd) HK.out.writes HK.out.count (by have := HK.out.armed; omega) HK.out.vals).mono ?_
    rintro e w1 ⟨rfl, hst⟩
    rw [HST.out]
    rw [← HKE.out]
    obtain ⟨G1, h1, hk1, hG1⟩ := hst.out
    have hkw : Keep G w w1 := (Keep.of_below hbd G).trans hk1
    have hb1 := HB.out.1.keepz hkw HB.out.2.1
    obtain ⟨v0, v1, va, hblk, r0, r1, ra, k0, k1, ka⟩ := h1.out
    rw [strikeF_b0] at r0
    rw [strikeF_b1] at r1
    obtain ⟨A0, c0', rfl, _, _⟩ := own_sl r0
    have d1 := box_cell hblk 1 (.slice A0 s.b0.length c0') rfl
    clear hst
    go_wp2_with (first | (at_builtin; refine Stopped.out ?_) | (at_make; refine Stopped.out ?_))
    refine Stopped.mk (apk_own EF rfl (.tmp 47) (.tmp 48) rfl rfl r0 rfl (HT.out.1 ▸ hb1.preB hmm) (u8_one (l.take kp)) (by simp only [maxLen]; have := HQ.out; show s.b0.length + m' ≤ _; omega) (by have := HQ.out; show (s.b0.length + m') * 1 ≤ _; omega) (Nat.zero_le _) ?_)
    intro v' w2 o2 hg2 hv2
    rw [← List.map_append] at o2
    have o2' : w2.ownsRow 0 5 1 v' (s.b0 ++ (l.take kp)).length ((s.b0 ++ (l.take kp)).map by8) := by rw [List.length_append, HT.out.2]; exact o2
    have HF := Lib.hid (FStep.thn hkw (fun x hx => (hG1 x hx).imp id (fun h => h)) (h1.app0 hblk (by rw [strikeF_b1]; exact r1) ra k0 k1 ka o2' hg2 hv2))
    have hpb : w2.heap[p]? = _ := (hg2.block p (h1.lts p h1.mem) (fun e => (k0 p e.symm).1 rfl)).trans hblk
    have e1 := box_cell hpb 1 _ rfl
    have f1 := box_free hpb 1
    obtain ⟨A2, c2, rfl, _, _⟩ := own_sl o2'
    clear hblk r0 r1 ra o2 o2' hg2 hv2 hpb d1
    go_wp2
    go_ret
    exact ⟨rfl, by simpa [addB, strikeF_b0] using HF.out⟩
set_option maxRecDepth 100000 in
set_option maxHeartbeats 1600000 in
theorem flash_Append_any1 (w : World) {p : Nat} {G : List Nat} {s : FSt} (h : Fl w p G s) (hk : FOk s) (hd : s.down = false) {A : Option Addr} {m c : Nat} {l : List UInt8} (hb : Sl w 1 A m c (l.map by8)) (hA : ∀ ad, A = some ad → 0 < m → ad.block ∉ G) (hroom : s.b1.length + m ≤ s.size) :
    Calls Try.prog 23 #[.pointer (some ⟨p, 0, none⟩), .int .i64 1, .slice A m c] w fun e w' => e = .returned (.int .i64 (if struckF s then 121 else 0 : Nat)) ∧ FStep w w' p G (addB (strikeF s) 1 (if struckF s then l.take (keepF s) else l)) := by
  obtain ⟨B, d, hc, sb⟩ := h.bank 1 (by decide)
  have c0 := h.cellSize
  have hs := hk.size
  have hl : l.length = m := by simpa using hb.len
  have HA := Lib.hid (flash_at_yes w h 1 (by decide) hd)
  have hbk : bankF s 1 = s.b1 := rfl
  rw [hbk] at hc
  have hc' : w.cell? ⟨p, 2, none⟩ = some (.slice B s.b1.length d) := hc
  obtain ⟨q, hle⟩ : ∃ q, q = s.b1.length := ⟨_, rfl⟩
  obtain ⟨z, hz⟩ : ∃ z, z = s.size := ⟨_, rfl⟩
  have HQ := Lib.hid hle
  have HK := Lib.hid hk
  have HKP := Lib.hid (keepF_le s hk.vals)
  rw [← hle] at hc' hroom
  rw [← hz] at c0 hs hroom
  have i1 : decide ((z : Int) - q < m) = false := decide_eq_false (by omega)
  have hmc := hb.le; have hmx := hb.max
  have HB := Lib.hid (And.intro hb (And.intro hA hl))
  clear hle hz sb hc hbk hk hb hA hl
  cases hst : struckF s
  · rw [if_neg (by simp), if_neg (by simp)]
    have HST := Lib.hid hst
    have HL := Lib.hid (show ∃ l', l' = l ∧ m = l'.length from ⟨l, rfl, HB.out.2.2.symm⟩)
    clear hst
    go_enter Try.func23, Try.ntmps23
    go_wp2_with (first | (at_builtin; refine Stopped.out ?_) | (at_make; refine Stopped.out ?_))
    refine HA.out.mono ?_
    rintro e w' ⟨rfl, rfl⟩
    go_wp2
    go_quiet (fail)
    go_wp2_with (first | (at_builtin; refine Stopped.out ?_) | (at_make; refine Stopped.out ?_))
    have hbd : Below w.heap.size w (w.drewN nq) := below_drewN (Below.refl _ _) nq
    refine (flash_write _ (h.below hbd) HK.out.writes HK.out.count (by have := HK.out.armed; omega) HK.out.vals).mono ?_
    rintro e w1 ⟨rfl, hst⟩
    rw [HST.out]
    skip
    obtain ⟨G1, h1, hk1, hG1⟩ := hst.out
    have hkw : Keep G w w1 := (Keep.of_below hbd G).trans hk1
    have hb1 := HB.out.1.keepz hkw HB.out.2.1
    obtain ⟨v0, v1, va, hblk, r0, r1, ra, k0, k1, ka⟩ := h1.out
    rw [strikeF_b0] at r0
    rw [strikeF_b1] at r1
    obtain ⟨A0, c0', rfl, _, _⟩ := own_sl r1
    have d1 := box_cell hblk 2 (.slice A0 s.b1.length c0') rfl
    clear hst
    go_wp2_with (first | (at_builtin; refine Stopped.out ?_) | (at_make; refine Stopped.out ?_))
    refine Stopped.mk (apk_own EF rfl (.tmp 47) (.tmp 48) rfl rfl r1 rfl hb1 (u8_one l) (by simp only [maxLen]; have := HQ.out; show s.b1.length + m ≤ _; omega) (by have := HQ.out; show (s.b1.length + m) * 1 ≤ _; omega) (Nat.zero_le _) ?_)
    intro v' w2 o2 hg2 hv2
    rw [← List.map_append] at o2
    have o2' : w2.ownsRow 0 5 1 v' (s.b1 ++ l).length ((s.b1 ++ l).map by8) := by rw [List.length_append, HB.out.2.2]; exact o2
    have HF := Lib.hid (FStep.thn hkw (fun x hx => (hG1 x hx).imp id (fun h => h)) (h1.app1 hblk (by rw [strikeF_b0]; exact r0) ra k0 k1 ka o2' hg2 hv2))
    have hpb : w2.heap[p]? = _ := (hg2.block p (h1.lts p h1.mem) (fun e => (k1 p e.symm).1 rfl)).trans hblk
    have e1 := box_cell hpb 2 _ rfl
    have f1 := box_free hpb 2
    obtain ⟨A2, c2, rfl, _, _⟩ := own_sl o2'
    clear hblk r0 r1 ra o2 o2' hg2 hv2 hpb d1
    go_wp2
    go_ret
    exact ⟨rfl, by simpa [addB, strikeF_b1] using HF.out⟩
  · rw [if_pos rfl, if_pos rfl]
    have HST := Lib.hid hst
    clear hst
    obtain ⟨kp, hkp⟩ : ∃ kp, kp = keepF s := ⟨_, rfl⟩
    have HKE := Lib.hid hkp
    have hkb : kp ≤ 1048576 := by rw [hkp]; exact HKP.out
    obtain ⟨m', hm'⟩ : ∃ m', m' = min kp m := ⟨_, rfl⟩
    have hmm : m' ≤ m := by omega
    have hM : ∀ (ats : Array TypeId) (ty : TypeId) (w : World), (Builtin.min_ ats ty #[.int .i64 (kp : Int), .int .i64 (m : Int)]).run Try.prog w = .ok (.int .i64 (m' : Int)) w := fun ats ty w => by rw [show (m' : Int) = min (kp : Int) (m : Int) by omega]; exact run_min _ _ ats ty w
    have HT : Hid (l.take m' = l.take kp ∧ (l.take kp).length = m') := Lib.hid (by
      have := HB.out.2.2
      refine ⟨?_, by simp; omega⟩
      rw [hm']
      rcases Nat.lt_or_ge kp m with h1 | h1
      · rw [Nat.min_eq_left (by omega)]
      · rw [Nat.min_eq_right h1, List.take_of_length_le (by omega), List.take_of_length_le (by omega)])
    rw [← hkp]
    have iq0 : (0 : Int) ≤ (m' : Int) := Int.natCast_nonneg _
    have iq1 : (m' : Int) ≤ (c : Int) := by omega
    clear hkp hm'
    go_enter Try.func23, Try.ntmps23
    go_wp2_with (first | (at_builtin; refine Stopped.out ?_) | (at_make; refine Stopped.out ?_))
    refine HA.out.mono ?_
    rintro e w' ⟨rfl, rfl⟩
    go_wp2
    go_quiet (fail)
    go_wp2_with (first | (at_builtin; refine Stopped.out ?_) | (at_make; refine Stopped.out ?_))
    have hbd : Below w.heap.size w (w.drewN nq) := below_drewN (Below.refl _ _) nq
    refine (flash_write _ (h.below hbd) HK.out.writes HK.out.count (by have := HK.out.armed; omega) HK.out.vals).mono ?_
    rintro e w1 ⟨rfl, hst⟩
    rw [HST.out]
    rw [← HKE.out]
    obtain ⟨G1, h1, hk1, hG1⟩ := hst.out
    have hkw : Keep G w w1 := (Keep.of_below hbd G).trans hk1
    have hb1 := HB.out.1.keepz hkw HB.out.2.1
    obtain ⟨v0, v1, va, hblk, r0, r1, ra, k0, k1, ka⟩ := h1.out
    rw [strikeF_b0] at r0
    rw [strikeF_b1] at r1
    obtain ⟨A0, c0', rfl, _, _⟩ := own_sl r1
    have d1 := box_cell hblk 2 (.slice A0 s.b1.length c0') rfl
    clear hst
    go_wp2_with (first | (at_builtin; refine Stopped.out ?_) | (at_make; refine Stopped.out ?_))
    refine Stopped.mk (apk_own EF rfl (.tmp 47) (.tmp 48) rfl rfl r1 rfl (HT.out.1 ▸ hb1.preB hmm) (u8_one (l.take kp)) (by simp only [maxLen]; have := HQ.out; show s.b1.length + m' ≤ _; omega) (by have := HQ.out; show (s.b1.length + m') * 1 ≤ _; omega) (Nat.zero_le _) ?_)
    intro v' w2 o2 hg2 hv2
    rw [← List.map_append] at o2
    have o2' : w2.ownsRow 0 5 1 v' (s.b1 ++ (l.take kp)).length ((s.b1 ++ (l.take kp)).map by8) := by rw [List.length_append, HT.out.2]; exact o2
    have HF := Lib.hid (FStep.thn hkw (fun x hx => (hG1 x hx).imp id (fun h => h)) (h1.app1 hblk (by rw [strikeF_b0]; exact r0) ra k0 k1 ka o2' hg2 hv2))
    have hpb : w2.heap[p]? = _ := (hg2.block p (h1.lts p h1.mem) (fun e => (k1 p e.symm).1 rfl)).trans hblk
    have e1 := box_cell hpb 2 _ rfl
    have f1 := box_free hpb 2
    obtain ⟨A2, c2, rfl, _, _⟩ := own_sl o2'
    clear hblk r0 r1 ra o2 o2' hg2 hv2 hpb d1
    go_wp2
    go_ret
    exact ⟨rfl, by simpa [addB, strikeF_b1] using HF.out⟩
end Go.Proofs.Ytpjmbhhfpoamnaa

namespace Go.Proofs.Ytpjmbhhfpoamnaa
open Go.RowKit
theorem Fl.appA {w w2 : World} {p : Nat} {G : List Nat} {s : FSt} (h : Fl w p G s) {v0 v1 va v' : Value} (hb : w.heap[p]? = some (.cells #[.int .i64 s.size, v0, v1, va, .int .i64 s.count, .int .i64 s.writes, .bool s.down] 128 (0, 0)))
    (h0 : w.ownsRow 0 5 1 v0 s.b0.length (s.b0.map by8)) (h1 : w.ownsRow 0 5 1 v1 s.b1.length (s.b1.map by8))
    (k0 : ∀ k, v0.ownBlock = some k → k ≠ p ∧ k ∈ G ∧ v1.ownBlock ≠ some k ∧ va.ownBlock ≠ some k) (k1 : ∀ k, v1.ownBlock = some k → k ≠ p ∧ k ∈ G ∧ va.ownBlock ≠ some k) (ka : ∀ k, va.ownBlock = some k → k ≠ p ∧ k ∈ G)
    {b : List (Nat × Nat)} (ho : w2.ownsRow 0 138 2 v' b.length (crashL b)) (hg : w.grownBy w2 va.ownBlock) (hv : ∀ k, v'.ownBlock = some k → va.ownBlock = some k ∨ k = w.heap.size) :
    FStep w (w2.setCell ⟨p, 3, none⟩ v') p G { s with armed := b } := by
  have hm := h.mem; have hlts := h.lts
  have hp : p < w.heap.size := hlts p hm
  have kk : Keep va.ownBlock.toList w w2 := (Keep.refl _ w).grown hg (fun k hk => .inl (by simp [hk]))
  have kG : Keep G w w2 := kk.mono (fun x hx => (ka x (by simpa using hx)).2)
  have ks : Keep [p] w2 (w2.setCell ⟨p, 3, none⟩ v') := (Keep.refl [p] w2).setCell (.inl (by simp)) _
  have hb2 := kk.heap hb (fun hx => (ka p (by simpa using hx)).1 rfl)
  have h02 := kk.own h0 (fun k hk hx => (k0 k hk).2.2.2 (by simpa using hx))
  have h12 := kk.own h1 (fun k hk hx => (k1 k hk).2.2 (by simpa using hx))
  have hfr : ∀ k, v0.ownBlock = some k → k < w.heap.size := fun k hk => hlts k (k0 k hk).2.1
  have hfa : ∀ k, v1.ownBlock = some k → k < w.heap.size := fun k hk => hlts k (k1 k hk).2.1
  have hv2 : ∀ k, v'.ownBlock = some k → k ≠ p ∧ v0.ownBlock ≠ some k ∧ v1.ownBlock ≠ some k := fun k hk => by
    rcases hv k hk with h6 | h6
    · exact ⟨(ka k h6).1, fun h7 => (k0 k h7).2.2.2 h6, fun h7 => (k1 k h7).2.2 h6⟩
    · exact ⟨by omega, fun h7 => by have := hfr k h7; omega, fun h7 => by have := hfa k h7; omega⟩
  refine ⟨v'.ownBlock.toList ++ G, ⟨⟨v0, v1, v', ?_, ks.own h02 (fun k hk => by have := (k0 k hk).1; simpa using this), ks.own h12 (fun k hk => by have := (k1 k hk).1; simpa using this), ks.own ho (fun k hk => by have := (hv2 k hk).1; simpa using this), fun k hk => ⟨(k0 k hk).1, List.mem_append_right _ (k0 k hk).2.1, (k0 k hk).2.2.1, fun h7 => (hv2 k h7).2.1 hk⟩, fun k hk => ⟨(k1 k hk).1, List.mem_append_right _ (k1 k hk).2.1, fun h7 => (hv2 k h7).2.2 hk⟩, fun k hk => ⟨(hv2 k hk).1, List.mem_append_left _ (by simp [hk])⟩⟩, List.mem_append_right _ hm, ?_⟩, kG.setCell (.inl hm) _, ?_⟩
  · have := heap_setCell_same w2 p 3 _ _ v' hb2
    simpa using this
  · intro x hx
    rcases List.mem_append.1 hx with h6 | h6
    · have := (ho.lt x (by simpa using h6)).2
      simpa using this
    · have := Nat.lt_of_lt_of_le (hlts x h6) kk.size
      simpa using this
  · intro x hx
    rcases List.mem_append.1 hx with h6 | h6
    · rcases hv x (by simpa using h6) with h7 | h7
      · exact .inl (ka x h7).2
      · exact .inr (Nat.le_of_eq h7.symm)
    · exact .inl h6
set_option maxRecDepth 100000 in
set_option maxHeartbeats 1600000 in
theorem flash_Arm_yes (w : World) {p : Nat} {G : List Nat} {s : FSt} (h : Fl w p G s) (a k : Nat) (ha : 1 ≤ a ∧ a ≤ 1000000) (hk : k ≤ 1048576) (hn : s.armed.length < 64) :
    Calls Try.prog 31 #[.pointer (some ⟨p, 0, none⟩), .int .i64 a, .int .i64 k] w fun e w' => e = .returned (.int .i64 0) ∧ FStep w w' p G { s with armed := s.armed ++ [(a, k)] } := by
  obtain ⟨v0, v1, va, hblk, r0, r1, ra, k0, k1, ka⟩ := h.out
  obtain ⟨Aa, ca, rfl, sa, _⟩ := own_sl ra
  obtain ⟨n, hne⟩ : ∃ n, n = s.armed.length := ⟨_, rfl⟩
  have HN := Lib.hid hne
  have c3 : w.cell? ⟨p, 3, none⟩ = some (.slice Aa n ca) := by rw [hne]; exact box_cell hblk 3 _ rfl
  rw [← hne] at hn
  have c3a := cell_al c3 (.cells #[.int .i64 (a : Int), .int .i64 (k : Int)] 138)
  have i1 : (1 : Int) ≤ (a : Int) := by omega
  have i2 : (a : Int) ≤ 1000000 := by omega
  have i3 : (0 : Int) ≤ (k : Int) := by omega
  have i4 : (k : Int) ≤ 1048576 := by omega
  have i5 : (n : Int) < 64 := by omega
  have HH := Lib.hid (And.intro h (And.intro hblk (And.intro r0 (And.intro r1 (And.intro ra (And.intro k0 (And.intro k1 ka)))))))
  have HB := Lib.hid ((Below.refl w.heap.size w).alloc (Nat.le_refl _) (.cells #[.int .i64 (a : Int), .int .i64 (k : Int)] 138))
  clear h hblk r0 r1 ra k0 k1 ka hne ha hk
  go_enter Try.func31, Try.ntmps31
  go_wp2_with (first | (at_builtin; refine Stopped.out ?_) | (at_make; refine Stopped.out ?_))
  have hra := own_below HH.out.2.2.2.2.1 HB.out
  rw [← HN.out] at hra
  refine Stopped.mk (apk_own (v := .slice Aa n ca) EC rfl (.tmp 31) (.tmp 35) rfl rfl hra rfl (Sl.fresh w [.int .i64 (a : Int), .int .i64 (k : Int)] 138 1 2 rfl (by decide)) (by intro u hu; simp at hu; rcases hu with rfl | rfl <;> rfl) (by simp only [maxLen]; omega) (by omega) (Nat.zero_le _) ?_)
  intro v' w2 o2 hg2 hv2
  obtain ⟨h1, hblk, r0, r1, _, k0, k1, ka⟩ := HH.out
  rw [show (Value.slice Aa n ca).ownBlock = (Value.slice Aa s.armed.length ca).ownBlock by cases Aa <;> rfl] at hg2 hv2
  have o2' : w2.ownsRow 0 138 2 v' (s.armed ++ [(a, k)]).length (crashL (s.armed ++ [(a, k)])) := by
    have e1 : crashL (s.armed ++ [(a, k)]) = crashL s.armed ++ [.int .i64 (a : Int), .int .i64 (k : Int)] := by simp [crashL]
    rw [e1, List.length_append, ← HN.out]; exact o2
  have hB := HB.out
  have h1' := h1.below hB
  have hblk' := (Keep.of_below hB []).heap hblk (by simp)
  have HF := Lib.hid (FStep.thn (Keep.of_below hB G) (fun x hx => .inl hx) (h1'.appA hblk' (own_below r0 hB) (own_below r1 hB) k0 k1 ka o2' hg2 hv2))
  have hpb : w2.heap[p]? = _ := (hg2.block p (h1'.lts p h1'.mem) (fun e => (ka p e.symm).1 rfl)).trans hblk'
  have e1 := box_cell hpb 3 _ rfl
  have f1 := box_free hpb 3
  obtain ⟨A2, c2, rfl, _, _⟩ := own_sl o2'
  clear hblk r0 r1 o2 o2' hg2 hv2 hpb c3a c3 hblk' h1 h1' hra
  go_wp2
  go_ret
  exact ⟨rfl, by simpa using HF.out⟩
def setB (s : FSt) (n : Nat) (l : List UInt8) : FSt := if n = 0 then { s with b0 := l } else { s with b1 := l }
/-- what an Erase leaves of a bank -/
def eraL (s : FSt) (b : List UInt8) : List UInt8 := if struckF s then (if b.length ≤ keepF s then [] else List.replicate (keepF s) 255 ++ b.drop (keepF s)) else []
theorem Fl.nil0 {w : World} {p : Nat} {G : List Nat} {s : FSt} (h : Fl w p G s) : FStep w (w.setCell ⟨p, 1, none⟩ (.slice none 0 0)) p G (setB s 0 []) := by
  obtain ⟨v0, v1, va, hb, h0, h1, ha, k0, k1, ka⟩ := h.out
  have ks : Keep [p] w (w.setCell ⟨p, 1, none⟩ (.slice none 0 0)) := (Keep.refl [p] w).setCell (.inl (by simp)) _
  refine ⟨G, ⟨⟨.slice none 0 0, v1, va, ?_, (World.ownsRow_nil ..), ks.own h1 (fun k hk => by have := (k1 k hk).1; simpa using this), ks.own ha (fun k hk => by have := (ka k hk).1; simpa using this), (fun k hk => by cases hk), k1, ka⟩, h.mem, fun x hx => by simpa using h.lts x hx⟩, (Keep.refl G w).setCell (.inl h.mem) _, fun x hx => .inl hx⟩
  have := heap_setCell_same w p 1 _ _ (.slice none 0 0) hb
  simpa [setB] using this
/-- a byte of the bank is written -/
theorem Fl.byte0 {w : World} {p : Nat} {G : List Nat} {s : FSt} (h : Fl w p G s) (k : Nat) (hk : k < s.b0.length) (x : UInt8) : ∃ g c, w.cell? ⟨p, 1, none⟩ = some (.slice (some ⟨g, 0, none⟩) s.b0.length c) ∧ (∃ v0, w.cell? ⟨g, k, none⟩ = some v0) ∧ w.frozen? ⟨g, k, none⟩ = false ∧ Fl (w.setCell ⟨g, k, none⟩ (by8 x)) p G (setB s 0 (s.b0.set k x)) ∧ g ∈ G := by
  obtain ⟨v0, v1, va, hb, h0, h1, ha, k0, k1, ka⟩ := h.out
  obtain ⟨g, c, rfl, _, _, _⟩ := own_form h0 (by omega)
  have hg := k0 g rfl
  obtain ⟨u, hu⟩ := own_cell h0 k (by omega)
  have kk : Keep [g] w (w.setCell ⟨g, k, none⟩ (by8 x)) := (Keep.refl [g] w).setCell (.inl (by simp)) _
  have st := (h0.stored k (by8 x)).1
  rw [← List.map_set] at st
  refine ⟨g, c, box_cell hb 1 _ rfl, ⟨u, hu⟩, h0.frozenAt k, ⟨⟨.slice (some ⟨g, 0, none⟩) s.b0.length c, v1, va, kk.heap hb (by simpa using fun e => hg.1 e.symm), by simpa [setB] using st, kk.own h1 (fun j hj hx => by simp at hx; subst hx; exact hg.2.2.1 hj), kk.own ha (fun j hj hx => by simp at hx; subst hx; exact hg.2.2.2 hj), k0, k1, ka⟩, h.mem, fun y hy => by simpa using h.lts y hy⟩, hg.2.1⟩
set_option maxRecDepth 100000 in
set_option maxHeartbeats 1600000 in
theorem flash_Erase_any0 (w : World) {p : Nat} {G : List Nat} {s : FSt} (h : Fl w p G s) (hk : FOk s) (hd : s.down = false) :
    Calls Try.prog 35 #[.pointer (some ⟨p, 0, none⟩), .int .i64 0] w fun e w' => e = .returned (.int .i64 (if struckF s then 121 else 0 : Nat)) ∧ FStep w w' p G (setB (strikeF s) 0 (eraL s s.b0)) := by
  have HA := Lib.hid (flash_at_yes w h 0 (by decide) hd)
  have HW := Lib.hid (flash_write w h hk.writes hk.count (by have := hk.armed; omega) hk.vals)
  have HKP := Lib.hid (keepF_le s hk.vals)
  have HK := Lib.hid hk
  have HBL := Lib.hid (show s.b0.length ≤ 1048576 by have := hk.size; have := hk.b0; omega)
  clear hk
  cases hst : struckF s
  · rw [if_neg (by simp)]
    have HE : Hid (eraL s s.b0 = []) := Lib.hid (by simp [eraL, hst])
    have HST := Lib.hid hst
    clear hst
    go_enter Try.func35, Try.ntmps35
    go_wp2_with (first | (at_builtin; refine Stopped.out ?_) | (at_make; refine Stopped.out ?_))
    refine HA.out.mono ?_
    rintro e w' ⟨rfl, rfl⟩
    go_wp2_with (first | (at_builtin; refine Stopped.out ?_) | (at_make; refine Stopped.out ?_))
    refine HW.out.mono ?_
    rintro e w1 ⟨rfl, hst⟩
    rw [HST.out]
    obtain ⟨G1, h1, hk1, hG1⟩ := hst.out
    obtain ⟨v0, v1, va, hblk, _, _, _, _, _, _⟩ := h1.out
    have d1 := box_cell hblk 1 v0 rfl
    have f1 := box_free hblk 1
    have HF := Lib.hid (FStep.thn hk1 hG1 h1.nil0)
    clear hst hblk
    go_wp2
    go_ret
    exact ⟨rfl, by rw [HE.out]; exact HF.out⟩
  · rw [if_pos rfl]
    obtain ⟨kp, hkp⟩ : ∃ kp, kp = keepF s := ⟨_, rfl⟩
    have HKE := Lib.hid hkp
    have hkb : kp ≤ 1048576 := by rw [hkp]; exact HKP.out
    obtain ⟨q, hq⟩ : ∃ q, q = s.b0.length := ⟨_, rfl⟩
    have HQ := Lib.hid hq
    have hqb : q ≤ 1048576 := by rw [hq]; exact HBL.out
    by_cases hle : q ≤ kp
    · have HE : Hid (eraL s s.b0 = []) := Lib.hid (by simp [eraL, hst, ← hkp, ← hq, hle])
      have HST := Lib.hid hst
      have i1 : (q : Int) ≤ (kp : Int) := by omega
      have hM : ∀ (ats : Array TypeId) (ty : TypeId) (w : World), (Builtin.min_ ats ty #[.int .i64 (kp : Int), .int .i64 0]).run Try.prog w = .ok (.int .i64 0) w := fun ats ty w => by
        have := run_min (P := Try.prog) (kp : Int) 0 ats ty w
        rwa [show min (kp : Int) 0 = 0 by omega] at this
      clear hst hkp hq hle
      go_enter Try.func35, Try.ntmps35
      go_wp2_with (first | (at_builtin; refine Stopped.out ?_) | (at_make; refine Stopped.out ?_))
      refine HA.out.mono ?_
      rintro e w' ⟨rfl, rfl⟩
      go_wp2_with (first | (at_builtin; refine Stopped.out ?_) | (at_make; refine Stopped.out ?_))
      refine HW.out.mono ?_
      rintro e w1 ⟨rfl, hst⟩
      rw [HST.out, ← HKE.out]
      obtain ⟨G1, h1, hk1, hG1⟩ := hst.out
      obtain ⟨v0, v1, va, hblk, r0, r1, _, _, _, _⟩ := h1.out
      rw [strikeF_b0] at r0
      rw [strikeF_b1] at r1
      obtain ⟨A0, c0', rfl, _, _⟩ := own_sl r0
      rw [← HQ.out] at hblk
      have d1 := box_cell hblk 1 (.slice A0 q c0') rfl
      have f1 := box_free hblk 1
      have HF := Lib.hid (FStep.thn hk1 hG1 h1.nil0)
      clear hst hblk r0 r1
      go_wp2
      go_loop [42] (fun i => i = .int .i64 0) (fun _ => 0)
      case atStart => rfl
      case round =>
        subst hrel
        go_wp2
        go_ret
        exact ⟨rfl, by rw [HE.out]; exact HF.out⟩
    · have HE : Hid (eraL s s.b0 = List.replicate kp 255 ++ s.b0.drop kp) := Lib.hid (by simp [eraL, hst, ← hkp, ← hq, hle])
      have HST := Lib.hid hst
      have i1 : (kp : Int) < (q : Int) := by omega
      have hM : ∀ (ats : Array TypeId) (ty : TypeId) (w : World), (Builtin.min_ ats ty #[.int .i64 (kp : Int), .int .i64 (q : Int)]).run Try.prog w = .ok (.int .i64 (kp : Int)) w := fun ats ty w => by
        have := run_min (P := Try.prog) (kp : Int) q ats ty w
        rwa [show min (kp : Int) q = kp by omega] at this
      have hlt := Nat.lt_of_not_le hle
      clear hst hkp hq hle
      go_enter Try.func35, Try.ntmps35
      go_wp2_with (first | (at_builtin; refine Stopped.out ?_) | (at_make; refine Stopped.out ?_))
      refine HA.out.mono ?_
      rintro e w' ⟨rfl, rfl⟩
      go_wp2_with (first | (at_builtin; refine Stopped.out ?_) | (at_make; refine Stopped.out ?_))
      refine HW.out.mono ?_
      rintro e w1 ⟨rfl, hst⟩
      rw [HST.out, ← HKE.out]
      obtain ⟨G1, h1, hk1, hG1⟩ := hst.out
      have HS1 := Lib.hid (And.intro h1 (And.intro hk1 hG1))
      obtain ⟨v0, v1, va, hblk, r0, r1, _, _, _, _⟩ := h1.out
      rw [strikeF_b0] at r0
      rw [strikeF_b1] at r1
      obtain ⟨A0, c0', rfl, _, _⟩ := own_sl r0
      rw [← HQ.out] at hblk
      have d1 := box_cell hblk 1 (.slice A0 q c0') rfl
      clear hst hblk r0 r1 h1 hk1 hG1
      go_wp2
      go_loopw [42] (fun i wr => ∃ k : Nat, k ≤ kp ∧ i = .int .i64 k ∧ Fl wr p G1 (setB (strikeF s) 0 (List.replicate k 255 ++ s.b0.drop k)) ∧ Keep G1 w1 wr) (fun i _ => kp - (intOf i).toNat)
      case atStart => exact ⟨0, by omega, rfl, by have := HS1.out.1; simpa [setB, ← strikeF_b0 s] using this, Keep.refl _ _⟩
      case round =>
        obtain ⟨k, hk, rfl, hf, hkp⟩ := hrel
        by_cases hlk : k < kp
        · have hk0 : (0 : Int) ≤ (k : Int) := Int.natCast_nonneg _
          have hk1 : (k : Int) < (kp : Int) := by omega
          have hk2 : (k : Int) < (q : Int) := by omega
          have hlen : (setB (strikeF s) 0 (List.replicate k 255 ++ s.b0.drop k)).b0 = List.replicate k 255 ++ s.b0.drop k := rfl
          have hlen2 : (List.replicate k (255 : UInt8) ++ s.b0.drop k).length = q := by have := HQ.out; simp; omega
          obtain ⟨g, cg, c1, ⟨u0, c2⟩, f2, hf2, hgG⟩ := hf.byte0 k (by rw [hlen, hlen2]; omega) 255
          rw [hlen] at c1 hf2
          rw [hlen2] at c1
          have e3 : setB (setB (strikeF s) 0 (List.replicate k 255 ++ s.b0.drop k)) 0 ((List.replicate k (255 : UInt8) ++ s.b0.drop k).set k 255) = setB (strikeF s) 0 (List.replicate (k + 1) 255 ++ s.b0.drop (k + 1)) := by
            have : (List.replicate k (255 : UInt8) ++ s.b0.drop k).set k 255 = List.replicate (k + 1) 255 ++ s.b0.drop (k + 1) := by
              rw [List.set_append_right _ _ (by simp)]
              simp [List.replicate_succ']
              rw [List.drop_eq_getElem_cons (show k < s.b0.length by have := HQ.out; omega)]
              rfl
            rw [this]; rfl
          rw [e3] at hf2
          have HN := Lib.hid (And.intro hf2 (hkp.setCell (p := ⟨g, k, none⟩) (.inl hgG) (by8 255)))
          have e4 : by8 255 = .int .u8 255 := rfl
          rw [e4] at HN
          clear hf hf2 hkp hlen hlen2 e3 e4
          go_wp2
          first | go_roundw | refine ⟨?rel, ?measure⟩
          case rel => exact ⟨k + 1, by omega, by go_num, HN.out⟩
          case measure => simp [intOf]; omega
        · obtain rfl : k = kp := by omega
          have HF := Lib.hid (FStep.thn HS1.out.2.1 HS1.out.2.2 ⟨G1, hf, hkp, fun x hx => .inl hx⟩)
          clear hf hkp
          go_wp2
          go_ret
          exact ⟨rfl, by rw [HE.out]; exact HF.out⟩
theorem Fl.nil1 {w : World} {p : Nat} {G : List Nat} {s : FSt} (h : Fl w p G s) : FStep w (w.setCell ⟨p, 2, none⟩ (.slice none 0 0)) p G (setB s 1 []) := by
  obtain ⟨v0, v1, va, hb, h0, h1, ha, k0, k1, ka⟩ := h.out
  have ks : Keep [p] w (w.setCell ⟨p, 2, none⟩ (.slice none 0 0)) := (Keep.refl [p] w).setCell (.inl (by simp)) _
  refine ⟨G, ⟨⟨v0, .slice none 0 0, va, ?_, ks.own h0 (fun k hk => by have := (k0 k hk).1; simpa using this), (World.ownsRow_nil ..), ks.own ha (fun k hk => by have := (ka k hk).1; simpa using this), (fun k hk => ⟨(k0 k hk).1, (k0 k hk).2.1, by simp [Value.ownBlock], (k0 k hk).2.2.2⟩), (fun k hk => by cases hk), ka⟩, h.mem, fun x hx => by simpa using h.lts x hx⟩, (Keep.refl G w).setCell (.inl h.mem) _, fun x hx => .inl hx⟩
  have := heap_setCell_same w p 2 _ _ (.slice none 0 0) hb
  simpa [setB] using this
/-- a byte of the bank is written -/
theorem Fl.byte1 {w : World} {p : Nat} {G : List Nat} {s : FSt} (h : Fl w p G s) (k : Nat) (hk : k < s.b1.length) (x : UInt8) : ∃ g c, w.cell? ⟨p, 2, none⟩ = some (.slice (some ⟨g, 0, none⟩) s.b1.length c) ∧ (∃ v0, w.cell? ⟨g, k, none⟩ = some v0) ∧ w.frozen? ⟨g, k, none⟩ = false ∧ Fl (w.setCell ⟨g, k, none⟩ (by8 x)) p G (setB s 1 (s.b1.set k x)) ∧ g ∈ G := by
  obtain ⟨v0, v1, va, hb, h0, h1, ha, k0, k1, ka⟩ := h.out
  obtain ⟨g, c, rfl, _, _, _⟩ := own_form h1 (by omega)
  have hg := k1 g rfl
  obtain ⟨u, hu⟩ := own_cell h1 k (by omega)
  have kk : Keep [g] w (w.setCell ⟨g, k, none⟩ (by8 x)) := (Keep.refl [g] w).setCell (.inl (by simp)) _
  have st := (h1.stored k (by8 x)).1
  rw [← List.map_set] at st
  refine ⟨g, c, box_cell hb 2 _ rfl, ⟨u, hu⟩, h1.frozenAt k, ⟨⟨v0, .slice (some ⟨g, 0, none⟩) s.b1.length c, va, kk.heap hb (by simpa using fun e => hg.1 e.symm), kk.own h0 (fun j hj hx => by simp at hx; subst hx; exact (k0 j hj).2.2.1 rfl), by simpa [setB] using st, kk.own ha (fun j hj hx => by simp at hx; subst hx; exact hg.2.2 hj), k0, k1, ka⟩, h.mem, fun y hy => by simpa using h.lts y hy⟩, hg.2.1⟩
set_option maxRecDepth 100000 in
set_option maxHeartbeats 1600000 in
theorem flash_Erase_any1 (w : World) {p : Nat} {G : List Nat} {s : FSt} (h : Fl w p G s) (hk : FOk s) (hd : s.down = false) :
    Calls Try.prog 35 #[.pointer (some ⟨p, 0, none⟩), .int .i64 1] w fun e w' => e = .returned (.int .i64 (if struckF s then 121 else 0 : Nat)) ∧ FStep w w' p G (setB (strikeF s) 1 (eraL s s.b1)) := by
  have HA := Lib.hid (flash_at_yes w h 1 (by decide) hd)
  have HW := Lib.hid (flash_write w h hk.writes hk.count (by have := hk.armed; omega) hk.vals)
  have HKP := Lib.hid (keepF_le s hk.vals)
  have HK := Lib.hid hk
  have HBL := Lib.hid (show s.b1.length ≤ 1048576 by have := hk.size; have := hk.b1; omega)
  clear hk
  cases hst : struckF s
  · rw [if_neg (by simp)]
    have HE : Hid (eraL s s.b1 = []) := Lib.hid (by simp [eraL, hst])
    have HST := Lib.hid hst
    clear hst
    go_enter Try.func35, Try.ntmps35
    go_wp2_with (first | (at_builtin; refine Stopped.out ?_) | (at_make; refine Stopped.out ?_))
    refine HA.out.mono ?_
    rintro e w' ⟨rfl, rfl⟩
    go_wp2_with (first | (at_builtin; refine Stopped.out ?_) | (at_make; refine Stopped.out ?_))
    refine HW.out.mono ?_
    rintro e w1 ⟨rfl, hst⟩
    rw [HST.out]
    obtain ⟨G1, h1, hk1, hG1⟩ := hst.out
    obtain ⟨v0, v1, va, hblk, _, _, _, _, _, _⟩ := h1.out
    have d1 := box_cell hblk 2 v1 rfl
    have f1 := box_free hblk 2
    have HF := Lib.hid (FStep.thn hk1 hG1 h1.nil1)
    clear hst hblk
    go_wp2
    go_ret
    exact ⟨rfl, by rw [HE.out]; exact HF.out⟩
  · rw [if_pos rfl]
    obtain ⟨kp, hkp⟩ : ∃ kp, kp = keepF s := ⟨_, rfl⟩
    have HKE := Lib.hid hkp
    have hkb : kp ≤ 1048576 := by rw [hkp]; exact HKP.out
    obtain ⟨q, hq⟩ : ∃ q, q = s.b1.length := ⟨_, rfl⟩
    have HQ := Lib.hid hq
    have hqb : q ≤ 1048576 := by rw [hq]; exact HBL.out
    by_cases hle : q ≤ kp
    · have HE : Hid (eraL s s.b1 = []) := Lib.hid (by simp [eraL, hst, ← hkp, ← hq, hle])
      have HST := Lib.hid hst
      have i1 : (q : Int) ≤ (kp : Int) := by omega
      have hM : ∀ (ats : Array TypeId) (ty : TypeId) (w : World), (Builtin.min_ ats ty #[.int .i64 (kp : Int), .int .i64 0]).run Try.prog w = .ok (.int .i64 0) w := fun ats ty w => by
        have := run_min (P := Try.prog) (kp : Int) 0 ats ty w
        rwa [show min (kp : Int) 0 = 0 by omega] at this
      clear hst hkp hq hle
      go_enter Try.func35, Try.ntmps35
      go_wp2_with (first | (at_builtin; refine Stopped.out ?_) | (at_make; refine Stopped.out ?_))
      refine HA.out.mono ?_
      rintro e w' ⟨rfl, rfl⟩
      go_wp2_with (first | (at_builtin; refine Stopped.out ?_) | (at_make; refine Stopped.out ?_))
      refine HW.out.mono ?_
      rintro e w1 ⟨rfl, hst⟩
      rw [HST.out, ← HKE.out]
      obtain ⟨G1, h1, hk1, hG1⟩ := hst.out
      obtain ⟨v0, v1, va, hblk, r0, r1, _, _, _, _⟩ := h1.out
      rw [strikeF_b0] at r0
      rw [strikeF_b1] at r1
      obtain ⟨A0, c0', rfl, _, _⟩ := own_sl r1
      rw [← HQ.out] at hblk
      have d1 := box_cell hblk 2 (.slice A0 q c0') rfl
      have f1 := box_free hblk 2
      have HF := Lib.hid (FStep.thn hk1 hG1 h1.nil1)
      clear hst hblk r0 r1
      go_wp2
      go_loop [42] (fun i => i = .int .i64 0) (fun _ => 0)
      case atStart => rfl
      case round =>
        subst hrel
        go_wp2
        go_ret
        exact ⟨rfl, by rw [HE.out]; exact HF.out⟩
    · have HE : Hid (eraL s s.b1 = List.replicate kp 255 ++ s.b1.drop kp) := Lib.hid (by simp [eraL, hst, ← hkp, ← hq, hle])
      have HST := Lib.hid hst
      have i1 : (kp : Int) < (q : Int) := by omega
      have hM : ∀ (ats : Array TypeId) (ty : TypeId) (w : World), (Builtin.min_ ats ty #[.int .i64 (kp : Int), .int .i64 (q : Int)]).run Try.prog w = .ok (.int .i64 (kp : Int)) w := fun ats ty w => by
        have := run_min (P := Try.prog) (kp : Int) q ats ty w
        rwa [show min (kp : Int) q = kp by omega] at this
      have hlt := Nat.lt_of_not_le hle
      clear hst hkp hq hle
      go_enter Try.func35, Try.ntmps35
      go_wp2_with (first | (at_builtin; refine Stopped.out ?_) | (at_make; refine Stopped.out ?_))
      refine HA.out.mono ?_
      rintro e w' ⟨rfl, rfl⟩
      go_wp2_with (first | (at_builtin; refine Stopped.out ?_) | (at_make; refine Stopped.out ?_))
      refine HW.out.mono ?_
      rintro e w1 ⟨rfl, hst⟩
      rw [HST.out, ← HKE.out]
      obtain ⟨G1, h1, hk1, hG1⟩ := hst.out
      have HS1 := Lib.hid (And.intro h1 (And.intro hk1 hG1))
      obtain ⟨v0, v1, va, hblk, r0, r1, _, _, _, _⟩ := h1.out
      rw [strikeF_b0] at r0
      rw [strikeF_b1] at r1
      obtain ⟨A0, c0', rfl, _, _⟩ := own_sl r1
      rw [← HQ.out] at hblk
      have d1 := box_cell hblk 2 (.slice A0 q c0') rfl
      clear hst hblk r0 r1 h1 hk1 hG1
      go_wp2
      go_loopw [42] (fun i wr => ∃ k : Nat, k ≤ kp ∧ i = .int .i64 k ∧ Fl wr p G1 (setB (strikeF s) 1 (List.replicate k 255 ++ s.b1.drop k)) ∧ Keep G1 w1 wr) (fun i _ => kp - (intOf i).toNat)
      case atStart => exact ⟨0, by omega, rfl, by have := HS1.out.1; simpa [setB, ← strikeF_b1 s] using this, Keep.refl _ _⟩
      case round =>
        obtain ⟨k, hk, rfl, hf, hkp⟩ := hrel
        by_cases hlk : k < kp
        · have hk0 : (0 : Int) ≤ (k : Int) := Int.natCast_nonneg _
          have hk1 : (k : Int) < (kp : Int) := by omega
          have hk2 : (k : Int) < (q : Int) := by omega
          have hlen : (setB (strikeF s) 1 (List.replicate k 255 ++ s.b1.drop k)).b1 = List.replicate k 255 ++ s.b1.drop k := rfl
          have hlen2 : (List.replicate k (255 : UInt8) ++ s.b1.drop k).length = q := by have := HQ.out; simp; omega
          obtain ⟨g, cg, c1, ⟨u0, c2⟩, f2, hf2, hgG⟩ := hf.byte1 k (by rw [hlen, hlen2]; omega) 255
          rw [hlen] at c1 hf2
          rw [hlen2] at c1
          have e3 : setB (setB (strikeF s) 1 (List.replicate k 255 ++ s.b1.drop k)) 1 ((List.replicate k (255 : UInt8) ++ s.b1.drop k).set k 255) = setB (strikeF s) 1 (List.replicate (k + 1) 255 ++ s.b1.drop (k + 1)) := by
            have : (List.replicate k (255 : UInt8) ++ s.b1.drop k).set k 255 = List.replicate (k + 1) 255 ++ s.b1.drop (k + 1) := by
              rw [List.set_append_right _ _ (by simp)]
              simp [List.replicate_succ']
              rw [List.drop_eq_getElem_cons (show k < s.b1.length by have := HQ.out; omega)]
              rfl
            rw [this]; rfl
          rw [e3] at hf2
          have HN := Lib.hid (And.intro hf2 (hkp.setCell (p := ⟨g, k, none⟩) (.inl hgG) (by8 255)))
          have e4 : by8 255 = .int .u8 255 := rfl
          rw [e4] at HN
          clear hf hf2 hkp hlen hlen2 e3 e4
          go_wp2
          first | go_roundw | refine ⟨?rel, ?measure⟩
          case rel => exact ⟨k + 1, by omega, by go_num, HN.out⟩
          case measure => simp [intOf]; omega
        · obtain rfl : k = kp := by omega
          have HF := Lib.hid (FStep.thn HS1.out.2.1 HS1.out.2.2 ⟨G1, hf, hkp, fun x hx => .inl hx⟩)
          clear hf hkp
          go_wp2
          go_ret
          exact ⟨rfl, by rw [HE.out]; exact HF.out⟩
end Go.Proofs.Ytpjmbhhfpoamnaa
