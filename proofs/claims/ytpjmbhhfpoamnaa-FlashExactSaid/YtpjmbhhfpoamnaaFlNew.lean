import Derived.Test.YtpjmbhhfpoamnaaFlTold
import Derived.Test.YtpjmbhhfpoamnaaFlW
set_option linter.unusedVariables false
set_option linter.unusedSimpArgs false
namespace Go.Proofs.Ytpjmbhhfpoamnaa
open Go.RowKit
set_option maxRecDepth 100000 in
set_option maxHeartbeats 1600000 in
theorem errOfOne_any (w : World) {s : FSt} {v : List Value} {Xs : List Nat} (hr : RFl w v s Xs) (hk : FOk s) :
    Calls Try.prog 30 #[.agg v.toArray] w fun e w' => e = .returned (.int .i64 ((appF s 0 [1]).2 : Nat)) ∧ Below w.heap.size w w' := by
  have hr0 := hr.less (Ys := []) (by simp)
  obtain ⟨A, B, C, a, b, c, rfl, _⟩ := hr.out
  have hA0 := fun w1 (h1 : RFl w1 (refV s A B C a b c) s []) => ref_Append w1 h1 hk 0 (D := some ⟨w.heap.size + 1, 0, none⟩) (k := 1) (d := 1) (l := [1])
  rw [refV_eq] at hA0
  rw [refV_eq]
  obtain ⟨r, hre⟩ : ∃ r, r = (appF s 0 [1]).2 := ⟨_, rfl⟩
  rw [← hre] at hA0 ⊢
  obtain ⟨z, hz⟩ : ∃ z, z = s.size := ⟨_, rfl⟩
  obtain ⟨n0, hn0⟩ : ∃ z, z = s.b0.length := ⟨_, rfl⟩
  obtain ⟨n1, hn1⟩ : ∃ z, z = s.b1.length := ⟨_, rfl⟩
  obtain ⟨n2, hn2⟩ : ∃ z, z = s.armed.length := ⟨_, rfl⟩
  obtain ⟨cn, hcn⟩ : ∃ z, z = s.count := ⟨_, rfl⟩
  obtain ⟨wt, hwt⟩ : ∃ z, z = s.writes := ⟨_, rfl⟩
  obtain ⟨dn, hdn⟩ : ∃ z, z = s.down := ⟨_, rfl⟩
  rw [← hz, ← hn0, ← hn1, ← hn2, ← hcn, ← hwt, ← hdn] at hA0
  rw [← hz, ← hn0, ← hn1, ← hn2, ← hcn, ← hwt, ← hdn]
  obtain ⟨W1, hW1⟩ : ∃ W1, W1 = w.alloc (.cells #[.int .i64 z, .slice A n0 a, .slice B n1 b, .slice C n2 c, .int .i64 cn, .int .i64 wt, .bool dn] 37) := ⟨_, rfl⟩
  have hb1 : Below w.heap.size w W1 := by rw [hW1]; exact (Below.refl _ _).alloc (Nat.le_refl _) _
  have hs1 : W1.heap.size = w.heap.size + 1 := by rw [hW1]; simp
  have hb2 : Below W1.heap.size W1 (W1.alloc (.cells #[.int .u8 1] 5)) := (Below.refl _ _).alloc (Nat.le_refl _) _
  have hsl : Sl (W1.alloc (.cells #[.int .u8 1] 5)) 1 (some ⟨W1.heap.size, 0, none⟩) 1 1 (([1] : List UInt8).map by8) := Sl.fresh W1 [.int .u8 1] 5 1 1 rfl (by decide)
  rw [hs1] at hsl
  have HA := Lib.hid (And.intro (hA0 _ (hr0.below (bthen hb1 hb2)) hsl (by decide) (by simp)) (bthen hb1 hb2))
  clear hA0 hsl hb1 hb2 hr hr0 hre hz hn0 hn1 hn2 hcn hwt hdn hk
  go_enter Try.func30, Try.ntmps30
  go_wp2_with fail
  rw [← hW1]
  clear hW1 hs1
  refine HA.out.1.mono ?_
  rintro e w2 ⟨v', rfl, hr2, hb2⟩
  have HB := Lib.hid (bthen HA.out.2 hb2)
  obtain ⟨A2, B2, C2, a2, b2, c2, rfl, _⟩ := hr2.out
  clear hb2 hr2 HA
  rw [refV_eq]
  generalize (appF s 0 [1]).1 = s2
  obtain ⟨sz, l0, l1, ar, ct, wr, d2⟩ := s2
  simp only
  generalize l0.length = m0
  generalize l1.length = m1
  generalize ar.length = m2
  go_wp2
  go_ret
  exact ⟨rfl, bthen HB.out ((Below.refl _ _).alloc (Nat.le_refl _) _)⟩
set_option maxRecDepth 100000 in
set_option maxHeartbeats 3200000 in
theorem FlashNew_walk (w : World) (n : Int) :
    Calls Try.prog 4 #[.int .i64 n] w fun e w' => e = .returned (.bool true) ∧ Below w.heap.size w w' := by
  have hk : FOk ⟨capF n, [], [], [], 0, 0, false⟩ := (FOkN.new n).ok (by decide)
  have HK := Lib.hid hk
  clear hk
  go_enter Try.func4, Try.ntmps4
  go_wp2_with (first | (at_builtin; refine Stopped.out ?_) | (at_make; refine Stopped.out ?_))
  refine (flash_New _ n).mono ?_
  rintro e w1 ⟨G, rfl, f1, hb1, hG⟩
  have HN := Lib.hid (ref_New w1 n (Xs := G) f1.lts)
  obtain ⟨p, hp⟩ : ∃ p, p = w.heap.size := ⟨_, rfl⟩
  rw [← hp] at f1 ⊢
  clear hp
  have H1 := Lib.hid (And.intro f1 (And.intro hb1 hG))
  clear f1 hb1 hG
  go_wp2_with (first | (at_builtin; refine Stopped.out ?_) | (at_make; refine Stopped.out ?_))
  refine HN.out.mono ?_
  rintro e w2 ⟨v, rfl, r2, hb2⟩
  have H2 := Lib.hid (And.intro (H1.out.1.below hb2) (And.intro r2 (bthen H1.out.2.1 hb2)))
  obtain ⟨A, B, C, a, b, c, rfl, _⟩ := r2.out
  rw [refV_eq]
  obtain ⟨z, hz⟩ : ∃ z, z = capF n := ⟨_, rfl⟩
  rw [← hz] at H2 HK ⊢
  simp only [List.length_nil]
  obtain ⟨w3, hw3⟩ : ∃ w3, w3 = w2.alloc (.cells #[.int .i64 z, .slice A 0 a, .slice B 0 b, .slice C 0 c, .int .i64 0, .int .i64 0, .bool false] 37) := ⟨_, rfl⟩
  have hb3 : Below w2.heap.size w2 w3 := by rw [hw3]; exact (Below.refl _ _).alloc (Nat.le_refl _) _
  have x3 : w3.heap[w2.heap.size]? = some (.cells #[.int .i64 z, .slice A 0 a, .slice B 0 b, .slice C 0 c, .int .i64 0, .int .i64 0, .bool false] 37 (0, 0)) := by rw [hw3]; exact heap_alloc_new _ _
  have H3 := Lib.hid (And.intro (H2.out.1.below hb3) (And.intro (H2.out.2.1.below hb3) (And.intro (bthen H2.out.2.2 hb3) x3)))
  have hg4 : w2.heap.size ∉ G := fun hx => by have := H2.out.1.lts _ hx; omega
  obtain ⟨g4, hge⟩ : ∃ g, g = w2.heap.size := ⟨_, rfl⟩
  rw [← hge] at H3 hg4
  have HG := Lib.hid H1.out.2.2
  clear hb2 r2 hb3 x3 H2 HN hz H1
  have c0 := H3.out.1.cellSize
  have hroom := fun w4 (h4 : Fl w4 p G ⟨z, [], [], [], 0, 0, false⟩) => flash_Room_yes w4 h4 0 (by decide) rfl HK.out.size (Nat.zero_le _)
  have hroom1 := fun w4 (h4 : Fl w4 p G ⟨z, [], [], [], 0, 0, false⟩) => flash_Room_yes w4 h4 1 (by decide) rfl HK.out.size (Nat.zero_le _)
  have HR0 : Hid (∀ w4, Fl w4 p G ⟨z, [], [], [], 0, 0, false⟩ → Calls Try.prog 28 #[.pointer (some ⟨p, 0, none⟩), .int .i64 0] w4 fun e w' => e = .returned (.tuple #[.int .i64 z, .int .i64 0]) ∧ Drawn w4 w') := Lib.hid hroom
  have HR1 : Hid (∀ w4, Fl w4 p G ⟨z, [], [], [], 0, 0, false⟩ → Calls Try.prog 28 #[.pointer (some ⟨p, 0, none⟩), .int .i64 1] w4 fun e w' => e = .returned (.tuple #[.int .i64 z, .int .i64 0]) ∧ Drawn w4 w') := Lib.hid hroom1
  clear hroom hroom1 c0
  go_wp2_with fail
  rw [← hw3]
  try rw [← hge]
  clear hw3 hge
  refine (HR0.out _ H3.out.1).mono ?_
  rintro e w4 ⟨rfl, hd4⟩
  have H4 := Lib.hid (And.intro (H3.out.1.below hd4.below) (And.intro (H3.out.2.1.below hd4.below) (And.intro (bthen H3.out.2.2.1 hd4.below) (heap_below H3.out.2.2.2 hd4.below))))
  clear hd4 H3
  go_wp2_with (first | (at_builtin; refine Stopped.out ?_) | (at_make; refine Stopped.out ?_))
  refine (HR1.out _ H4.out.1).mono ?_
  rintro e w5 ⟨rfl, hd5⟩
  have H5 := Lib.hid (And.intro (H4.out.1.below hd5.below) (And.intro (H4.out.2.1.below hd5.below) (And.intro (bthen H4.out.2.2.1 hd5.below) (heap_below H4.out.2.2.2 hd5.below))))
  clear hd5 H4 HR0 HR1
  have hd6 : Below w5.heap.size w5 w5.drew := (Below.refl _ _).drew
  have hT := told12 w5.drew (H5.out.1.below hd6) (H5.out.2.1.below hd6) HK.out
  rw [refV_eq] at hT
  have HT : Hid (Calls Try.prog 29 #[.pointer (some ⟨p, 0, none⟩), .agg #[.int .i64 z, .slice A 0 a, .slice B 0 b, .slice C 0 c, .int .i64 0, .int .i64 0, .bool false]] w5.drew fun e w' => e = .returned (.bool true) ∧ Below w5.drew.heap.size w5.drew w') := Lib.hid hT
  have c7 : w5.cell? ⟨g4, 0, none⟩ = some (.int .i64 z) ∧ w5.cell? ⟨g4, 1, none⟩ = some (.slice A 0 a) ∧ w5.cell? ⟨g4, 2, none⟩ = some (.slice B 0 b) ∧ w5.cell? ⟨g4, 3, none⟩ = some (.slice C 0 c) ∧ w5.cell? ⟨g4, 4, none⟩ = some (.int .i64 0) ∧ w5.cell? ⟨g4, 5, none⟩ = some (.int .i64 0) ∧ w5.cell? ⟨g4, 6, none⟩ = some (.bool false) := (let y := H5.out.2.2.2; ⟨box_cell y 0 _ rfl, box_cell y 1 _ rfl, box_cell y 2 _ rfl, box_cell y 3 _ rfl, box_cell y 4 _ rfl, box_cell y 5 _ rfl, box_cell y 6 _ rfl⟩)
  have k1 : ((z : Int) == (z : Int)) = true := by simp
  obtain ⟨r, hre⟩ : ∃ r, r = (appF ⟨z, [], [], [], 0, 0, false⟩ 0 [1]).2 := ⟨_, rfl⟩
  have hEr := fun w7 (h7 : RFl w7 (refV ⟨z, [], [], [], 0, 0, false⟩ A B C a b c) ⟨z, [], [], [], 0, 0, false⟩ G) => errOfOne_any w7 h7 HK.out
  rw [refV_eq, ← hre] at hEr
  have HEr : Hid (∀ w7, RFl w7 (refV ⟨z, [], [], [], 0, 0, false⟩ A B C a b c) ⟨z, [], [], [], 0, 0, false⟩ G → Calls Try.prog 30 #[.agg #[.int .i64 z, .slice A 0 a, .slice B 0 b, .slice C 0 c, .int .i64 0, .int .i64 0, .bool false]] w7 fun e w' => e = .returned (.int .i64 r) ∧ Below w7.heap.size w7 w') := Lib.hid hEr
  have k2 : ((r : Int) == (r : Int)) = true := by simp
  have HRe := Lib.hid hre
  clear hd6 hT hEr hre
  go_wp2_with fail
  go_region_held3 (fun w' => w'.cell? ⟨g4, 0, none⟩ = some (.int .i64 z) ∧ w'.cell? ⟨g4, 1, none⟩ = some (.slice A 0 a) ∧ w'.cell? ⟨g4, 2, none⟩ = some (.slice B 0 b) ∧ w'.cell? ⟨g4, 3, none⟩ = some (.slice C 0 c) ∧ w'.cell? ⟨g4, 4, none⟩ = some (.int .i64 0) ∧ w'.cell? ⟨g4, 5, none⟩ = some (.int .i64 0) ∧ w'.cell? ⟨g4, 6, none⟩ = some (.bool false))
    (first | with_reducible exact e7 | with_reducible exact a7 | with_reducible exact t7 | with_reducible exact c7 | exact ⟨cell_al t7.1 _, cell_al t7.2.1 _, cell_al t7.2.2.1 _, cell_al t7.2.2.2.1 _, cell_al t7.2.2.2.2.1 _, cell_al t7.2.2.2.2.2.1 _, cell_al t7.2.2.2.2.2.2 _⟩ | exact c7 | go_keep)
    (first
      | (go_at_call 30; refine (HEr.out _ L8.out.1).mono ?_; rintro e w9 ⟨rfl, hb9⟩; have e7 : w9.cell? ⟨g4, 0, none⟩ = some (.int .i64 z) ∧ w9.cell? ⟨g4, 1, none⟩ = some (.slice A 0 a) ∧ w9.cell? ⟨g4, 2, none⟩ = some (.slice B 0 b) ∧ w9.cell? ⟨g4, 3, none⟩ = some (.slice C 0 c) ∧ w9.cell? ⟨g4, 4, none⟩ = some (.int .i64 0) ∧ w9.cell? ⟨g4, 5, none⟩ = some (.int .i64 0) ∧ w9.cell? ⟨g4, 6, none⟩ = some (.bool false) := (let y := heap_below L8.out.2.1 hb9; ⟨box_cell y 0 _ rfl, box_cell y 1 _ rfl, box_cell y 2 _ rfl, box_cell y 3 _ rfl, box_cell y 4 _ rfl, box_cell y 5 _ rfl, box_cell y 6 _ rfl⟩))
      | (go_at_call 23; refine (flash_Append _ (L6.out.1.below ((Below.refl _ w6).alloc (Nat.le_refl _) _)) HK.out 0 (show Sl _ 1 _ 1 1 (([1] : List UInt8).map by8) from Sl.fresh w6 [.int .u8 1] 5 1 1 rfl (by decide)) (fun ad e _ hx => by obtain rfl := Option.some.inj e; have h1 := L6.out.1.lts _ hx; simp at h1) (by decide)).mono ?_; rintro e w8 ⟨rfl, hst⟩; rw [← HRe.out]; have L8 : Hid (RFl w8 (refV ⟨z, [], [], [], 0, 0, false⟩ A B C a b c) ⟨z, [], [], [], 0, 0, false⟩ G ∧ w8.heap[g4]? = some (.cells #[.int .i64 z, .slice A 0 a, .slice B 0 b, .slice C 0 c, .int .i64 0, .int .i64 0, .bool false] 37 (0, 0)) ∧ Below w.heap.size w w8) := Lib.hid (by obtain ⟨G8, fl8, k8, hG8⟩ := hst.out; exact ⟨(L6.out.2.1.below ((Below.refl _ w6).alloc (Nat.le_refl _) _)).keep k8, k8.heap (heap_below L6.out.2.2.1 ((Below.refl _ w6).alloc (Nat.le_refl _) _)) hg4, k8.below (bthen L6.out.2.2.2 ((Below.refl _ w6).alloc (Nat.le_refl _) _)) (bthen L6.out.2.2.2 ((Below.refl _ w6).alloc (Nat.le_refl _) _)).size HG.out⟩); have a7 : w8.cell? ⟨g4, 0, none⟩ = some (.int .i64 z) ∧ w8.cell? ⟨g4, 1, none⟩ = some (.slice A 0 a) ∧ w8.cell? ⟨g4, 2, none⟩ = some (.slice B 0 b) ∧ w8.cell? ⟨g4, 3, none⟩ = some (.slice C 0 c) ∧ w8.cell? ⟨g4, 4, none⟩ = some (.int .i64 0) ∧ w8.cell? ⟨g4, 5, none⟩ = some (.int .i64 0) ∧ w8.cell? ⟨g4, 6, none⟩ = some (.bool false) := (let y := L8.out.2.1; ⟨box_cell y 0 _ rfl, box_cell y 1 _ rfl, box_cell y 2 _ rfl, box_cell y 3 _ rfl, box_cell y 4 _ rfl, box_cell y 5 _ rfl, box_cell y 6 _ rfl⟩); clear hst)
      | (go_at_call 29; refine HT.out.mono ?_; rintro e w6 ⟨rfl, hb6⟩; have t7 : w6.cell? ⟨g4, 0, none⟩ = some (.int .i64 z) ∧ w6.cell? ⟨g4, 1, none⟩ = some (.slice A 0 a) ∧ w6.cell? ⟨g4, 2, none⟩ = some (.slice B 0 b) ∧ w6.cell? ⟨g4, 3, none⟩ = some (.slice C 0 c) ∧ w6.cell? ⟨g4, 4, none⟩ = some (.int .i64 0) ∧ w6.cell? ⟨g4, 5, none⟩ = some (.int .i64 0) ∧ w6.cell? ⟨g4, 6, none⟩ = some (.bool false) := (let y := heap_below (w := w5.drew) H5.out.2.2.2 hb6; ⟨box_cell y 0 _ rfl, box_cell y 1 _ rfl, box_cell y 2 _ rfl, box_cell y 3 _ rfl, box_cell y 4 _ rfl, box_cell y 5 _ rfl, box_cell y 6 _ rfl⟩); have L6 := Lib.hid (And.intro (H5.out.1.below (bthen ((Below.refl _ _).drew) hb6)) (And.intro (H5.out.2.1.below (bthen ((Below.refl _ _).drew) hb6)) (And.intro (heap_below H5.out.2.2.2 (bthen ((Below.refl _ _).drew) hb6)) (bthen H5.out.2.2.1 (bthen ((Below.refl _ _).drew) hb6)))))))
  have HZ := Lib.hid (bthen L8.out.2.2 hb9)
  clear hb9 L8 L6 H5 HT HEr t7 a7 e7 c7
  go_wp2
  go_ret
  exact ⟨rfl, HZ.out⟩
end Go.Proofs.Ytpjmbhhfpoamnaa
