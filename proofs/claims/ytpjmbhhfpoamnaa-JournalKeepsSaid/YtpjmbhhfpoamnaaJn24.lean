import Derived.Test.YtpjmbhhfpoamnaaJn23
set_option linter.unusedVariables false
set_option linter.unusedSimpArgs false
namespace Go.Proofs.Ytpjmbhhfpoamnaa
open Go.RowKit
/-- a journal and its flash, made since the world W -/
structure JW (W w : World) (p q : Nat) (G : List Nat) (j : JSt) (s : FSt) : Prop where
  fl : Fl w p G s
  jo : Jo w q p j
  qG : q ∉ G
  lo : ∀ x ∈ q :: G, W.heap.size ≤ x
  b : Below W.heap.size W w
theorem JW.below {W w w' : World} {p q : Nat} {G : List Nat} {j : JSt} {s : FSt} (h : JW W w p q G j s) (k : Below w.heap.size w w') : JW W w' p q G j s := ⟨h.fl.below k, h.jo.below k, h.qG, h.lo, bthen h.b k⟩
theorem JW.step {W w w' : World} {p q : Nat} {G : List Nat} {j j' : JSt} {s s' : FSt} (h : JW W w p q G j s) (k : JStep w w' q p G j' s') : ∃ G', JW W w' p q G' j' s' := by
  obtain ⟨G', h1, h2, h3, h4⟩ := k.out
  have hq : q < w.heap.size := (Array.getElem?_eq_some_iff.1 h.jo).1
  have hz := h.b.size
  have hlo := h.lo q (by simp)
  refine ⟨G', h1, h2, fun hx => ?_, fun x hx => ?_, h3.below h.b hz (fun x hx => h.lo x hx)⟩
  · rcases h4 q hx with h5 | h5
    · exact h.qG h5
    · omega
  · rcases List.mem_cons.1 hx with rfl | hx
    · exact hlo
    · rcases h4 x hx with h5 | h5
      · exact h.lo x (List.mem_cons_of_mem _ h5)
      · omega
theorem Opnd.jw {K : Nat} {W w w' : World} {p q : Nat} {G G' : List Nat} {j : JSt} {s : FSt} {h : Hd} {v0 v1 : Value} (o : Opnd K w w' p q G G' j s h v0 v1) (hb : Below W.heap.size W w) (hG : ∀ x ∈ G, W.heap.size ≤ x) : JW W w' p q G' j s := by
  have hz := hb.size
  have hq := o.q0
  refine ⟨o.fl, o.jo, o.qG, fun x hx => ?_, o.keep.below hb hz hG⟩
  rcases List.mem_cons.1 hx with rfl | hx
  · omega
  · rcases o.out x hx with h5 | h5
    · exact hG x h5
    · omega
set_option maxRecDepth 100000 in
set_option maxHeartbeats 3200000 in
theorem works_any (W : World) : Calls Try.prog 59 #[] W fun e w' => e = .returned (.bool true) ∧ Below W.heap.size W w' := by
  have hcap : capF 512 = 512 := by decide
  go_enter Try.func59, Try.ntmps59
  go_wp2_with fail
  refine (flash_New _ 512).mono ?_
  rintro e w1 ⟨G, rfl, f1, hb1, hG⟩
  have HF := Lib.hid (And.intro f1 (And.intro hb1 hG))
  clear f1 hb1 hG
  go_wp2_with fail
  have hb2 : Below w1.heap.size w1 (w1.alloc (.cells #[.int .u8 7] 5)) := (Below.refl _ _).alloc (Nat.le_refl _) _
  have s2 : Sl (w1.alloc (.cells #[.int .u8 7] 5)) 1 (some ⟨w1.heap.size, 0, none⟩) 1 1 (([7] : List UInt8).map by8) := Sl.fresh w1 [.int .u8 7] 5 1 1 rfl (by decide)
  refine (Format_any _ (HF.out.1.below hb2) ((FOkN.new 512).more (Nat.zero_le 1)) (by omega) s2 (by omega)).mono ?_
  rintro e w3 ⟨rfl, k3⟩
  rcases fmtF_new 512 [7] with ⟨E, _, _, h3⟩ | ⟨st, e3, ha3, J3, hb3, hok3, hsz3⟩
  · rw [hcap] at h3; simp at h3
  rw [e3] at k3 ⊢
  obtain ⟨G3, f3, k3, g3⟩ := k3.out
  have hbW := bthen HF.out.2.1 hb2
  have hlo3 : ∀ x ∈ G3, W.heap.size ≤ x := fun x hx => by
    rcases g3 x hx with h | h
    · exact HF.out.2.2 x h
    · have := hbW.size; omega
  have H3 := Lib.hid (And.intro f3 (And.intro (k3.below hbW hbW.size HF.out.2.2) (And.intro hlo3 (And.intro J3 (And.intro hb3 (And.intro hok3 (And.intro hsz3 ha3)))))))
  clear f3 k3 g3 hbW hlo3 J3 hb3 hok3 hsz3 ha3 e3 s2 hb2 hcap
  go_wp2_with fail
  refine (Open_again w3 H3.out.1 H3.out.2.2.2.2.2.1 (by omega) H3.out.2.2.2.1 H3.out.2.2.2.2.1).mono ?_
  rintro e w4 ⟨q, G4, v0, v1, rfl, O4⟩
  obtain ⟨A, a, b, Av, c, d, vs, rfl, rfl, _⟩ := O4.hin.out
  have H4 := Lib.hid (O4.jw H3.out.2.1 H3.out.2.2.1)
  clear O4
  go_wp2_with fail
  have hb5 : Below w4.heap.size w4 ((w4.alloc (.cells #[.int .i64 1, .slice A a b, .slice Av c d, .int .i64 0] 100)).alloc (.cells #[.int .u8 1, .int .u8 2, .int .u8 3] 5)) := ((Below.refl _ _).alloc (Nat.le_refl _) _).alloc (by simp) _
  have s5 : Sl ((w4.alloc (.cells #[.int .i64 1, .slice A a b, .slice Av c d, .int .i64 0] 100)).alloc (.cells #[.int .u8 1, .int .u8 2, .int .u8 3] 5)) 1 (some ⟨w4.heap.size + 1, 0, none⟩) 3 3 (([1, 2, 3] : List UInt8).map by8) := by
    have h := Sl.fresh (w4.alloc (.cells #[.int .i64 1, .slice A a b, .slice Av c d, .int .i64 0] 100)) [.int .u8 1, .int .u8 2, .int .u8 3] 5 3 1 rfl (by decide)
    simp only [World.size_alloc] at h
    exact h
  obtain ⟨w5, hw5⟩ : ∃ w5, w5 = ((w4.alloc (.cells #[.int .i64 1, .slice A a b, .slice Av c d, .int .i64 0] 100)).alloc (.cells #[.int .u8 1, .int .u8 2, .int .u8 3] 5)) := ⟨_, rfl⟩
  rw [← hw5] at hb5 s5 ⊢
  clear hw5
  have J5 := H4.out.below hb5
  obtain ⟨hb5', hok5⟩ := And.intro H3.out.2.2.2.2.1 H3.out.2.2.2.2.2.1
  have z3 := H3.out.2.2.2.1.size hok5
  have hu3 := H3.out.2.2.2.1.used
  refine (JAppend_any w5 J5.jo J5.fl J5.qG (hok5.ok (by omega)) (by simp) (by simp) (by simp) s5).mono ?_
  rintro e w6 ⟨rfl, k6⟩
  rcases jappF_cases H3.out.2.2.2.1 hok5 (by omega) [1, 2, 3] with ⟨g1, _⟩ | ⟨g1, g2, _⟩ | ⟨g1, g2, ⟨j6, s6, e6, q1, q2, q3, q4, q5, q6⟩ | ⟨j6, s6, e6, q1, q2⟩⟩
  · simp at g1
  · have h7 := H3.out.2.2.2.2.2.2.1
    have h8 : (23 : Nat) = (bankF st 0).length := hu3
    have h9 : capF 512 = 512 := by decide
    have h10 := z3.2.2.2
    simp at g2 h10
    omega
  rotate_left
  · have := q1.armed; rw [H3.out.2.2.2.2.2.2.2] at this; simp at this
  have hok6 := (jappF_ok (j := ⟨0, 1, 0, ([7] : List UInt8).length + 22, false⟩) hok5 [1, 2, 3]).1
  rw [e6] at k6 hok6 ⊢
  obtain ⟨G6, J6⟩ := J5.step k6
  have HJ6 := Lib.hid (And.intro J6 (And.intro q2 (And.intro hok6 (And.intro (q6.trans hb5') q4))))
  clear J6 q1 q2 q3 q4 q5 q6 hok6 k6 e6 J5 hb5' hok5 z3 hu3 g1 g2 s5 hb5
  go_wp2_with fail
  refine (Open_again w6 HJ6.out.1.fl HJ6.out.2.2.1 (by omega) HJ6.out.2.1 HJ6.out.2.2.2.1).mono ?_
  rintro e w7 ⟨q7, G7, v0, v1, rfl, O7⟩
  obtain ⟨B, m, n, Bv, k, l, us, rfl, rfl, _⟩ := O7.hin.out
  have hJ7 := O7.jw HJ6.out.1.b (fun x hx => HJ6.out.1.lo x (List.mem_cons_of_mem _ hx))
  have hep : ((j6.epoch : Nat) : Int) = 1 := by have h : j6.epoch = 1 := HJ6.out.2.2.2.2; omega
  rw [hep]
  have H7 := Lib.hid (And.intro hJ7 O7.hin)
  clear O7 hJ7 hep
  go_wp2_with fail
  obtain ⟨Wa, hWa⟩ : ∃ x, x = w7.alloc (.cells #[.int .i64 1, .slice B m n, .slice Bv k l, .int .i64 0] 100) := ⟨_, rfl⟩
  have za : Wa.heap.size = w7.heap.size + 1 := by rw [hWa]; simp
  have ba : Below w7.heap.size w7 Wa := by rw [hWa]; exact (Below.refl _ _).alloc (Nat.le_refl _) _
  have xa : Wa.heap[w7.heap.size]? = some (.cells #[.int .i64 1, .slice B m n, .slice Bv k l, .int .i64 0] 100 (0, 0)) := by rw [hWa]; exact heap_alloc_new _ _
  rw [← hWa]
  obtain ⟨Wb, hWb⟩ : ∃ x, x = Wa.alloc (.cells #[.int .u8 7] 5) := ⟨_, rfl⟩
  have zb : Wb.heap.size = w7.heap.size + 1 + 1 := by rw [hWb]; simp [za]
  have bb : Below Wa.heap.size Wa Wb := by rw [hWb]; exact (Below.refl _ _).alloc (Nat.le_refl _) _
  have sb : Sl Wb 1 (some ⟨w7.heap.size + 1, 0, none⟩) 1 1 (([7] : List UInt8).map by8) := by rw [hWb, ← za]; exact Sl.fresh Wa [.int .u8 7] 5 1 1 rfl (by decide)
  rw [← hWb]
  obtain ⟨Wc, hWc⟩ : ∃ x, x = Wb.alloc (.cells #[.int .u8 1, .int .u8 2, .int .u8 3] 5) := ⟨_, rfl⟩
  have zc : Wc.heap.size = w7.heap.size + 1 + 1 + 1 := by rw [hWc]; simp [zb]
  have bc : Below Wb.heap.size Wb Wc := by rw [hWc]; exact (Below.refl _ _).alloc (Nat.le_refl _) _
  have sc : Sl Wc 1 (some ⟨w7.heap.size + 1 + 1, 0, none⟩) 3 3 (([1, 2, 3] : List UInt8).map by8) := by rw [hWc, ← zb]; exact Sl.fresh Wb [.int .u8 1, .int .u8 2, .int .u8 3] 5 3 1 rfl (by decide)
  rw [← hWc]
  obtain ⟨Wd, hWd⟩ : ∃ x, x = Wc.alloc (.cells #[.slice (some ⟨w7.heap.size + 1 + 1, 0, none⟩) 3 3] 22) := ⟨_, rfl⟩
  have bd : Below Wc.heap.size Wc Wd := by rw [hWd]; exact (Below.refl _ _).alloc (Nat.le_refl _) _
  have sd : Sls Wd (some ⟨w7.heap.size + 1 + 1 + 1, 0, none⟩) 1 1 [.slice (some ⟨w7.heap.size + 1 + 1, 0, none⟩) 3 3] [[1, 2, 3]] := by
    rw [hWd, ← zc]
    refine Sls.fresh Wc _ _ 22 1 rfl rfl (by decide) (fun i l hl => ?_)
    match i, hl with
    | 0, hl =>
      obtain rfl := Option.some.inj hl
      exact ⟨_, _, _, rfl, sc, by decide⟩
  rw [← hWd]
  have bz := bthen (bthen (bthen ba bb) bc) bd
  have HI : HIn Wd (fun _ => True) (.slice (some ⟨w7.heap.size + 1, 0, none⟩) 1 1) (.slice (some ⟨w7.heap.size + 1 + 1 + 1, 0, none⟩) 1 1) ⟨[7], [[1, 2, 3]]⟩ :=
    ⟨_, _, _, _, _, _, _, rfl, rfl, sb.below (bthen bc bd), fun _ _ _ => trivial, sd, fun _ _ _ => trivial, fun _ _ _ _ _ _ _ _ => trivial⟩
  have HI2 := H7.out.2.below bz
  have HC := is_any Wd HI HI2 1 0
  rw [show decide (([7] : List UInt8) = (Hd.with_ ⟨[7], []⟩ [1, 2, 3]).snap ∧ ([[1, 2, 3]] : List (List UInt8)) = (Hd.with_ ⟨[7], []⟩ [1, 2, 3]).recs) = true from decide_eq_true ⟨rfl, rfl⟩] at HC
  have xd := heap_below xa (bthen (bthen bb bc) bd)
  have HD := Lib.hid (And.intro (bthen H7.out.1.b bz) xd)
  clear HI HI2 sb sc sd bz ba bb bc bd xa xd za zb zc hWa hWb hWc hWd
  refine HC.mono ?_
  rintro e w8 ⟨rfl, b8⟩
  have x8 := heap_below HD.out.2 b8
  have m0 : w8.cell? ⟨w7.heap.size, 0, none⟩ = some (.int .i64 1) := box_cell x8 0 _ rfl
  have m1 : w8.cell? ⟨w7.heap.size, 1, none⟩ = some (.slice B m n) := box_cell x8 1 _ rfl
  have m2 : w8.cell? ⟨w7.heap.size, 2, none⟩ = some (.slice Bv k l) := box_cell x8 2 _ rfl
  have m3 : w8.cell? ⟨w7.heap.size, 3, none⟩ = some (.int .i64 0) := box_cell x8 3 _ rfl
  have H8 := Lib.hid (bthen HD.out.1 b8)
  clear x8 b8 HC
  go_wp2
  go_ret
  exact ⟨rfl, H8.out⟩
end Go.Proofs.Ytpjmbhhfpoamnaa
