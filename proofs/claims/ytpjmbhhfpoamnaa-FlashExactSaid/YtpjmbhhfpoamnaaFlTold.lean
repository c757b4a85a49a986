import Derived.Test.YtpjmbhhfpoamnaaRefL
import Derived.Test.YtpjmbhhfpoamnaaSpoilt
import Derived.Test.YtpjmbhhfpoamnaaCore12
set_option linter.unusedVariables false
set_option linter.unusedSimpArgs false
namespace Go.Proofs.Ytpjmbhhfpoamnaa
open Go.RowKit
/-- a row beside one that is written -/
theorem own_beside {w w' : World} {v u : Value} {b T n : Nat} {xs : List Value} (k : Keep v.ownBlock.toList w w') (o : w.ownsRow b T 1 u n xs) (h : ∀ j, u.ownBlock = some j → v.ownBlock ≠ some j) : w'.ownsRow b T 1 u n xs := k.own o (fun j hj hx => h j hj (by simpa using hx))
theorem sl_beside {w w' : World} {v : Value} {sz : Nat} {A : Option Addr} {n c : Nat} {xs : List Value} (k : Keep v.ownBlock.toList w w') (s : Sl w sz A n c xs) (h : ∀ ad, A = some ad → v.ownBlock ≠ some ad.block) : Sl w' sz A n c xs := s.keep k (fun ad e hx => h ad e (by simpa using hx))
theorem ne_blocks {A B : Option Addr} {n c m d : Nat} (h : ∀ ad, A = some ad → ∀ ae, B = some ae → ad.block ≠ ae.block) : ∀ j, (Value.slice B m d).ownBlock = some j → (Value.slice A n c).ownBlock ≠ some j := fun j hj hk => by
  cases A with
  | none => cases hk
  | some x => cases B with
    | none => cases hj
    | some y => exact h x rfl y rfl ((Option.some.inj hk).trans (Option.some.inj hj).symm)
theorem ne_later {w w' : World} {b b' T n n' : Nat} {v u : Value} {xs ys : List Value} (o : w.ownsRow b T 1 v n xs) (o' : w'.ownsRow b' T 1 u n' ys) (h : w.heap.size ≤ b') : ∀ j, u.ownBlock = some j → v.ownBlock ≠ some j := fun j hj hk => by
  have h1 := (o.lt j hk).2
  have h2 := (o'.lt j hj).1
  omega
theorem ne_laterA {w : World} {b' T n : Nat} {v : Value} {xs : List Value} {A : Option Addr} {b : Nat} (o : w.ownsRow b T 1 v n xs) (h : ∀ ad, A = some ad → b' ≤ ad.block) (hb : w.heap.size ≤ b') : ∀ ad, A = some ad → v.ownBlock ≠ some ad.block := fun ad e hk => by
  have h1 := (o.lt _ hk).2
  have h2 := h ad e
  omega
set_option maxRecDepth 100000 in
set_option maxHeartbeats 3200000 in
theorem told12 (w : World) {p : Nat} {G : List Nat} {s : FSt} {v : List Value} (hf : Fl w p G s) {Xs : List Nat} (hr : RFl w v s Xs) (hk : FOk s) :
    Calls Try.prog 29 #[.pointer (some ⟨p, 0, none⟩), .agg v.toArray] w fun e w' => e = .returned (.bool true) ∧ Below w.heap.size w w' := by
  obtain ⟨A, B, C, a, b, c, rfl, hA, hB, hC, _⟩ := hr.out
  rw [refV_eq]
  have hsz := hk.size; have hl0 := hk.b0; have hl1 := hk.b1
  obtain ⟨W1, hW1⟩ : ∃ W1, W1 = w.alloc (.cells #[.int .i64 s.size, .slice A s.b0.length a, .slice B s.b1.length b, .slice C s.armed.length c, .int .i64 s.count, .int .i64 s.writes, .bool s.down] 37) := ⟨_, rfl⟩
  have hb1 : Below w.heap.size w W1 := by rw [hW1]; exact (Below.refl _ _).alloc (Nat.le_refl _) _
  have x0 : W1.heap[w.heap.size]? = some (.cells #[.int .i64 s.size, .slice A s.b0.length a, .slice B s.b1.length b, .slice C s.armed.length c, .int .i64 s.count, .int .i64 s.writes, .bool s.down] 37 (0, 0)) := by rw [hW1]; exact heap_alloc_new _ _
  have HX := Lib.hid (And.intro hb1 (And.intro x0 (And.intro (hf.below hb1) (And.intro (hr.below hb1) hk))))
  have HFi := Lib.hid (fun w1 (h1 : Fl w1 p G s) => flash_Files w1 h1 (by omega) (by omega))
  have HRi := Lib.hid (fun w1 (h1 : RFl w1 (refV s A B C a b c) s Xs) => ref_Files w1 h1 hk)
  have HDo := Lib.hid (fun w1 (h1 : Fl w1 p G s) => And.intro (flash_Down w1 h1) (flash_Writes w1 h1))
  rw [refV_eq] at HRi
  clear hf hr hA hB hC hb1 x0
  obtain ⟨z, hz⟩ : ∃ z, z = s.size := ⟨_, rfl⟩
  obtain ⟨n0, hn0⟩ : ∃ z, z = s.b0.length := ⟨_, rfl⟩
  obtain ⟨n1, hn1⟩ : ∃ z, z = s.b1.length := ⟨_, rfl⟩
  obtain ⟨n2, hn2⟩ : ∃ z, z = s.armed.length := ⟨_, rfl⟩
  obtain ⟨cn, hcn⟩ : ∃ z, z = s.count := ⟨_, rfl⟩
  obtain ⟨wt, hwt⟩ : ∃ z, z = s.writes := ⟨_, rfl⟩
  obtain ⟨dn, hdn⟩ : ∃ z, z = s.down := ⟨_, rfl⟩
  rw [← hz, ← hn0, ← hn1, ← hn2, ← hcn, ← hwt, ← hdn] at hW1
  rw [← hn0, ← hn1] at HFi
  rw [← hz, ← hn0, ← hn1, ← hn2, ← hcn, ← hwt, ← hdn] at HRi
  rw [← hwt, ← hdn] at HDo
  rw [← hz, ← hn0, ← hn1, ← hn2, ← hcn, ← hwt, ← hdn]
  rw [← hz] at hsz hl0 hl1
  rw [← hn0] at hl0
  rw [← hn1] at hl1
  have HX2 : Hid (W1.heap[w.heap.size]? = some (.cells #[.int .i64 z, .slice A n0 a, .slice B n1 b, .slice C n2 c, .int .i64 cn, .int .i64 wt, .bool dn] 37 (0, 0))) := Lib.hid (by rw [hz, hn0, hn1, hn2, hcn, hwt, hdn]; exact HX.out.2.1)
  clear hz hn0 hn1 hn2 hcn hwt hdn hk
  go_enter Try.func29, Try.ntmps29
  go_wp2_with fail
  rw [← hW1]
  clear hW1
  refine (HFi.out _ HX.out.2.2.1).mono ?_
  rintro e w2 ⟨A2, B2, rfl, o2, q2, ne2, hb2⟩
  have H2 := Lib.hid (And.intro o2 (And.intro q2 (And.intro ne2 hb2)))
  clear o2 q2 ne2 hb2
  go_wp2_with (first | (at_builtin; refine Stopped.out ?_) | (at_make; refine Stopped.out ?_))
  refine (HFi.out _ (HX.out.2.2.1.below H2.out.2.2.2)).mono ?_
  rintro e w3 ⟨A3, B3, rfl, o3, q3, ne3, hb3⟩
  have H3 := Lib.hid (And.intro o3 (And.intro q3 (And.intro ne3 (And.intro hb3 (bthen H2.out.2.2.2 hb3)))))
  have y0 := heap_below HX2.out H3.out.2.2.2.2
  clear o3 q3 ne3 hb3
  have m0 : w3.cell? ⟨w.heap.size, 0, none⟩ = some (.int .i64 z) := box_cell y0 0 _ rfl
  have m1 : w3.cell? ⟨w.heap.size, 1, none⟩ = some (.slice A n0 a) := box_cell y0 1 _ rfl
  have m2 : w3.cell? ⟨w.heap.size, 2, none⟩ = some (.slice B n1 b) := box_cell y0 2 _ rfl
  have m3 : w3.cell? ⟨w.heap.size, 3, none⟩ = some (.slice C n2 c) := box_cell y0 3 _ rfl
  have m4 : w3.cell? ⟨w.heap.size, 4, none⟩ = some (.int .i64 cn) := box_cell y0 4 _ rfl
  have m5 : w3.cell? ⟨w.heap.size, 5, none⟩ = some (.int .i64 wt) := box_cell y0 5 _ rfl
  have m6 : w3.cell? ⟨w.heap.size, 6, none⟩ = some (.bool dn) := box_cell y0 6 _ rfl
  clear y0
  go_wp2_with (first | (at_builtin; refine Stopped.out ?_) | (at_make; refine Stopped.out ?_))
  refine (HRi.out _ (HX.out.2.2.2.1.below H3.out.2.2.2.2)).mono ?_
  rintro e w4 ⟨u1, u2, rfl, o4, q4, hb4⟩
  obtain ⟨A4, a4, rfl, s4, hA4⟩ := own_sl o4
  obtain ⟨B4, b4, rfl, t4, hB4⟩ := own_sl q4
  have hb34 : Below w2.heap.size w2 w4 := bthen H3.out.2.2.2.1 hb4
  have a2 := own_below H2.out.1 hb34
  have b2 := own_below H2.out.2.1 hb34
  have a3 := own_below H3.out.1 hb4
  have b3 := own_below H3.out.2.1 hb4
  have hS1 := fun m => same12 (w4.drewN m) ((own_sl' a2).2.1.drewN m) (s4.drewN m)
  have hS2 := fun m => same12 (w4.drewN m) ((own_sl' b2).2.1.drewN m) (t4.drewN m)
  have hD0 := fun m => HDo.out (w4.drewN m) ((HX.out.2.2.1.below (bthen H3.out.2.2.2.2 hb4)).below (below_drewN (Below.refl _ _) m))
  rw [show decide (s.b0 = s.b0) = true from decide_eq_true rfl] at hS1
  rw [show decide (s.b1 = s.b1) = true from decide_eq_true rfl] at hS2
  have HS1 := Lib.hid hS1
  have HS2 := Lib.hid hS2
  have HDw := Lib.hid hD0
  have y4 := heap_below HX2.out (bthen H3.out.2.2.2.2 hb4)
  have m5 : w4.cell? ⟨w.heap.size, 5, none⟩ = some (.int .i64 wt) := box_cell y4 5 _ rfl
  have m6 : w4.cell? ⟨w.heap.size, 6, none⟩ = some (.bool dn) := box_cell y4 6 _ rfl
  have hA2 := ne_laterA (b' := w3.heap.size) H2.out.1 (fun ad e => (hA4 ad e).1) H3.out.2.2.2.1.size
  have hB2 := ne_laterA (b' := w3.heap.size) H2.out.1 (fun ad e => (hB4 ad e).1) H3.out.2.2.2.1.size
  have hA2' := ne_laterA (b' := w3.heap.size) H2.out.2.1 (fun ad e => (hA4 ad e).1) H3.out.2.2.2.1.size
  have hB2' := ne_laterA (b' := w3.heap.size) H2.out.2.1 (fun ad e => (hB4 ad e).1) H3.out.2.2.2.1.size
  have HNE := Lib.hid (And.intro hA2 (And.intro hB2 (And.intro hA2' hB2')))
  have HNF := Lib.hid (And.intro (ne_later H2.out.1 H3.out.1 (Nat.le_refl _)) (And.intro (ne_later H2.out.1 H3.out.2.1 (Nat.le_refl _)) (And.intro (ne_later H2.out.2.1 H3.out.1 (Nat.le_refl _)) (ne_later H2.out.2.1 H3.out.2.1 (Nat.le_refl _)))))
  clear hA2 hB2 hA2' hB2' hA4 hB4
  have H4 := Lib.hid (And.intro a2 (And.intro b2 (And.intro a3 (And.intro b3 (And.intro s4 (And.intro t4 (bthen HX.out.1 (bthen H3.out.2.2.2.2 hb4))))))))
  have k1 : (dn == dn) = true := by simp
  have k2 : ((wt : Int) == (wt : Int)) = true := by simp
  clear o4 q4 hb4 hb34 a2 b2 a3 b3 s4 t4 hS1 hS2 hD0 y4 m0 m1 m2 m3 m4
  go_wp2_with fail
  go_quiet ((first | (go_at_call 26; first | with_reducible exact quiet_dr (HS1.out _) | with_reducible exact quiet_dr (HS2.out _)) | (go_at_call 32; with_reducible exact quiet_id (HDw.out _).1) | (go_at_call 33; with_reducible exact quiet_id (HDw.out _).2)))
  have hd5 := below_drewN (Below.refl w4.heap.size w4) nq
  have H5 := Lib.hid (And.intro (own_mono (own_below H4.out.1 hd5) HX.out.1.size) (And.intro (own_mono (own_below H4.out.2.1 hd5) HX.out.1.size) (And.intro (own_mono (own_below H4.out.2.2.1 hd5) (bthen HX.out.1 H2.out.2.2.2).size) (And.intro (own_mono (own_below H4.out.2.2.2.1 hd5) (bthen HX.out.1 H2.out.2.2.2).size) (And.intro (H4.out.2.2.2.2.1.below hd5) (And.intro (H4.out.2.2.2.2.2.1.below hd5) (bthen H4.out.2.2.2.2.2.2 hd5)))))))
  clear hd5 H4 m5 m6 HS1 HS2 HDw
  obtain ⟨W5, hW5⟩ : ∃ W5, W5 = w4.drewN nq := ⟨_, rfl⟩
  rw [← hW5] at H5 ⊢
  clear hW5
  have HNG := Lib.hid (And.intro (ne_blocks (n := n0) (c := n0) (m := n1) (d := n1) H2.out.2.2.1) (ne_blocks (n := n0) (c := n0) (m := n1) (d := n1) H3.out.2.2.1))
  clear HX HFi HRi HDo HX2 H2 H3
  go_wp2_with (first | (at_builtin; refine Stopped.out ?_) | (at_make; refine Stopped.out ?_))
  refine (spoilt12 _ H5.out.1 (by omega) H5.out.2.2.2.2.2.2.size 11 (by decide)).mono ?_
  rintro e w6 ⟨rfl, k6⟩
  have b6 := own_beside k6 H5.out.2.1 HNG.out.1
  have H6 := Lib.hid (And.intro b6 (And.intro (own_beside k6 H5.out.2.2.1 HNF.out.1) (And.intro (own_beside k6 H5.out.2.2.2.1 HNF.out.2.1) (And.intro (sl_beside k6 H5.out.2.2.2.2.1 HNE.out.1) (And.intro (sl_beside k6 H5.out.2.2.2.2.2.1 HNE.out.2.1) (k6.below H5.out.2.2.2.2.2.2 H5.out.2.2.2.2.2.2.size (fun x hx => (H5.out.1.lt x (by simpa using hx)).1)))))))
  clear k6 b6 H5
  go_wp2_with (first | (at_builtin; refine Stopped.out ?_) | (at_make; refine Stopped.out ?_))
  refine (spoilt12 _ H6.out.1 (by omega) H6.out.2.2.2.2.2.size 13 (by decide)).mono ?_
  rintro e w7 ⟨rfl, k7⟩
  have a7 := own_beside k7 H6.out.2.1 HNF.out.2.2.1
  have b7 := own_beside k7 H6.out.2.2.1 HNF.out.2.2.2
  have s7 := sl_beside k7 H6.out.2.2.2.1 HNE.out.2.2.1
  have t7 := sl_beside k7 H6.out.2.2.2.2.1 HNE.out.2.2.2
  have hb7 := k7.below H6.out.2.2.2.2.2 H6.out.2.2.2.2.2.size (fun x hx => (H6.out.1.lt x (by simpa using hx)).1)
  have hS := same12 _ (own_sl' a7).2.1 s7
  rw [show decide (s.b0 = s.b0) = true from decide_eq_true rfl] at hS
  have HS := Lib.hid hS
  have H7 := Lib.hid (And.intro a7 (And.intro b7 (And.intro t7 hb7)))
  clear k7 H6 a7 b7 s7 t7 hb7 hS
  go_wp2_with (first | (at_builtin; refine Stopped.out ?_) | (at_make; refine Stopped.out ?_))
  refine HS.out.mono ?_
  rintro e w8 ⟨rfl, hd8⟩
  have hS := same12 _ (own_sl' (own_below H7.out.2.1 hd8.below)).2.1 (H7.out.2.2.1.below hd8.below)
  rw [show decide (s.b1 = s.b1) = true from decide_eq_true rfl] at hS
  have HS2 := Lib.hid hS
  have H8 := Lib.hid (And.intro (own_below H7.out.1 hd8.below) (And.intro (own_below H7.out.2.1 hd8.below) (bthen H7.out.2.2.2 hd8.below)))
  clear hd8 HS hS H7
  go_wp2_with (first | (at_builtin; refine Stopped.out ?_) | (at_make; refine Stopped.out ?_))
  refine HS2.out.mono ?_
  rintro e w9 ⟨rfl, hd9⟩
  have H9 := Lib.hid (And.intro (own_below H8.out.1 hd9.below) (And.intro (own_below H8.out.2.1 hd9.below) (bthen H8.out.2.2 hd9.below)))
  clear hd9 HS2 H8
  go_wp2_with (first | (at_builtin; refine Stopped.out ?_) | (at_make; refine Stopped.out ?_))
  refine (spoilt12 _ H9.out.1 (by omega) H9.out.2.2.size 15 (by decide)).mono ?_
  rintro e w10 ⟨rfl, k10⟩
  have H10 := Lib.hid (And.intro (own_beside k10 H9.out.2.1 HNG.out.2) (k10.below H9.out.2.2 H9.out.2.2.size (fun x hx => (H9.out.1.lt x (by simpa using hx)).1)))
  clear k10 H9
  go_wp2_with (first | (at_builtin; refine Stopped.out ?_) | (at_make; refine Stopped.out ?_))
  refine (spoilt12 _ H10.out.1 (by omega) H10.out.2.size 17 (by decide)).mono ?_
  rintro e w11 ⟨rfl, k11⟩
  have HZ := Lib.hid (k11.below H10.out.2 H10.out.2.size (fun x hx => (H10.out.1.lt x (by simpa using hx)).1))
  clear k11 H10
  go_wp2
  go_ret
  exact ⟨rfl, HZ.out⟩
end Go.Proofs.Ytpjmbhhfpoamnaa
