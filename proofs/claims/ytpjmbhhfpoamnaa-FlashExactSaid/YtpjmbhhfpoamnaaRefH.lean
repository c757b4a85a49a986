import Derived.Test.YtpjmbhhfpoamnaaRefG
set_option linter.unusedVariables false
set_option linter.unusedSimpArgs false
namespace Go.Proofs.Ytpjmbhhfpoamnaa
open Go.RowKit
/-! ### the document's flash: its calls -/
theorem refV_eq (s : FSt) (A B C : Option Addr) (a b c : Nat) : (Value.agg (refV s A B C a b c).toArray) = .agg #[.int .i64 s.size, .slice A s.b0.length a, .slice B s.b1.length b, .slice C s.armed.length c, .int .i64 s.count, .int .i64 s.writes, .bool s.down] := rfl
set_option maxHeartbeats 800000 in
theorem ref_bankG0 (w : World) (z cnt wr : Int) (A B C : Option Addr) (n m q a b c : Nat) (dn : Bool) :
    Calls Try.prog 119 #[.agg #[.int .i64 z, .slice A n a, .slice B m b, .slice C q c, .int .i64 cnt, .int .i64 wr, .bool dn], .int .i64 0] w fun e w' => e = .returned (.slice A n a) ∧ Below w.heap.size w w' := by
  have hblk := heap_alloc_new w (.cells #[.int .i64 z, .slice A n a, .slice B m b, .slice C q c, .int .i64 cnt, .int .i64 wr, .bool dn] 37)
  have g1 := box_cell hblk 1 _ rfl
  clear hblk
  go_enter Try.func119, Try.ntmps119
  go_wp2
  go_ret
  exact ⟨rfl, (Below.refl _ _).alloc (Nat.le_refl _) _⟩
set_option maxHeartbeats 800000 in
theorem ref_bankG1 (w : World) (z cnt wr : Int) (A B C : Option Addr) (n m q a b c : Nat) (dn : Bool) (i : Int) (hi : i ≠ 0) :
    Calls Try.prog 119 #[.agg #[.int .i64 z, .slice A n a, .slice B m b, .slice C q c, .int .i64 cnt, .int .i64 wr, .bool dn], .int .i64 i] w fun e w' => e = .returned (.slice B m b) ∧ Below w.heap.size w w' := by
  have hblk := heap_alloc_new w (.cells #[.int .i64 z, .slice A n a, .slice B m b, .slice C q c, .int .i64 cnt, .int .i64 wr, .bool dn] 37)
  have g2 := box_cell hblk 2 _ rfl
  have q0 : (i == 0) = false := by simpa using hi
  clear hblk hi
  go_enter Try.func119, Try.ntmps119
  go_wp2
  go_ret
  exact ⟨rfl, (Below.refl _ _).alloc (Nat.le_refl _) _⟩
/-- the bank of a number, either -/
theorem ref_bankG (w : World) (z cnt wr : Int) (A B C : Option Addr) (n m q a b c : Nat) (dn : Bool) (i : Int) {X : Option Addr} {x y : Nat} (h : (i = 0 ∧ X = A ∧ x = n ∧ y = a) ∨ (i ≠ 0 ∧ X = B ∧ x = m ∧ y = b)) :
    Calls Try.prog 119 #[.agg #[.int .i64 z, .slice A n a, .slice B m b, .slice C q c, .int .i64 cnt, .int .i64 wr, .bool dn], .int .i64 i] w fun e w' => e = .returned (.slice X x y) ∧ Below w.heap.size w w' := by
  rcases h with ⟨rfl, rfl, rfl, rfl⟩ | ⟨h, rfl, rfl, rfl⟩
  · exact ref_bankG0 w z cnt wr _ _ _ _ _ _ _ _ _ dn
  · exact ref_bankG1 w z cnt wr _ _ _ _ _ _ _ _ _ dn i h
theorem ref_refusedG (w : World) (s : FSt) (A B C : Option Addr) (a b c : Nat) (n : Int) :
    Calls Try.prog 118 #[.agg #[.int .i64 s.size, .slice A s.b0.length a, .slice B s.b1.length b, .slice C s.armed.length c, .int .i64 s.count, .int .i64 s.writes, .bool s.down], .int .i64 n] w fun e w' => e = .returned (.int .i64 (refusedF s n : Nat)) ∧ Below w.heap.size w w' := ref_refused w s A B C a b c n
set_option maxRecDepth 100000 in
set_option maxHeartbeats 1600000 in
theorem ref_Read (w : World) {v : List Value} {s : FSt} {Xs : List Nat} (h : RFl w v s Xs) (hk : FOk s) (n : Int) :
    Calls Try.prog 83 #[.agg v.toArray, .int .i64 n] w fun e w' => ∃ u l, e = .returned (.tuple #[u, .int .i64 (refusedF s n : Nat)]) ∧ (refusedF s n = 0 → l = bankF s n.toNat) ∧ (refusedF s n ≠ 0 → l = []) ∧ w'.ownsRow w.heap.size 5 1 u l.length (l.map by8) ∧ Below w.heap.size w w' := by
  obtain ⟨A, B, C, a, b, c, rfl, hA, hB, hC, hAp⟩ := h.out
  have HAp := Lib.hid hAp
  clear hAp
  rw [refV_eq]
  have hbx : Below w.heap.size w (w.alloc (.cells #[.int .i64 s.size, .slice A s.b0.length a, .slice B s.b1.length b, .slice C s.armed.length c, .int .i64 s.count, .int .i64 s.writes, .bool s.down] 37)) := (Below.refl _ _).alloc (Nat.le_refl _) _
  have x0 := heap_alloc_new w (.cells #[.int .i64 s.size, .slice A s.b0.length a, .slice B s.b1.length b, .slice C s.armed.length c, .int .i64 s.count, .int .i64 s.writes, .bool s.down] 37)
  have HRf := ref_refusedG (w.alloc (.cells #[.int .i64 s.size, .slice A s.b0.length a, .slice B s.b1.length b, .slice C s.armed.length c, .int .i64 s.count, .int .i64 s.writes, .bool s.down] 37)) s A B C a b c n
  obtain ⟨rf, hrf⟩ : ∃ rf, rf = refusedF s n := ⟨_, rfl⟩
  rw [← hrf] at HRf ⊢
  by_cases h0 : rf ≠ 0
  · have i0 : ((rf : Int) != 0) = true := by simp; omega
    have HF := Lib.hid (And.intro HRf hbx)
    have HZ := Lib.hid h0
    clear HRf x0 hA hB hC h hk hrf h0 hbx
    go_enter Try.func83, Try.ntmps83
    go_wp2_with (first | (at_builtin; refine Stopped.out ?_) | (at_make; refine Stopped.out ?_))
    refine HF.out.1.mono ?_
    rintro e w1 ⟨rfl, hb1⟩
    have HB1 := Lib.hid (bthen HF.out.2 hb1)
    clear hb1
    go_wp2
    go_ret2
    exact ⟨_, [], rfl, fun h => absurd h HZ.out, fun _ => rfl, World.ownsRow_nil .., HB1.out⟩
  · obtain rfl : rf = 0 := by omega
    obtain ⟨hn, hd⟩ := refused_zero hrf.symm
    obtain ⟨X, x, y, hX, hx, hl⟩ : ∃ (X : Option Addr) (x y : Nat), ((n = 0 ∧ X = A ∧ x = s.b0.length ∧ y = a) ∨ (n ≠ 0 ∧ X = B ∧ x = s.b1.length ∧ y = b)) ∧ Sl w 1 X x y ((bankF s n.toNat).map by8) ∧ x ≤ s.size := by
      rcases hn with rfl | rfl
      · exact ⟨A, _, a, .inl ⟨rfl, rfl, rfl, rfl⟩, hA, hk.b0⟩
      · exact ⟨B, _, b, .inr ⟨by decide, rfl, rfl, rfl⟩, hB, hk.b1⟩
    have HG := Lib.hid (fun w1 => ref_bankG w1 s.size s.count s.writes A B C s.b0.length s.b1.length s.armed.length a b c s.down n hX)
    have HXs := Lib.hid (And.intro hx (And.intro hl hk.size))
    have HF := Lib.hid (And.intro HRf hbx)
    have hbl : (bankF s n.toNat).length = x := by simpa using hx.len
    have HN : Hid ((bankF s n.toNat).length = x ∧ (bankF s n.toNat).take s.size = bankF s n.toNat) := Lib.hid ⟨hbl, List.take_of_length_le (by omega)⟩
    clear hbl
    obtain ⟨L, hL⟩ : ∃ L, L = bankF s n.toNat := ⟨_, rfl⟩
    rw [← hL] at HXs HN ⊢
    obtain ⟨z, hz⟩ : ∃ z, z = s.size := ⟨_, rfl⟩
    obtain ⟨n0, hn0⟩ : ∃ z, z = s.b0.length := ⟨_, rfl⟩
    obtain ⟨n1, hn1⟩ : ∃ z, z = s.b1.length := ⟨_, rfl⟩
    obtain ⟨n2, hn2⟩ : ∃ z, z = s.armed.length := ⟨_, rfl⟩
    obtain ⟨cn, hcn⟩ : ∃ z, z = s.count := ⟨_, rfl⟩
    obtain ⟨wt, hwt⟩ : ∃ z, z = s.writes := ⟨_, rfl⟩
    obtain ⟨dn, hdn⟩ : ∃ z, z = s.down := ⟨_, rfl⟩
    rw [← hz, ← hn0, ← hn1, ← hn2, ← hcn, ← hwt, ← hdn] at HG HF x0 ⊢
    rw [← hz] at HXs HN
    clear hz hn0 hn1 hn2 hcn hwt hdn hL hrf h0 hn hd hX hx hl HRf hbx hA hB hC h hk
    go_enter Try.func83, Try.ntmps83
    go_wp2_with (first | (at_builtin; refine Stopped.out ?_) | (at_make; refine Stopped.out ?_))
    refine HF.out.1.mono ?_
    rintro e w1 ⟨rfl, hb1⟩
    have x1 := heap_below x0 hb1
    have HB1 := Lib.hid (bthen HF.out.2 hb1)
    have hx1 := HXs.out.1.below HB1.out
    have HX1 := Lib.hid hx1
    have m0 : w1.cell? ⟨w.heap.size, 0, none⟩ = some (.int .i64 z) := box_cell x1 0 _ rfl
    have m1 : w1.cell? ⟨w.heap.size, 1, none⟩ = some (.slice A n0 a) := box_cell x1 1 _ rfl
    have m2 : w1.cell? ⟨w.heap.size, 2, none⟩ = some (.slice B n1 b) := box_cell x1 2 _ rfl
    have m3 : w1.cell? ⟨w.heap.size, 3, none⟩ = some (.slice C n2 c) := box_cell x1 3 _ rfl
    have m4 : w1.cell? ⟨w.heap.size, 4, none⟩ = some (.int .i64 cn) := box_cell x1 4 _ rfl
    have m5 : w1.cell? ⟨w.heap.size, 5, none⟩ = some (.int .i64 wt) := box_cell x1 5 _ rfl
    have m6 : w1.cell? ⟨w.heap.size, 6, none⟩ = some (.bool dn) := box_cell x1 6 _ rfl
    clear hb1 x0 hx1
    go_wp2_with fail
    go_region_held3 (fun w' => w'.cell? ⟨w.heap.size, 0, none⟩ = some (.int .i64 z) ∧ w'.cell? ⟨w.heap.size, 1, none⟩ = some (.slice A n0 a) ∧ w'.cell? ⟨w.heap.size, 2, none⟩ = some (.slice B n1 b) ∧ w'.cell? ⟨w.heap.size, 3, none⟩ = some (.slice C n2 c) ∧ w'.cell? ⟨w.heap.size, 4, none⟩ = some (.int .i64 cn) ∧ w'.cell? ⟨w.heap.size, 5, none⟩ = some (.int .i64 wt) ∧ w'.cell? ⟨w.heap.size, 6, none⟩ = some (.bool dn))
      (first | exact ⟨m0, m1, m2, m3, m4, m5, m6⟩ | exact q7 | exact p7 | go_keep)
      (first
        | (go_at_call 81; refine (ref_upTo _ (HX1.out.below (bthen ((Below.refl _ _).drew) hb2)) _ (by have := HXs.out.2; omega)).mono ?_; rintro e w3 ⟨u, rfl, o3, hb3⟩; have q7 : w3.cell? ⟨w.heap.size, 0, none⟩ = some (.int .i64 z) ∧ w3.cell? ⟨w.heap.size, 1, none⟩ = some (.slice A n0 a) ∧ w3.cell? ⟨w.heap.size, 2, none⟩ = some (.slice B n1 b) ∧ w3.cell? ⟨w.heap.size, 3, none⟩ = some (.slice C n2 c) ∧ w3.cell? ⟨w.heap.size, 4, none⟩ = some (.int .i64 cn) ∧ w3.cell? ⟨w.heap.size, 5, none⟩ = some (.int .i64 wt) ∧ w3.cell? ⟨w.heap.size, 6, none⟩ = some (.bool dn) := (let y := heap_below x2 hb3; ⟨box_cell y 0 _ rfl, box_cell y 1 _ rfl, box_cell y 2 _ rfl, box_cell y 3 _ rfl, box_cell y 4 _ rfl, box_cell y 5 _ rfl, box_cell y 6 _ rfl⟩))
        | (go_at_call 119; refine (HG.out _).mono ?_; rintro e w2 ⟨rfl, hb2⟩; have x2 := heap_below (w := w1.drew) x1 hb2; have p7 : w2.cell? ⟨w.heap.size, 0, none⟩ = some (.int .i64 z) ∧ w2.cell? ⟨w.heap.size, 1, none⟩ = some (.slice A n0 a) ∧ w2.cell? ⟨w.heap.size, 2, none⟩ = some (.slice B n1 b) ∧ w2.cell? ⟨w.heap.size, 3, none⟩ = some (.slice C n2 c) ∧ w2.cell? ⟨w.heap.size, 4, none⟩ = some (.int .i64 cn) ∧ w2.cell? ⟨w.heap.size, 5, none⟩ = some (.int .i64 wt) ∧ w2.cell? ⟨w.heap.size, 6, none⟩ = some (.bool dn) := ⟨box_cell x2 0 _ rfl, box_cell x2 1 _ rfl, box_cell x2 2 _ rfl, box_cell x2 3 _ rfl, box_cell x2 4 _ rfl, box_cell x2 5 _ rfl, box_cell x2 6 _ rfl⟩))
    have HZ := Lib.hid (And.intro (own_mono o3 (show w.heap.size ≤ w2.heap.size by have h1 := HB1.out.size; have h2 := hb2.size; simp at h2; omega)) (bthen HB1.out (bthen (bthen ((Below.refl _ _).drew) hb2) hb3)))
    clear o3 hb2 hb3 q7 p7 x1 x2 m0 m1 m2 m3 m4 m5 m6
    go_wp2
    go_ret2
    exact ⟨u, L, rfl, fun _ => rfl, fun h => absurd rfl h, by have := HZ.out.1; rwa [HN.out.2] at this, HZ.out.2⟩
set_option maxRecDepth 100000 in
set_option maxHeartbeats 1600000 in
theorem ref_Room (w : World) {v : List Value} {s : FSt} {Xs : List Nat} (h : RFl w v s Xs) (hk : FOk s) (n : Int) :
    Calls Try.prog 84 #[.agg v.toArray, .int .i64 n] w fun e w' => e = .returned (.tuple #[.int .i64 (if refusedF s n = 0 then s.size - (bankF s n.toNat).length else 0 : Nat), .int .i64 (refusedF s n : Nat)]) ∧ Below w.heap.size w w' := by
  obtain ⟨A, B, C, a, b, c, rfl, hA, hB, hC, hAp⟩ := h.out
  have HAp := Lib.hid hAp
  clear hAp
  rw [refV_eq]
  have hbx : Below w.heap.size w (w.alloc (.cells #[.int .i64 s.size, .slice A s.b0.length a, .slice B s.b1.length b, .slice C s.armed.length c, .int .i64 s.count, .int .i64 s.writes, .bool s.down] 37)) := (Below.refl _ _).alloc (Nat.le_refl _) _
  have x0 := heap_alloc_new w (.cells #[.int .i64 s.size, .slice A s.b0.length a, .slice B s.b1.length b, .slice C s.armed.length c, .int .i64 s.count, .int .i64 s.writes, .bool s.down] 37)
  have HRf := ref_refusedG (w.alloc (.cells #[.int .i64 s.size, .slice A s.b0.length a, .slice B s.b1.length b, .slice C s.armed.length c, .int .i64 s.count, .int .i64 s.writes, .bool s.down] 37)) s A B C a b c n
  obtain ⟨rf, hrf⟩ : ∃ rf, rf = refusedF s n := ⟨_, rfl⟩
  rw [← hrf] at HRf ⊢
  by_cases h0 : rf ≠ 0
  · have i0 : ((rf : Int) != 0) = true := by simp; omega
    have HF := Lib.hid (And.intro HRf hbx)
    rw [if_neg h0]
    clear HRf x0 hA hB hC h hk hrf h0 hbx
    go_enter Try.func84, Try.ntmps84
    go_wp2_with (first | (at_builtin; refine Stopped.out ?_) | (at_make; refine Stopped.out ?_))
    refine HF.out.1.mono ?_
    rintro e w1 ⟨rfl, hb1⟩
    have HB1 := Lib.hid (bthen HF.out.2 hb1)
    clear hb1
    go_wp2
    go_ret2
    exact ⟨rfl, HB1.out⟩
  · obtain rfl : rf = 0 := by omega
    rw [if_pos rfl]
    obtain ⟨hn, hd⟩ := refused_zero hrf.symm
    obtain ⟨X, x, y, hX, hx, hl⟩ : ∃ (X : Option Addr) (x y : Nat), ((n = 0 ∧ X = A ∧ x = s.b0.length ∧ y = a) ∨ (n ≠ 0 ∧ X = B ∧ x = s.b1.length ∧ y = b)) ∧ x = (bankF s n.toNat).length ∧ x ≤ s.size := by
      rcases hn with rfl | rfl
      · exact ⟨A, _, a, .inl ⟨rfl, rfl, rfl, rfl⟩, rfl, hk.b0⟩
      · exact ⟨B, _, b, .inr ⟨by decide, rfl, rfl, rfl⟩, rfl, hk.b1⟩
    have HG := Lib.hid (fun w1 => ref_bankG w1 s.size s.count s.writes A B C s.b0.length s.b1.length s.armed.length a b c s.down n hX)
    have HF := Lib.hid (And.intro HRf hbx)
    rw [← hx]
    have hz1 := hk.size
    obtain ⟨z, hz⟩ : ∃ z, z = s.size := ⟨_, rfl⟩
    obtain ⟨n0, hn0⟩ : ∃ z, z = s.b0.length := ⟨_, rfl⟩
    obtain ⟨n1, hn1⟩ : ∃ z, z = s.b1.length := ⟨_, rfl⟩
    obtain ⟨n2, hn2⟩ : ∃ z, z = s.armed.length := ⟨_, rfl⟩
    obtain ⟨cn, hcn⟩ : ∃ z, z = s.count := ⟨_, rfl⟩
    obtain ⟨wt, hwt⟩ : ∃ z, z = s.writes := ⟨_, rfl⟩
    obtain ⟨dn, hdn⟩ : ∃ z, z = s.down := ⟨_, rfl⟩
    rw [← hz, ← hn0, ← hn1, ← hn2, ← hcn, ← hwt, ← hdn] at HG HF x0
    rw [← hz, ← hn0, ← hn1, ← hn2, ← hcn, ← hwt, ← hdn]
    rw [← hz] at hl hz1
    have hsub : ((z - x : Nat) : Int) = (z : Int) - x := by omega
    rw [hsub]
    clear hz hn0 hn1 hn2 hcn hwt hdn hrf h0 hn hd hX hx HRf hbx hA hB hC h hk hsub
    go_enter Try.func84, Try.ntmps84
    go_wp2_with (first | (at_builtin; refine Stopped.out ?_) | (at_make; refine Stopped.out ?_))
    refine HF.out.1.mono ?_
    rintro e w1 ⟨rfl, hb1⟩
    have x1 := heap_below x0 hb1
    have HB1 := Lib.hid (bthen HF.out.2 hb1)
    have m0 : w1.cell? ⟨w.heap.size, 0, none⟩ = some (.int .i64 z) := box_cell x1 0 _ rfl
    have m1 : w1.cell? ⟨w.heap.size, 1, none⟩ = some (.slice A n0 a) := box_cell x1 1 _ rfl
    have m2 : w1.cell? ⟨w.heap.size, 2, none⟩ = some (.slice B n1 b) := box_cell x1 2 _ rfl
    have m3 : w1.cell? ⟨w.heap.size, 3, none⟩ = some (.slice C n2 c) := box_cell x1 3 _ rfl
    have m4 : w1.cell? ⟨w.heap.size, 4, none⟩ = some (.int .i64 cn) := box_cell x1 4 _ rfl
    have m5 : w1.cell? ⟨w.heap.size, 5, none⟩ = some (.int .i64 wt) := box_cell x1 5 _ rfl
    have m6 : w1.cell? ⟨w.heap.size, 6, none⟩ = some (.bool dn) := box_cell x1 6 _ rfl
    clear hb1 x0
    go_wp2_with fail
    go_region_held3 (fun w' => w'.cell? ⟨w.heap.size, 0, none⟩ = some (.int .i64 z) ∧ w'.cell? ⟨w.heap.size, 1, none⟩ = some (.slice A n0 a) ∧ w'.cell? ⟨w.heap.size, 2, none⟩ = some (.slice B n1 b) ∧ w'.cell? ⟨w.heap.size, 3, none⟩ = some (.slice C n2 c) ∧ w'.cell? ⟨w.heap.size, 4, none⟩ = some (.int .i64 cn) ∧ w'.cell? ⟨w.heap.size, 5, none⟩ = some (.int .i64 wt) ∧ w'.cell? ⟨w.heap.size, 6, none⟩ = some (.bool dn))
      (first | exact ⟨m0, m1, m2, m3, m4, m5, m6⟩ | exact p7 | go_keep)
      (first
        | (go_at_call 119; refine (HG.out _).mono ?_; rintro e w2 ⟨rfl, hb2⟩; have p7 : w2.cell? ⟨w.heap.size, 0, none⟩ = some (.int .i64 z) ∧ w2.cell? ⟨w.heap.size, 1, none⟩ = some (.slice A n0 a) ∧ w2.cell? ⟨w.heap.size, 2, none⟩ = some (.slice B n1 b) ∧ w2.cell? ⟨w.heap.size, 3, none⟩ = some (.slice C n2 c) ∧ w2.cell? ⟨w.heap.size, 4, none⟩ = some (.int .i64 cn) ∧ w2.cell? ⟨w.heap.size, 5, none⟩ = some (.int .i64 wt) ∧ w2.cell? ⟨w.heap.size, 6, none⟩ = some (.bool dn) := (let y := heap_below (w := w1.drew) x1 hb2; ⟨box_cell y 0 _ rfl, box_cell y 1 _ rfl, box_cell y 2 _ rfl, box_cell y 3 _ rfl, box_cell y 4 _ rfl, box_cell y 5 _ rfl, box_cell y 6 _ rfl⟩)))
    all_goals
      have HZ := Lib.hid (bthen HB1.out (bthen ((Below.refl _ _).drew) hb2))
      clear hb2 p7 x1 m0 m1 m2 m3 m4 m5 m6
      go_wp2
      go_ret2
      exact ⟨by simp; rw [IntKind.wrap_i64]; omega, HZ.out⟩
set_option maxRecDepth 100000 in
set_option maxHeartbeats 1600000 in
theorem ref_Files (w : World) {v : List Value} {s : FSt} {Xs : List Nat} (h : RFl w v s Xs) (hk : FOk s) :
    Calls Try.prog 70 #[.agg v.toArray] w fun e w' => ∃ u1 u2, e = .returned (.tuple #[u1, u2]) ∧ w'.ownsRow w.heap.size 5 1 u1 s.b0.length (s.b0.map by8) ∧ w'.ownsRow w.heap.size 5 1 u2 s.b1.length (s.b1.map by8) ∧ Below w.heap.size w w' := by
  obtain ⟨A, B, C, a, b, c, rfl, hA, hB, hC, hAp⟩ := h.out
  have HAp := Lib.hid hAp
  clear hAp
  rw [refV_eq]
  have hbx : Below w.heap.size w (w.alloc (.cells #[.int .i64 s.size, .slice A s.b0.length a, .slice B s.b1.length b, .slice C s.armed.length c, .int .i64 s.count, .int .i64 s.writes, .bool s.down] 37)) := (Below.refl _ _).alloc (Nat.le_refl _) _
  have x0 := heap_alloc_new w (.cells #[.int .i64 s.size, .slice A s.b0.length a, .slice B s.b1.length b, .slice C s.armed.length c, .int .i64 s.count, .int .i64 s.writes, .bool s.down] 37)
  have H0 := Lib.hid (And.intro (hA.below hbx) (And.intro (hB.below hbx) hbx))
  have HL : Hid (s.b0.take s.size = s.b0 ∧ s.b1.take s.size = s.b1) := Lib.hid ⟨List.take_of_length_le hk.b0, List.take_of_length_le hk.b1⟩
  have hz0 := hk.b0; have hz1 := hk.b1; have hz2 := hk.size
  obtain ⟨z, hz⟩ : ∃ z, z = s.size := ⟨_, rfl⟩
  obtain ⟨n0, hn0⟩ : ∃ z, z = s.b0.length := ⟨_, rfl⟩
  obtain ⟨n1, hn1⟩ : ∃ z, z = s.b1.length := ⟨_, rfl⟩
  obtain ⟨n2, hn2⟩ : ∃ z, z = s.armed.length := ⟨_, rfl⟩
  obtain ⟨cn, hcn⟩ : ∃ z, z = s.count := ⟨_, rfl⟩
  obtain ⟨wt, hwt⟩ : ∃ z, z = s.writes := ⟨_, rfl⟩
  obtain ⟨dn, hdn⟩ : ∃ z, z = s.down := ⟨_, rfl⟩
  rw [← hz, ← hn0, ← hn1, ← hn2, ← hcn, ← hwt, ← hdn] at H0 x0
  rw [← hz, ← hn0, ← hn1, ← hn2, ← hcn, ← hwt, ← hdn]
  rw [← hz] at HL hz0 hz1 hz2
  rw [← hn0] at hz0
  rw [← hn1] at hz1
  have HN := Lib.hid (And.intro hn0 hn1)
  clear hz hn0 hn1 hn2 hcn hwt hdn hbx hA hB hC h hk
  obtain ⟨w1, hw1⟩ : ∃ w1, w1 = w.alloc (.cells #[.int .i64 z, .slice A n0 a, .slice B n1 b, .slice C n2 c, .int .i64 cn, .int .i64 wt, .bool dn] 37) := ⟨_, rfl⟩
  rw [← hw1] at H0 x0
  have m0 : w1.cell? ⟨w.heap.size, 0, none⟩ = some (.int .i64 z) := box_cell x0 0 _ rfl
  have m1 : w1.cell? ⟨w.heap.size, 1, none⟩ = some (.slice A n0 a) := box_cell x0 1 _ rfl
  have m2 : w1.cell? ⟨w.heap.size, 2, none⟩ = some (.slice B n1 b) := box_cell x0 2 _ rfl
  have m3 : w1.cell? ⟨w.heap.size, 3, none⟩ = some (.slice C n2 c) := box_cell x0 3 _ rfl
  have m4 : w1.cell? ⟨w.heap.size, 4, none⟩ = some (.int .i64 cn) := box_cell x0 4 _ rfl
  have m5 : w1.cell? ⟨w.heap.size, 5, none⟩ = some (.int .i64 wt) := box_cell x0 5 _ rfl
  have m6 : w1.cell? ⟨w.heap.size, 6, none⟩ = some (.bool dn) := box_cell x0 6 _ rfl
  go_enter Try.func70, Try.ntmps70
  go_wp2_with fail
  rw [← hw1]
  clear hw1
  go_region_held3 (fun w' => w'.cell? ⟨w.heap.size, 0, none⟩ = some (.int .i64 z) ∧ w'.cell? ⟨w.heap.size, 1, none⟩ = some (.slice A n0 a) ∧ w'.cell? ⟨w.heap.size, 2, none⟩ = some (.slice B n1 b) ∧ w'.cell? ⟨w.heap.size, 3, none⟩ = some (.slice C n2 c) ∧ w'.cell? ⟨w.heap.size, 4, none⟩ = some (.int .i64 cn) ∧ w'.cell? ⟨w.heap.size, 5, none⟩ = some (.int .i64 wt) ∧ w'.cell? ⟨w.heap.size, 6, none⟩ = some (.bool dn))
    (first | exact ⟨m0, m1, m2, m3, m4, m5, m6⟩ | exact q7 | exact p7 | go_keep)
    (first
      | (go_at_call 81; refine (ref_upTo _ (H0.out.2.1.below (bthen ((Below.refl _ _).drew) hb2)) _ (by omega)).mono ?_; rintro e w3 ⟨u2, rfl, o3, hb3⟩; have q7 : w3.cell? ⟨w.heap.size, 0, none⟩ = some (.int .i64 z) ∧ w3.cell? ⟨w.heap.size, 1, none⟩ = some (.slice A n0 a) ∧ w3.cell? ⟨w.heap.size, 2, none⟩ = some (.slice B n1 b) ∧ w3.cell? ⟨w.heap.size, 3, none⟩ = some (.slice C n2 c) ∧ w3.cell? ⟨w.heap.size, 4, none⟩ = some (.int .i64 cn) ∧ w3.cell? ⟨w.heap.size, 5, none⟩ = some (.int .i64 wt) ∧ w3.cell? ⟨w.heap.size, 6, none⟩ = some (.bool dn) := (let y := heap_below (heap_below (w := w1.drew) x0 hb2) hb3; ⟨box_cell y 0 _ rfl, box_cell y 1 _ rfl, box_cell y 2 _ rfl, box_cell y 3 _ rfl, box_cell y 4 _ rfl, box_cell y 5 _ rfl, box_cell y 6 _ rfl⟩))
      | (go_at_call 81; refine (ref_upTo _ (H0.out.1.below ((Below.refl _ _).drew)) _ (by omega)).mono ?_; rintro e w2 ⟨u1, rfl, o2, hb2⟩; have p7 : w2.cell? ⟨w.heap.size, 0, none⟩ = some (.int .i64 z) ∧ w2.cell? ⟨w.heap.size, 1, none⟩ = some (.slice A n0 a) ∧ w2.cell? ⟨w.heap.size, 2, none⟩ = some (.slice B n1 b) ∧ w2.cell? ⟨w.heap.size, 3, none⟩ = some (.slice C n2 c) ∧ w2.cell? ⟨w.heap.size, 4, none⟩ = some (.int .i64 cn) ∧ w2.cell? ⟨w.heap.size, 5, none⟩ = some (.int .i64 wt) ∧ w2.cell? ⟨w.heap.size, 6, none⟩ = some (.bool dn) := (let y := heap_below (w := w1.drew) x0 hb2; ⟨box_cell y 0 _ rfl, box_cell y 1 _ rfl, box_cell y 2 _ rfl, box_cell y 3 _ rfl, box_cell y 4 _ rfl, box_cell y 5 _ rfl, box_cell y 6 _ rfl⟩)))
  all_goals
    have HZ := Lib.hid (And.intro (own_below o2 hb3) (And.intro o3 (And.intro hb2.size (bthen H0.out.2.2 (bthen (bthen ((Below.refl _ _).drew) hb2) hb3)))))
    clear hb2 hb3 p7 q7 x0 m0 m1 m2 m3 m4 m5 m6 o2 o3
    go_wp2
    go_ret2
    have e0 := HL.out.1
    have e1 := HL.out.2
    have g1 := HZ.out.1
    have g2 := HZ.out.2.1
    have hs := H0.out.2.2.size
    have hs2 := HZ.out.2.2.1
    rw [e0, ← HN.out.1] at g1
    rw [e1, ← HN.out.2] at g2
    refine ⟨u1, u2, rfl, own_mono g1 (by simp; omega), own_mono g2 (by simp at hs2; omega), HZ.out.2.2.2⟩
end Go.Proofs.Ytpjmbhhfpoamnaa
