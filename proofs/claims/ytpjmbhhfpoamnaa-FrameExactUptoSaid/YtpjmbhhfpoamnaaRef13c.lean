import Derived.Test.YtpjmbhhfpoamnaaRef13b
set_option linter.unusedVariables false
set_option linter.unusedSimpArgs false
namespace Go.Proofs.Ytpjmbhhfpoamnaa
open Go.RowKit
set_option maxRecDepth 100000 in
set_option maxHeartbeats 1600000 in
theorem RefEncode (w : World) (k : UInt8) {A : Option Addr} {n c : Nat} {l : List UInt8} (h : Sl w 1 A n c (l.map by8)) (hn : n ≤ 262144) :
    Calls Try.prog 99 #[.int .u8 (k.toNat : Int), .slice A n c] w fun e w' => ∃ B cb, e = .returned (.tuple #[.slice B (n + 10) cb, .bool true]) ∧ w'.ownsRow w.heap.size 5 1 (.slice B (n + 10) cb) (n + 10) ((frB k l).map by8) ∧ Below w.heap.size w w' := by
  have hl : l.length = n := by simpa using h.len
  have hc := h.le; have hcm := h.max
  have i1 : decide ((262144 : Int) < (n : Int)) = false := decide_eq_false (by omega)
  have i2 : IntKind.u32.wrap (n : Int) = (n : Int) := by rw [IntKind.wrap_u32]; omega
  have hb0 : Below w.heap.size w (w.alloc (.cells #[.int .u8 (k.toNat : Int)] 5)) := (Below.refl _ _).alloc (Nat.le_refl _) _
  have HL := Lib.hid (And.intro hl (And.intro h hb0))
  clear h hl hb0
  go_enter Try.func99, Try.ntmps99
  go_wp2_with (first | (at_builtin; refine Stopped.out ?_) | (at_make; refine Stopped.out ?_))
  refine Stopped.mk (apk_own EBj rfl (.tmp 12) (.tmp 14) rfl rfl (World.ownsRow_nil (base := w.heap.size) _ _ _) rfl (Sl.fresh w [.int .u8 (k.toNat : Int)] 5 1 1 rfl (by decide)) (by simp [Value.oneCell']) (by simp only [maxLen]; omega) (by omega) (by simp) ?_)
  intro v1 w1 o1 hg1 _
  have hb1 : Below w.heap.size w w1 := HL.out.2.2.grown hg1 HL.out.2.2.size (fun k hk => by cases hk)
  rw [Nat.zero_add, List.nil_append, show [Value.int .u8 (k.toNat : Int)] = ([k] : List UInt8).map by8 from rfl] at o1
  have H1 := Lib.hid (And.intro o1 hb1)
  clear o1 hg1 hb1
  go_wp2_with (first | (at_builtin; refine Stopped.out ?_) | (at_make; refine Stopped.out ?_))
  refine (four13 _ n (by omega)).mono ?_
  rintro e w2 ⟨rfl, o2, hb2⟩
  have HB2 := Lib.hid (bthen H1.out.2 hb2)
  have p2 := own_below H1.out.1 hb2
  have H2 := Lib.hid (And.intro p2 ((own_sl' o2).2.1))
  obtain ⟨z1, hz1⟩ : ∃ z, z = w1.heap.size := ⟨_, rfl⟩
  rw [← hz1] at H2 ⊢
  clear o2 hb2 p2 hz1
  go_wp2_with (first | (at_builtin; refine Stopped.out ?_) | (at_make; refine Stopped.out ?_))
  refine Stopped.mk (apk_own EBj rfl (.tmp 16) (.tmp 20) rfl rfl H2.out.1 rfl H2.out.2 (u8_one _) (by simp only [maxLen]; omega) (by omega) HB2.out.size ?_)
  intro v3 w3 o3 hg3 _
  have hb3 : Below w.heap.size w w3 := HB2.out.grown hg3 HB2.out.size (fun k hk => (H2.out.1.lt k hk).1)
  rw [← List.map_append] at o3
  have H3 := Lib.hid (And.intro o3 (And.intro hb3 (HL.out.2.1.below hb3)))
  clear o3 hg3 hb3 H2
  go_wp2_with (first | (at_builtin; refine Stopped.out ?_) | (at_make; refine Stopped.out ?_))
  refine Stopped.mk (apk_own EBj rfl (.tmp 22) (.tmp 23) rfl rfl H3.out.1 rfl H3.out.2.2 (u8_one _) (by simp only [maxLen]; omega) (by omega) H3.out.2.1.size ?_)
  intro v4 w4 o4 hg4 _
  have hb4 : Below w.heap.size w w4 := H3.out.2.1.grown hg4 H3.out.2.1.size (fun k hk => (H3.out.1.lt k hk).1)
  rw [← List.map_append, show [k] ++ be4 n ++ l = frS k l by rw [frS, HL.out.1]; simp, show 1 + 4 + n = 5 + n by omega] at o4
  have HW4 := Lib.hid hb4.size
  obtain ⟨A4, c4, rfl, s4, _⟩ := own_sl o4
  have H4 := Lib.hid (And.intro o4 hb4)
  clear o4 hg4 hb4 H3 s4
  go_wp2_with (first | (at_builtin; refine Stopped.out ?_) | (at_make; refine Stopped.out ?_))
  refine Stopped.mk (apk_own EBj rfl (.tmp 25) (.tmp 26) rfl rfl (World.ownsRow_nil (base := w4.heap.size) _ _ _) rfl (Sl.fresh w4 [.int .u8 165] 5 1 1 rfl (by decide)) (by simp [Value.oneCell']) (by simp only [maxLen]; omega) (by omega) (by simp) ?_)
  intro v5 w5 o5 hg5 _
  have hb5 : Below w4.heap.size w4 w5 := ((Below.refl _ _).alloc (Nat.le_refl _) _).grown hg5 (by simp) (fun k hk => by cases hk)
  rw [Nat.zero_add, List.nil_append, show [Value.int .u8 165] = ([0xa5] : List UInt8).map by8 from rfl] at o5
  have p5 := own_below H4.out.1 hb5
  have H5 := Lib.hid (And.intro o5 (And.intro hb5 (own_sl' p5).2.1))
  clear o5 hg5 hb5 p5
  go_wp2_with (first | (at_builtin; refine Stopped.out ?_) | (at_make; refine Stopped.out ?_))
  refine Stopped.mk (apk_own EBj rfl (.tmp 28) (.tmp 29) rfl rfl H5.out.1 rfl H5.out.2.2 (u8_one _) (by simp only [maxLen]; omega) (by omega) H5.out.2.1.size ?_)
  intro v6 w6 o6 hg6 _
  have hb6 : Below w4.heap.size w4 w6 := H5.out.2.1.grown hg6 H5.out.2.1.size (fun k hk => (H5.out.1.lt k hk).1)
  rw [← List.map_append, show 1 + (5 + n) = 6 + n by omega] at o6
  obtain ⟨A6, c6, rfl, s6, _⟩ := own_sl o6
  have p6 := own_below H4.out.1 hb6
  have H6 := Lib.hid (And.intro o6 (And.intro (bthen H4.out.2 hb6) (And.intro (own_sl' p6).2.1 hb6.size)))
  clear o6 hg6 hb6 p6 H5 H4 s6
  go_wp2_with (first | (at_builtin; refine Stopped.out ?_) | (at_make; refine Stopped.out ?_))
  refine (RefSum _ H6.out.2.2.1).mono ?_
  rintro e w7 ⟨rfl, rfl⟩
  obtain ⟨s, hs⟩ : ∃ s, s = (crcSum (frS k l)).toNat := ⟨_, rfl⟩
  have hsl : s < 4294967296 := by rw [hs]; exact (crcSum (frS k l)).isLt
  rw [← hs]
  have HS := Lib.hid hs
  clear hs
  go_wp2_with (first | (at_builtin; refine Stopped.out ?_) | (at_make; refine Stopped.out ?_))
  refine (four13 _ s hsl).mono ?_
  rintro e w8 ⟨rfl, o8, hb8⟩
  have s8 := (own_sl' o8).2.1
  have H8 := Lib.hid (And.intro (own_below H6.out.1 hb8) (And.intro (bthen H6.out.2.1 hb8) (show w4.heap.size ≤ w8.heap.size from Nat.le_trans H6.out.2.2.2 hb8.size)))
  have q : some w6.heap.size ≠ (Value.slice A6 (6 + n) c6).ownBlock := fun e => by have := (H6.out.1.lt _ e.symm).2; omega
  obtain ⟨z, hz⟩ : ∃ z, z = w6.heap.size := ⟨_, rfl⟩
  rw [← hz] at s8 q ⊢
  have b0 : w8.cell? ⟨z, 0, none⟩ = some (.int .u8 ((s : Int) / 16777216)) := by have := s8.cell 0 (by simp [be4]); simp [be4, by8] at this; rw [this]; congr 2; omega
  have b1 : w8.cell? ⟨z, 1, none⟩ = some (.int .u8 ((s : Int) / 65536 % 256)) := by have := s8.cell 1 (by simp [be4]); simp [be4, by8] at this; exact this
  have b2 : w8.cell? ⟨z, 2, none⟩ = some (.int .u8 ((s : Int) / 256 % 256)) := by have := s8.cell 2 (by simp [be4]); simp [be4, by8] at this; exact this
  have b3 : w8.cell? ⟨z, 3, none⟩ = some (.int .u8 ((s : Int) % 256)) := by have := s8.cell 3 (by simp [be4]); simp [be4, by8] at this; exact this
  clear o8 hb8 s8 hz H6
  go_wp2
  go_region_held3 (fun w' => w'.cell? ⟨z, 3, none⟩ = some (.int .u8 ((s : Int) % 256)) ∧ w'.cell? ⟨z, 2, none⟩ = some (.int .u8 ((s : Int) / 256 % 256)) ∧ w'.cell? ⟨z, 1, none⟩ = some (.int .u8 ((s : Int) / 65536 % 256)) ∧ w'.cell? ⟨z, 0, none⟩ = some (.int .u8 ((s : Int) / 16777216)))
    (first | go_keep | exact ⟨hg9.cell (cell_ald b3 _) q, hg9.cell (cell_ald b2 _) q, hg9.cell (cell_ald b1 _) q, hg9.cell (cell_ald b0 _) q⟩)
    ((refine ap_step EBj (by rfl) _ _ (by rfl) (by rfl) ((H8.out.1.alloc _).drew) (by rfl) (Sl.drew (Sl.fresh w8 [_, _, _, _] 5 4 1 (by rfl) (by decide))) (by simp [Value.oneCell']) (by simp only [maxLen]; omega) (by omega) (by have := H8.out.2.1.size; have := H8.out.2.2; simp; omega) ?_; intro v9 w9 o9 hg9 _))
  have hb9 : Below w.heap.size w w9 := ((H8.out.2.1.alloc H8.out.2.1.size _).drew).grown hg9 (by have := H8.out.2.1.size; simp; omega) (fun k hk => Nat.le_trans HW4.out (H8.out.1.lt k hk).1)
  have e9 : List.map by8 ([0xa5] ++ frS k l) ++ [.int .u8 ((s : Int) % 256), .int .u8 ((s : Int) / 256 % 256), .int .u8 ((s : Int) / 65536 % 256), .int .u8 ((s : Int) / 16777216)] = (frB k l).map by8 := by
    rw [frB, ← HS.out]
    simp [le4, by8]
    omega
  obtain ⟨A9, c9, rfl, _, _⟩ := own_sl o9
  have s9 := own_mono o9 HW4.out
  rw [e9, show 6 + n + 4 = n + 10 by omega] at s9
  have HN := Lib.hid (And.intro s9 hb9)
  clear b0 b1 b2 b3 o9 hg9 s9 hb9 e9
  go_wp2
  go_ret2
  exact ⟨A9, c9, by rw [show n + 10 = 6 + n + 4 by omega]; rfl, HN.out.1, HN.out.2⟩
end Go.Proofs.Ytpjmbhhfpoamnaa
