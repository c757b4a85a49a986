import Derived.Test.YtpjmbhhfpoamnaaRef13a
import Derived.Test.YtpjmbhhfpoamnaaFrJoin
import Derived.Test.YtpjmbhhfpoamnaaMany
set_option linter.unusedVariables false
set_option linter.unusedSimpArgs false
namespace Go.Proofs.Ytpjmbhhfpoamnaa
open Go.RowKit
set_option maxHeartbeats 400000 in
theorem four13 (w : World) (x : Nat) (hx : x < 4294967296) :
    Calls Try.prog 130 #[.int .u32 (x : Int)] w fun e w' => e = .returned (.slice (some ⟨w.heap.size, 0, none⟩) 4 4) ∧ w'.ownsRow w.heap.size 5 1 (.slice (some ⟨w.heap.size, 0, none⟩) 4 4) 4 ((be4 x).map by8) ∧ Below w.heap.size w w' := by
  have hN := World.ownsRow_lit (base := w.heap.size) (e := 5) (size := 1) w ((be4 x).map by8).toArray 4 (Nat.le_refl _) (by decide) (by simp [be4])
  have hB : Below w.heap.size w (w.alloc (.cells ((be4 x).map by8).toArray 5)) := (Below.refl _ _).alloc (Nat.le_refl _) _
  have HE : Hid (((be4 x).map by8).toArray = #[.int .u8 ((x : Int) / 16777216), .int .u8 ((x : Int) / 65536 % 256), .int .u8 ((x : Int) / 256 % 256), .int .u8 ((x : Int) % 256)]) := Lib.hid (by simp [be4, by8]; omega)
  have HE2 : Hid ((be4 x).map by8 = [.int .u8 ((x : Int) / 16777216), .int .u8 ((x : Int) / 65536 % 256), .int .u8 ((x : Int) / 256 % 256), .int .u8 ((x : Int) % 256)]) := Lib.hid (by simp [be4, by8]; omega)
  have HN := Lib.hid (And.intro hN hB)
  rw [HE.out] at HN
  clear hN hB HE
  go_enter Try.func130, Try.ntmps130
  go_wp2
  go_ret
  exact ⟨rfl, by rw [HE2.out]; exact HN.out.1, HN.out.2⟩
theorem be_four (l : List UInt8) (a : Nat) (h : a + 4 ≤ l.length) : be ((l.drop a).take 4) = bt l a * 16777216 + bt l (a + 1) * 65536 + bt l (a + 2) * 256 + bt l (a + 3) := by
  have hd : ∀ i, i < 4 → bt (l.drop a) i = bt l (a + i) := fun i hi => by unfold bt; rw [List.getElem?_drop]
  have hlen : (l.drop a).length = l.length - a := List.length_drop
  rw [be_take _ 3 (by omega), be_take _ 2 (by omega), be_take _ 1 (by omega), be_take _ 0 (by omega), hd 3 (by omega), hd 2 (by omega), hd 1 (by omega), hd 0 (by omega)]
  simp [be]
  omega
set_option maxRecDepth 100000 in
set_option maxHeartbeats 800000 in
theorem number13 (w : World) {A : Option Addr} {n c : Nat} {l : List UInt8} (h : Sl w 1 A n c (l.map by8)) (a : Nat) (ha : a + 4 ≤ n) :
    Calls Try.prog 129 #[.slice A n c, .int .i64 (a : Int)] w fun e w' => e = .returned (.int .i64 (be ((l.drop a).take 4) : Nat)) ∧ Drawn w w' := by
  have hl : l.length = n := by simpa using h.len
  have h1 := h.le; have h2 := h.max
  have HF := Lib.hid (be_four l a (by omega))
  rw [HF.out]
  obtain ⟨b, off, rfl⟩ := h.form (by omega)
  have g0 := h.byte a (by omega)
  have g1 := h.byte (a + 1) (by omega)
  have g2 := h.byte (a + 2) (by omega)
  have g3 := h.byte (a + 3) (by omega)
  have b0 := bt_lt l a; have b1 := bt_lt l (a + 1); have b2 := bt_lt l (a + 2); have b3 := bt_lt l (a + 3)
  obtain ⟨x0, e0⟩ : ∃ x, x = bt l a := ⟨_, rfl⟩
  obtain ⟨x1, e1⟩ : ∃ x, x = bt l (a + 1) := ⟨_, rfl⟩
  obtain ⟨x2, e2⟩ : ∃ x, x = bt l (a + 2) := ⟨_, rfl⟩
  obtain ⟨x3, e3⟩ : ∃ x, x = bt l (a + 3) := ⟨_, rfl⟩
  rw [← e0] at g0 b0 ⊢; rw [← e1] at g1 b1 ⊢; rw [← e2] at g2 b2 ⊢; rw [← e3] at g3 b3 ⊢
  clear e0 e1 e2 e3 HF hl h
  have r0 : (0 : Int) ≤ (a : Int) := Int.natCast_nonneg _
  have r3 : (a : Int) + 3 < (n : Int) := by omega
  have r2 : (a : Int) + 2 < (n : Int) := by omega
  have r1 : (a : Int) + 1 < (n : Int) := by omega
  have r4 : (a : Int) < (n : Int) := by omega
  have w1 : IntKind.i64.wrap ((a : Int) + 1) = (a : Int) + 1 := by rw [IntKind.wrap_i64]; omega
  have w2 : IntKind.i64.wrap ((a : Int) + 2) = (a : Int) + 2 := by rw [IntKind.wrap_i64]; omega
  have w3 : IntKind.i64.wrap ((a : Int) + 3) = (a : Int) + 3 := by rw [IntKind.wrap_i64]; omega
  have q1 : (0 : Int) ≤ (a : Int) + 1 := by omega
  have q2 : (0 : Int) ≤ (a : Int) + 2 := by omega
  have q3 : (0 : Int) ≤ (a : Int) + 3 := by omega
  have t1 : ((a : Int) + 1).toNat = a + 1 := by omega
  have t2 : ((a : Int) + 2).toNat = a + 2 := by omega
  have t3 : ((a : Int) + 3).toNat = a + 3 := by omega
  have v0 : IntKind.i64.wrap (x0 : Int) = x0 := by rw [IntKind.wrap_i64]; omega
  have v1 : IntKind.i64.wrap (x1 : Int) = x1 := by rw [IntKind.wrap_i64]; omega
  have v2 : IntKind.i64.wrap (x2 : Int) = x2 := by rw [IntKind.wrap_i64]; omega
  have v3 : IntKind.i64.wrap (x3 : Int) = x3 := by rw [IntKind.wrap_i64]; omega
  have u0 : IntKind.i64.wrap ((x0 : Int) * 16777216) = (x0 : Int) * 16777216 := by rw [IntKind.wrap_i64]; omega
  have u1 : IntKind.i64.wrap ((x1 : Int) * 65536) = (x1 : Int) * 65536 := by rw [IntKind.wrap_i64]; omega
  have u2 : IntKind.i64.wrap ((x2 : Int) * 256) = (x2 : Int) * 256 := by rw [IntKind.wrap_i64]; omega
  have s1 : IntKind.i64.wrap ((x0 : Int) * 16777216 + (x1 : Int) * 65536) = (x0 : Int) * 16777216 + (x1 : Int) * 65536 := by rw [IntKind.wrap_i64]; omega
  have s2 : IntKind.i64.wrap ((x0 : Int) * 16777216 + (x1 : Int) * 65536 + (x2 : Int) * 256) = (x0 : Int) * 16777216 + (x1 : Int) * 65536 + (x2 : Int) * 256 := by rw [IntKind.wrap_i64]; omega
  have s3 : IntKind.i64.wrap ((x0 : Int) * 16777216 + (x1 : Int) * 65536 + (x2 : Int) * 256 + (x3 : Int)) = (x0 : Int) * 16777216 + (x1 : Int) * 65536 + (x2 : Int) * 256 + (x3 : Int) := by rw [IntKind.wrap_i64]; omega
  go_enter Try.func129, Try.ntmps129
  go_wp2
  go_quiet (fail)
  go_wp2
  go_ret
  exact ⟨by congr 2, ⟨⟨_, rfl⟩⟩⟩
end Go.Proofs.Ytpjmbhhfpoamnaa
