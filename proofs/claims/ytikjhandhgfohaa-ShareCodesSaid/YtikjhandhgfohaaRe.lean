import Derived.Test.YtikjhandhgfohaaRdList
import Derived.Test.YtikjhandhgfohaaRd6
import Derived.Test.YtikjhandhgfohaaRefIn3
set_option linter.unusedVariables false
set_option linter.unusedSimpArgs false
namespace Go.Proofs.Ytikjhandhgfohaa
open Go.RowKit
/-- the program's reader at p, made behind world W -/
structure Re (W : World) (H : Nat) (w : World) (p : Nat) (l : List UInt8) (a f : Nat) : Prop where
  out : ∃ G, Rd w p G l a f ∧ (∀ x ∈ G, W.heap.size ≤ x ∧ x < H) ∧ Below W.heap.size W w
/-- the document's -/
structure Ri (W : World) (H : Nat) (w : World) (p : Nat) (l : List UInt8) (a f : Nat) : Prop where
  out : RIn w p W.heap.size l a f ∧ Below W.heap.size W w ∧ p < H
/-- what changes from a block on -/
theorem Keep.ofB {B : Nat} {w w' : World} (k : Below B w w') : Keep (List.range' B (w.heap.size - B)) w w' :=
  ⟨k.os, k.tape, k.output, k.size, fun x hx hM => k.block x (Nat.lt_of_not_le fun h => hM (by rw [List.mem_range'_1]; omega))⟩
theorem Re.pH {W : World} {H : Nat} {w : World} {p : Nat} {l : List UInt8} {a f : Nat} (h : Re W H w p l a f) : p < H := let ⟨_, h1, h2, _⟩ := h.out; (h2 _ h1.mem).2
theorem Ri.pH {W : World} {H : Nat} {w : World} {p : Nat} {l : List UInt8} {a f : Nat} (h : Ri W H w p l a f) : p < H := h.out.2.2
theorem Re.bel {W : World} {H : Nat} {w : World} {p : Nat} {l : List UInt8} {a f : Nat} (h : Re W H w p l a f) : Below W.heap.size W w := let ⟨_, _, _, h⟩ := h.out; h
theorem Ri.bel {W : World} {H : Nat} {w : World} {p : Nat} {l : List UInt8} {a f : Nat} (h : Ri W H w p l a f) : Below W.heap.size W w := h.out.2.1
theorem Re.below {W : World} {H : Nat} {w w' : World} {p : Nat} {l : List UInt8} {a f : Nat} (h : Re W H w p l a f) (k : Below w.heap.size w w') : Re W H w' p l a f := by
  obtain ⟨G, h1, h2, h3⟩ := h.out
  exact ⟨G, h1.below k, h2, bthen h3 k⟩
theorem Ri.below {W : World} {H : Nat} {w w' : World} {p : Nat} {l : List UInt8} {a f : Nat} (h : Ri W H w p l a f) (k : Below w.heap.size w w') : Ri W H w' p l a f := ⟨h.out.1.below k, bthen h.out.2.1 k, h.out.2.2⟩
/-- a store into a block behind the reader -/
theorem Re.at {W : World} {H : Nat} {w w' : World} {p : Nat} {l : List UInt8} {a f B : Nat} (h : Re W H w p l a f) (k : Below B w w') (hB : H ≤ B) : Re W H w' p l a f := by
  obtain ⟨G, h1, h2, h3⟩ := h.out
  have hp := h2 _ h1.mem
  exact ⟨G, h1.keep (Keep.ofB k) (fun x hx hM => by have := h2 x hx; rw [List.mem_range'_1] at hM; omega), h2, h3.trans (k.mono (by omega))⟩
theorem Ri.at {W : World} {H : Nat} {w w' : World} {p : Nat} {l : List UInt8} {a f B : Nat} (h : Ri W H w p l a f) (k : Below B w w') (hB : H ≤ B) : Ri W H w' p l a f := by
  have h1 := h.out.1.low
  have h2 := h.out.2.2
  exact ⟨h.out.1.keep (Keep.ofB k) (fun x hM => by rw [List.mem_range'_1] at hM; omega), h.out.2.1.trans (k.mono (by omega)), h2⟩
theorem Ri.lo {W : World} {H : Nat} {w : World} {p : Nat} {l : List UInt8} {a f : Nat} (h : Ri W H w p l a f) : W.heap.size ≤ p := h.out.1.low
theorem re_Byte {W : World} {H : Nat} {w : World} {p : Nat} {l : List UInt8} {a f : Nat} (h : Re W H w p l a f) :
    Calls Try.prog 29 #[.pointer (some ⟨p, 0, none⟩)] w fun e w' => e = .returned ((fun x => .int .u8 (x : Int) : Nat → Value) (rdV (numR l a 1) (bt l a) 0 a f).1) ∧ Re W H w' p l (rdV (numR l a 1) (bt l a) 0 a f).2.1 (rdV (numR l a 1) (bt l a) 0 a f).2.2 ∧ Keep [p] w w' := by
  obtain ⟨G, h1, h2, h3⟩ := h.out
  refine (Rd_Byte w h1).mono ?_
  intro e w' hq
  obtain ⟨rfl, hr, hk⟩ := CaughtQ.num (K := fun x => .int .u8 (x : Int)) hq
  exact ⟨rfl, ⟨⟨G, hr, h2, hk.below h3 h3.size (fun x hx => (List.mem_singleton.1 hx) ▸ (h2 _ h1.mem).1)⟩⟩, hk⟩
theorem re_Fixed {W : World} {H : Nat} {w : World} {p : Nat} {l : List UInt8} {a f : Nat} (h : Re W H w p l a f) (most : Int) (hm : most ≤ 9223372036854775807) :
    Calls Try.prog 30 #[.pointer (some ⟨p, 0, none⟩), .int .i64 most] w fun e w' => ∃ v, e = .returned v ∧ w'.ownsRow w.heap.size 5 1 v (rdV (numR l a most) (atR l a most.toNat) [] a f).1.length ((rdV (numR l a most) (atR l a most.toNat) [] a f).1.map by8) ∧ Re W H w' p l (rdV (numR l a most) (atR l a most.toNat) [] a f).2.1 (rdV (numR l a most) (atR l a most.toNat) [] a f).2.2 ∧ Keep [p] w w' := by
  obtain ⟨G, h1, h2, h3⟩ := h.out
  refine (Rd_Fixed w h1 most hm).mono ?_
  intro e w' hq
  obtain ⟨v, rfl, hv, hr, hk⟩ := CaughtQ.new hq
  exact ⟨v, rfl, hv, ⟨⟨G, hr, h2, hk.below h3 h3.size (fun x hx => (List.mem_singleton.1 hx) ▸ (h2 _ h1.mem).1)⟩⟩, hk⟩
theorem re_Bytes {W : World} {H : Nat} {w : World} {p : Nat} {l : List UInt8} {a f : Nat} (h : Re W H w p l a f) (most : Int) (hm : most ≤ 9223372036854775807) :
    Calls Try.prog 31 #[.pointer (some ⟨p, 0, none⟩), .int .i64 most] w fun e w' => ∃ v, e = .returned v ∧ w'.ownsRow w.heap.size 5 1 v (rdV (bytR l a most) (bytV l a most) [] a f).1.length ((rdV (bytR l a most) (bytV l a most) [] a f).1.map by8) ∧ Re W H w' p l (rdV (bytR l a most) (bytV l a most) [] a f).2.1 (rdV (bytR l a most) (bytV l a most) [] a f).2.2 ∧ Keep [p] w w' := by
  obtain ⟨G, h1, h2, h3⟩ := h.out
  refine (Rd_Bytes w h1 most hm).mono ?_
  intro e w' hq
  obtain ⟨v, rfl, hv, hr, hk⟩ := CaughtQ.new hq
  exact ⟨v, rfl, hv, ⟨⟨G, hr, h2, hk.below h3 h3.size (fun x hx => (List.mem_singleton.1 hx) ▸ (h2 _ h1.mem).1)⟩⟩, hk⟩
theorem re_Done {W : World} {H : Nat} {w : World} {p : Nat} {l : List UInt8} {a f : Nat} (h : Re W H w p l a f) :
    Calls Try.prog 32 #[.pointer (some ⟨p, 0, none⟩)] w fun e w' => e = .returned (.int .i64 (doneR l a f : Nat)) ∧ Re W H w' p l a f ∧ Drawn w w' := by
  obtain ⟨G, h1, h2, h3⟩ := h.out
  exact (Rd_Done w h1).mono (fun e w' hq => ⟨hq.1, h.below hq.2.below, hq.2⟩)
theorem ri_Byte {W : World} {H : Nat} {w : World} {p : Nat} {l : List UInt8} {a f : Nat} (h : Ri W H w p l a f) :
    Calls Try.prog 34 #[.pointer (some ⟨p, 0, none⟩)] w fun e w' => e = .returned ((fun x => .int .u8 (x : Int) : Nat → Value) (rdV (numR l a 1) (bt l a) 0 a f).1) ∧ Ri W H w' p l (rdV (numR l a 1) (bt l a) 0 a f).2.1 (rdV (numR l a 1) (bt l a) 0 a f).2.2 ∧ Keep [p] w w' := by
  refine (in_Byte w h.out.1).mono ?_
  rintro e w' ⟨rfl, hr, hk⟩
  exact ⟨rfl, ⟨⟨hr, hk.below h.out.2.1 h.out.2.1.size (fun x hx => (List.mem_singleton.1 hx) ▸ h.lo), h.out.2.2⟩⟩, hk⟩
theorem ri_Fixed {W : World} {H : Nat} {w : World} {p : Nat} {l : List UInt8} {a f : Nat} (h : Ri W H w p l a f) (most : Int) (hm : most ≤ 9223372036854775807) :
    Calls Try.prog 35 #[.pointer (some ⟨p, 0, none⟩), .int .i64 most] w fun e w' => ∃ v, e = .returned v ∧ w'.ownsRow w.heap.size 5 1 v (rdV (numR l a most) (atR l a most.toNat) [] a f).1.length ((rdV (numR l a most) (atR l a most.toNat) [] a f).1.map by8) ∧ Ri W H w' p l (rdV (numR l a most) (atR l a most.toNat) [] a f).2.1 (rdV (numR l a most) (atR l a most.toNat) [] a f).2.2 ∧ Keep [p] w w' := by
  refine (in_Fixed w h.out.1 most hm).mono ?_
  rintro e w' ⟨v, rfl, hv, hr, hk⟩
  exact ⟨v, rfl, hv, ⟨⟨hr, hk.below h.out.2.1 h.out.2.1.size (fun x hx => (List.mem_singleton.1 hx) ▸ h.lo), h.out.2.2⟩⟩, hk⟩
theorem ri_Bytes {W : World} {H : Nat} {w : World} {p : Nat} {l : List UInt8} {a f : Nat} (h : Ri W H w p l a f) (most : Int) (hm : most ≤ 9223372036854775807) :
    Calls Try.prog 36 #[.pointer (some ⟨p, 0, none⟩), .int .i64 most] w fun e w' => ∃ v, e = .returned v ∧ w'.ownsRow w.heap.size 5 1 v (rdV (bytR l a most) (bytV l a most) [] a f).1.length ((rdV (bytR l a most) (bytV l a most) [] a f).1.map by8) ∧ Ri W H w' p l (rdV (bytR l a most) (bytV l a most) [] a f).2.1 (rdV (bytR l a most) (bytV l a most) [] a f).2.2 ∧ Keep [p] w w' := by
  refine (in_Bytes w h.out.1 most hm).mono ?_
  rintro e w' ⟨v, rfl, hv, hr, hk⟩
  exact ⟨v, rfl, hv, ⟨⟨hr, hk.below h.out.2.1 h.out.2.1.size (fun x hx => (List.mem_singleton.1 hx) ▸ h.lo), h.out.2.2⟩⟩, hk⟩
theorem ri_Done {W : World} {H : Nat} {w : World} {p : Nat} {l : List UInt8} {a f : Nat} (h : Ri W H w p l a f) :
    Calls Try.prog 37 #[.pointer (some ⟨p, 0, none⟩)] w fun e w' => e = .returned (.int .i64 (doneR l a f : Nat)) ∧ Ri W H w' p l a f ∧ Drawn w w' := by
  exact (in_Done w h.out.1).mono (fun e w' hq => ⟨hq.1, h.below hq.2.below, hq.2⟩)
theorem re_new {W w : World} (hW : Below W.heap.size W w) {A : Option Addr} {n c : Nat} {l : List UInt8} (h : Sl w 1 A n c (l.map by8)) (hn : n ≤ 140737488351232) :
    Calls Try.prog 28 #[.slice A n c] w fun e w' => ∃ p, e = .returned (.pointer (some ⟨p, 0, none⟩)) ∧ Re W w'.heap.size w' p l 0 0 := by
  refine (NewReader_any w h hn).mono ?_
  rintro e w' ⟨p, G, rfl, hr, hb, hG⟩
  exact ⟨p, rfl, G, hr, fun x hx => ⟨Nat.le_trans hW.size (hG x hx), hr.lts x hx⟩, bthen hW hb⟩
/-- the document's reader is a literal in a box -/
theorem ri_new {W w : World} (hW : Below W.heap.size W w) {A : Option Addr} {n c : Nat} {l : List UInt8} (h : Sl W 1 A n c (l.map by8)) (hn : n ≤ 140737488351232) (a : Nat) (ha : a ≤ n) :
    Ri W (w.heap.size + 1) (w.alloc (.cells #[.slice A n c, .int .i64 (a : Int), .int .i64 0] 67)) w.heap.size l a 0 := by
  have hl : l.length = n := by simpa using h.len
  subst hl
  have hb := (Below.refl w.heap.size w).alloc (Nat.le_refl _) (.cells #[.slice A l.length c, .int .i64 (a : Int), .int .i64 0] 67)
  refine ⟨⟨⟨A, c, heap_alloc_new w _, (h.below hW).below hb, fun ad e h0 => ?_⟩, hW.size, ha, hn⟩, bthen hW hb, Nat.lt_succ_self _⟩
  obtain ⟨b, off, rfl⟩ := h.form h0
  obtain rfl := Option.some.inj e
  exact cell_lt (h.byte 0 h0)
end Go.Proofs.Ytikjhandhgfohaa
