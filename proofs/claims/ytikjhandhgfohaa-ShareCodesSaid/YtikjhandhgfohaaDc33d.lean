import Derived.Test.YtikjhandhgfohaaDc33
set_option linter.unusedVariables false
set_option linter.unusedSimpArgs false
namespace Go.Proofs.Ytikjhandhgfohaa
open Go.RowKit
def d2r (l : List UInt8) (a f : Nat) : Nat × Nat × Nat := rdV (numR l a 1) (bt l a) 0 a f
def d3r (l : List UInt8) (a f : Nat) : List UInt8 × Nat × Nat := rdV (numR l a 8) (atR l a (8 : Int).toNat) [] a f
def d4r (l : List UInt8) (a f : Nat) : List UInt8 × Nat × Nat := rdV (bytR l a 64) (bytV l a 64) [] a f
theorem d2_r (l : List UInt8) (s : Nat) : d2 l s = d2r l (d1 l s).2.1 (d1 l s).2.2 := rfl
theorem d3_r (l : List UInt8) (s : Nat) : d3 l s = d3r l (d2 l s).2.1 (d2 l s).2.2 := rfl
theorem d4_r (l : List UInt8) (s : Nat) : d4 l s = d4r l (d3 l s).2.1 (d3 l s).2.2 := rfl
theorem Re.here {W : World} {H : Nat} {w : World} {p : Nat} {l : List UInt8} {a f : Nat} (h : Re W H w p l a f) : Re W w.heap.size w p l a f := by
  obtain ⟨G, h1, h2, h3⟩ := h.out
  exact ⟨G, h1, fun x hx => ⟨(h2 x hx).1, h1.lts x hx⟩, h3⟩
theorem Ri.here {W : World} {H : Nat} {w : World} {p : Nat} {l : List UInt8} {a f : Nat} (h : Ri W H w p l a f) : Ri W w.heap.size w p l a f := ⟨h.out.1, h.out.2.1, h.out.1.lt⟩
/-- the copy into the mark's cells -/
theorem splice_pc (x nd : Nat) {B : List UInt8} (h : B.length = 8 ∨ B = []) : (splice [Value.int .u8 (x : Int), .int .i64 (nd : Int), .int .u8 0, .int .u8 0, .int .u8 0, .int .u8 0, .int .u8 0, .int .u8 0, .int .u8 0, .int .u8 0, .slice none 0 0] 2 (B.map by8)).toArray = pcA x (nd : Int) (bt B) none 0 0 := by
  rcases h with h | rfl
  · match B, h with
    | [b0, b1, b2, b3, b4, b5, b6, b7], _ => rfl
  · rfl
theorem re_Byte1 {W : World} {H : Nat} {w : World} {p : Nat} {l : List UInt8} {s x a f : Nat} (h : Re W H w p l s 0) (hd : d1 l s = (x, a, f)) :
    Calls Try.prog 29 #[.pointer (some ⟨p, 0, none⟩)] w fun e w' => e = .returned (.int .u8 (x : Int)) ∧ Re W H w' p l a f ∧ Keep [p] w w' := by
  have := re_Byte h
  rw [show rdV (numR l s 1) (bt l s) 0 s 0 = (x, a, f) from hd] at this
  exact this
theorem re_Byte2 {W : World} {H : Nat} {w : World} {p : Nat} {l : List UInt8} {s g x a f : Nat} (h : Re W H w p l s g) (hd : d2r l s g = (x, a, f)) :
    Calls Try.prog 29 #[.pointer (some ⟨p, 0, none⟩)] w fun e w' => e = .returned (.int .u8 (x : Int)) ∧ Re W H w' p l a f ∧ Keep [p] w w' := by
  have := re_Byte h
  rw [show rdV (numR l s 1) (bt l s) 0 s g = (x, a, f) from hd] at this
  exact this
theorem re_Fixed3 {W : World} {H : Nat} {w : World} {p : Nat} {l : List UInt8} {s g a f : Nat} {x : List UInt8} (h : Re W H w p l s g) (hd : d3r l s g = (x, a, f)) :
    Calls Try.prog 30 #[.pointer (some ⟨p, 0, none⟩), .int .i64 8] w fun e w' => ∃ v, e = .returned v ∧ w'.ownsRow w.heap.size 5 1 v x.length (x.map by8) ∧ Re W H w' p l a f ∧ Keep [p] w w' := by
  have := re_Fixed h 8 (by omega)
  rw [show rdV (numR l s 8) (atR l s (8 : Int).toNat) [] s g = (x, a, f) from hd] at this
  exact this
theorem re_Bytes4 {W : World} {H : Nat} {w : World} {p : Nat} {l : List UInt8} {s g a f : Nat} {x : List UInt8} (h : Re W H w p l s g) (hd : d4r l s g = (x, a, f)) :
    Calls Try.prog 31 #[.pointer (some ⟨p, 0, none⟩), .int .i64 64] w fun e w' => ∃ v, e = .returned v ∧ w'.ownsRow w.heap.size 5 1 v x.length (x.map by8) ∧ Re W H w' p l a f ∧ Keep [p] w w' := by
  have := re_Bytes h 64 (by omega)
  rw [show rdV (bytR l s 64) (bytV l s 64) [] s g = (x, a, f) from hd] at this
  exact this
theorem ri_Byte1 {W : World} {H : Nat} {w : World} {p : Nat} {l : List UInt8} {s x a f : Nat} (h : Ri W H w p l s 0) (hd : d1 l s = (x, a, f)) :
    Calls Try.prog 34 #[.pointer (some ⟨p, 0, none⟩)] w fun e w' => e = .returned (.int .u8 (x : Int)) ∧ Ri W H w' p l a f ∧ Keep [p] w w' := by
  have := ri_Byte h
  rw [show rdV (numR l s 1) (bt l s) 0 s 0 = (x, a, f) from hd] at this
  exact this
theorem ri_Byte2 {W : World} {H : Nat} {w : World} {p : Nat} {l : List UInt8} {s g x a f : Nat} (h : Ri W H w p l s g) (hd : d2r l s g = (x, a, f)) :
    Calls Try.prog 34 #[.pointer (some ⟨p, 0, none⟩)] w fun e w' => e = .returned (.int .u8 (x : Int)) ∧ Ri W H w' p l a f ∧ Keep [p] w w' := by
  have := ri_Byte h
  rw [show rdV (numR l s 1) (bt l s) 0 s g = (x, a, f) from hd] at this
  exact this
theorem ri_Fixed3 {W : World} {H : Nat} {w : World} {p : Nat} {l : List UInt8} {s g a f : Nat} {x : List UInt8} (h : Ri W H w p l s g) (hd : d3r l s g = (x, a, f)) :
    Calls Try.prog 35 #[.pointer (some ⟨p, 0, none⟩), .int .i64 8] w fun e w' => ∃ v, e = .returned v ∧ w'.ownsRow w.heap.size 5 1 v x.length (x.map by8) ∧ Ri W H w' p l a f ∧ Keep [p] w w' := by
  have := ri_Fixed h 8 (by omega)
  rw [show rdV (numR l s 8) (atR l s (8 : Int).toNat) [] s g = (x, a, f) from hd] at this
  exact this
theorem ri_Bytes4 {W : World} {H : Nat} {w : World} {p : Nat} {l : List UInt8} {s g a f : Nat} {x : List UInt8} (h : Ri W H w p l s g) (hd : d4r l s g = (x, a, f)) :
    Calls Try.prog 36 #[.pointer (some ⟨p, 0, none⟩), .int .i64 64] w fun e w' => ∃ v, e = .returned v ∧ w'.ownsRow w.heap.size 5 1 v x.length (x.map by8) ∧ Ri W H w' p l a f ∧ Keep [p] w w' := by
  have := ri_Bytes h 64 (by omega)
  rw [show rdV (bytR l s 64) (bytV l s 64) [] s g = (x, a, f) from hd] at this
  exact this
end Go.Proofs.Ytikjhandhgfohaa
