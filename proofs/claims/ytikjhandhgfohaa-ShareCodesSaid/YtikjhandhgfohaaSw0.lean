import Derived.Test.YtikjhandhgfohaaLeft33
import Derived.Test.YtikjhandhgfohaaE33
import Derived.Test.YtikjhandhgfohaaDc33e
set_option linter.unusedVariables false
set_option linter.unusedSimpArgs false
namespace Go.Proofs.Ytikjhandhgfohaa
open Go.RowKit
/-- a row of one's own whose block lies between two numbers -/
structure Rw (w : World) (lo hi : Nat) (A : Option Addr) (c : Nat) (l : List UInt8) : Prop where
  own : w.ownsRow lo 5 1 (.slice A l.length c) l.length (l.map by8)
  up : ∀ b, (Value.slice A l.length c).ownBlock = some b → b < hi
theorem Rw.below {w w' : World} {lo hi : Nat} {A : Option Addr} {c : Nat} {l : List UInt8} (h : Rw w lo hi A c l) (k : Below w.heap.size w w') : Rw w' lo hi A c l := ⟨own_below h.own k, h.up⟩
theorem Rw.keep {w w' : World} {lo hi : Nat} {A : Option Addr} {c : Nat} {l : List UInt8} {M : List Nat} (h : Rw w lo hi A c l) (k : Keep M w w') (hM : ∀ b ∈ M, b < lo ∨ hi ≤ b) : Rw w' lo hi A c l :=
  ⟨k.own h.own (fun b hb hm => by have h1 := h.up b hb; have h2 := (h.own.lt b hb).1; have := hM b hm; omega), h.up⟩
theorem Rw.sl {w : World} {lo hi : Nat} {A : Option Addr} {c : Nat} {l : List UInt8} (h : Rw w lo hi A c l) : Sl w 1 A l.length c (l.map by8) := (own_sl' h.own).2.1
theorem Rw.of {w : World} {lo m c : Nat} {A : Option Addr} {l : List UInt8} (o : w.ownsRow lo 5 1 (.slice A m c) l.length (l.map by8)) : m = l.length ∧ Rw w lo w.heap.size A c l := by
  obtain ⟨rfl, -⟩ := own_sl' o
  exact ⟨rfl, o, fun b hb => (o.lt b hb).2⟩
theorem Rw.ofV {w : World} {lo : Nat} {v : Value} {l : List UInt8} (o : w.ownsRow lo 5 1 v l.length (l.map by8)) : ∃ A c, v = .slice A l.length c ∧ Rw w lo w.heap.size A c l := by
  obtain ⟨A, c, rfl, -⟩ := own_sl o
  exact ⟨A, c, rfl, (Rw.of o).2⟩
/-- what can be read, its block between two numbers -/
structure Sd (w : World) (lo hi : Nat) (A : Option Addr) (m c : Nat) (l : List UInt8) : Prop where
  sl : Sl w 1 A m c (l.map by8)
  bd : ∀ ad, A = some ad → 0 < m → lo ≤ ad.block ∧ ad.block < hi
theorem Sd.below {w w' : World} {lo hi : Nat} {A : Option Addr} {m c : Nat} {l : List UInt8} (h : Sd w lo hi A m c l) (k : Below w.heap.size w w') : Sd w' lo hi A m c l := ⟨h.sl.below k, h.bd⟩
theorem Sd.keep {w w' : World} {lo hi : Nat} {A : Option Addr} {m c : Nat} {l : List UInt8} {M : List Nat} (h : Sd w lo hi A m c l) (k : Keep M w w') (hM : ∀ b ∈ M, b < lo ∨ hi ≤ b) : Sd w' lo hi A m c l :=
  ⟨h.sl.keep0 k (fun ad e h0 hx => by have h1 := h.bd ad e h0; have := hM _ hx; omega), h.bd⟩
theorem Sd.of {w : World} {lo : Nat} {A : Option Addr} {m c : Nat} {l : List UInt8} (s : Sl w 1 A m c (l.map by8)) (h : ∀ ad, A = some ad → lo ≤ ad.block) : Sd w lo w.heap.size A m c l := by
  refine ⟨s, fun ad e h0 => ⟨h ad e, ?_⟩⟩
  obtain ⟨b, off, rfl⟩ := s.form h0
  obtain rfl := Option.some.inj e
  exact cell_lt (s.byte 0 h0)
/-- a piece in a box -/
structure Bx (w : World) (b : Nat) (x : Nat) (nd : Int) (t : Nat → Nat) (lo hi : Nat) (A : Option Addr) (c : Nat) (l : List UInt8) : Prop where
  heap : w.heap[b]? = some (.cells (pcA x nd t A l.length c) 25 (0, 0))
  rw_ : Rw w lo hi A c l
theorem Bx.below {w w' : World} {b x : Nat} {nd : Int} {t : Nat → Nat} {lo hi : Nat} {A : Option Addr} {c : Nat} {l : List UInt8} (h : Bx w b x nd t lo hi A c l) (k : Below w.heap.size w w') : Bx w' b x nd t lo hi A c l := ⟨heap_below h.heap k, h.rw_.below k⟩
theorem Bx.keep {w w' : World} {b x : Nat} {nd : Int} {t : Nat → Nat} {lo hi : Nat} {A : Option Addr} {c : Nat} {l : List UInt8} {M : List Nat} (h : Bx w b x nd t lo hi A c l) (k : Keep M w w') (hM : ∀ b ∈ M, b < lo ∨ hi ≤ b) (hb : b ∉ M) : Bx w' b x nd t lo hi A c l := ⟨k.heap h.heap hb, h.rw_.keep k hM⟩
theorem same33_t (w : World) {A B : Option Addr} {n c m d : Nat} {l : List UInt8} (ha : Sl w 1 A n c (l.map by8)) (hb : Sl w 1 B m d (l.map by8)) :
    Calls Try.prog 10 #[.slice A n c, .slice B m d] w fun e w' => e = .returned (.bool true) ∧ Below w.heap.size w w' :=
  (same33 w ha hb).mono fun e w' ⟨he, hd⟩ => ⟨by rw [he, decide_eq_true rfl], hd.below⟩
/-- Decode, what it tells named -/
def DecQ (f : FuncId) (lb : List UInt8) (x : Nat) (nd : Nat) (t : Nat → Nat) (L : List UInt8) (E : Nat) : Prop := ∀ (w : World) (A : Option Addr) (n c : Nat), Sl w 1 A n c (lb.map by8) → n ≤ 100000000 →
  Calls Try.prog f #[.slice A n c] w fun e w' => ∃ B d, e = .returned (.tuple #[.agg #[.int .u8 x, .int .i64 nd, .int .u8 (t 0), .int .u8 (t 1), .int .u8 (t 2), .int .u8 (t 3), .int .u8 (t 4), .int .u8 (t 5), .int .u8 (t 6), .int .u8 (t 7), .slice B L.length d], .int .i64 (E : Nat)]) ∧ Rw w' w.heap.size w'.heap.size B d L ∧ Below w.heap.size w w'
theorem decQ_of {f : FuncId} (h : ∀ (w : World) (A : Option Addr) (n c : Nat) (l : List UInt8), Sl w 1 A n c (l.map by8) → n ≤ 100000000 → Calls Try.prog f #[.slice A n c] w (DecP w l)) (lb : List UInt8) : DecQ f lb (decX lb) (decN lb) (decT lb) (decB lb) (decE lb) := fun w A n c hs hn =>
  (h w A n c lb hs hn).mono fun e w' ⟨B, m, d, he, o, hb⟩ => by
    obtain ⟨rfl, hr⟩ := Rw.of o
    exact ⟨B, d, he, hr, hb⟩
theorem decB_len (lb : List UInt8) : (decB lb).length ≤ 64 := by
  unfold decB
  split
  · exact d4_len _ _
  · simp
theorem decQ_both (lb : List UInt8) : ∃ x nd t L E, DecQ 8 lb x nd t L E ∧ DecQ 9 lb x nd t L E ∧ L.length ≤ 64 :=
  ⟨_, _, _, _, _, decQ_of (fun w A n c l hs hn => dec33 w hs hn) lb, decQ_of (fun w A n c l hs hn => refDec33 w hs hn) lb, decB_len lb⟩
theorem encR_len (x : Nat) (nd : Int) (t : Nat → Nat) (l : List UInt8) : (encR x nd t l).length ≤ 1000 := by
  unfold encR
  split
  · rename_i h
    have h1 := h.2.2.2.2
    have h2 := shortL_len l.length (by omega)
    simp [encL, headL, tagL]
    omega
  · simp
theorem fill_set (l : List UInt8) (a : UInt8) (k : Nat) (h : k < l.length) : (List.replicate k a ++ l.drop k).set k a = List.replicate (k + 1) a ++ l.drop (k + 1) := by
  rw [List.drop_eq_getElem_cons h, List.set_append_right _ _ (by simp), List.length_replicate, Nat.sub_self, List.set_cons_zero, List.replicate_succ', List.append_assoc]
  rfl
end Go.Proofs.Ytikjhandhgfohaa
