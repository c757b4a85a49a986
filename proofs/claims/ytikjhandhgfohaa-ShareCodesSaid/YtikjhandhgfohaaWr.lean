import Derived.Test.YtikjhandhgfohaaWriter
import Derived.Test.YtikjhandhgfohaaRefOut
set_option linter.unusedVariables false
set_option linter.unusedSimpArgs false
namespace Go.Proofs.Ytikjhandhgfohaa
open Go.RowKit
/-- a writer at p, made behind world W: nothing of W has changed -/
structure Wr (T : TypeId) (W w : World) (p : Nat) (l : List UInt8) : Prop where
  out : ∃ G, Ob T w p G l 0 ∧ (∀ x ∈ G, W.heap.size ≤ x) ∧ Below W.heap.size W w
theorem Wr.bel {T : TypeId} {W w : World} {p : Nat} {l : List UInt8} (h : Wr T W w p l) : Below W.heap.size W w := let ⟨_, _, _, h⟩ := h.out; h
theorem Wr.below {T : TypeId} {W w w' : World} {p : Nat} {l : List UInt8} (h : Wr T W w p l) (k : Below w.heap.size w w') : Wr T W w' p l := by
  obtain ⟨G, h1, h2, h3⟩ := h.out
  exact ⟨G, h1.below k, h2, bthen h3 k⟩
theorem Wr.step {T : TypeId} {W w w' : World} {p : Nat} {l' : List UInt8} {G : List Nat} (h2 : ∀ x ∈ G, W.heap.size ≤ x) (h3 : Below W.heap.size W w) (k : Stepped T w w' p G l' 0) : Wr T W w' p l' := by
  obtain ⟨G', k1, k2, k3⟩ := k.out
  refine ⟨G', k1, fun x hx => ?_, k2.below h3 h3.size h2⟩
  rcases k3 x hx with h | h
  · exact h2 x h
  · exact Nat.le_trans h3.size h
theorem putL0 (l b : List UInt8) : putL l 0 b = l ++ b := rfl
theorem Sl.lo {W : World} {A : Option Addr} {m c : Nat} {news : List UInt8} (hs : Sl W 1 A m c (news.map by8)) : ∀ ad, A = some ad → 0 < m → ad.block < W.heap.size := fun ad e h => by
  obtain ⟨b, off, rfl⟩ := hs.form h
  obtain rfl := Option.some.inj e
  exact cell_lt (hs.byte 0 h)
theorem wr_Byte {W w : World} {p : Nat} {l : List UInt8} (h : Wr 70 W w p l) (x : Nat) (hx : x < 256) (hb : l.length ≤ 140737488355000) :
    Calls Try.prog 18 #[.pointer (some ⟨p, 0, none⟩), .int .u8 x] w fun e w' => e = .returned (.tuple #[]) ∧ Wr 70 W w' p (l ++ [UInt8.ofNat x]) := by
  obtain ⟨G, h1, h2, h3⟩ := h.out
  exact (Byte_any w h1 x hx hb).mono (fun e w' k => ⟨k.1, Wr.step h2 h3 k.2⟩)
theorem wr_Uint {W w : World} {p : Nat} {l : List UInt8} (h : Wr 70 W w p l) (x : Nat) (hx : x < 18446744073709551616) (hb : l.length ≤ 140737488355000) :
    Calls Try.prog 40 #[.pointer (some ⟨p, 0, none⟩), .int .u64 x] w fun e w' => e = .returned (.tuple #[]) ∧ Wr 70 W w' p (l ++ shortL x) := by
  obtain ⟨G, h1, h2, h3⟩ := h.out
  exact (Uint_any w h1 x hx hb).mono (fun e w' k => ⟨k.1, Wr.step h2 h3 k.2⟩)
theorem wr_Fixed {W w : World} {p : Nat} {l : List UInt8} (h : Wr 70 W w p l) {A : Option Addr} {m c : Nat} {news : List UInt8} (hs : Sl w 1 A m c (news.map by8)) (hb : l.length + m ≤ 140737488355328) :
    Calls Try.prog 16 #[.pointer (some ⟨p, 0, none⟩), .slice A m c] w fun e w' => e = .returned (.tuple #[]) ∧ Wr 70 W w' p (l ++ news) := by
  obtain ⟨G, h1, h2, h3⟩ := h.out
  exact (Fixed_any w h1 hs hb).mono (fun e w' k => ⟨k.1, Wr.step h2 h3 k.2⟩)
theorem wr_Bytes {W w : World} {p : Nat} {l : List UInt8} (h : Wr 70 W w p l) {A : Option Addr} {m c : Nat} {news : List UInt8} (hs : Sl W 1 A m c (news.map by8)) (most : Int) (hm : (m : Int) ≤ most) (hb : l.length + m ≤ 140737488354000) :
    Calls Try.prog 19 #[.pointer (some ⟨p, 0, none⟩), .slice A m c, .int .i64 most] w fun e w' => e = .returned (.tuple #[]) ∧ Wr 70 W w' p (l ++ (shortL m ++ news)) := by
  obtain ⟨G, h1, h2, h3⟩ := h.out
  have hc : cutF most m 0 = 0 := by rw [cutF, if_pos hm]
  have k := Bytes_any w h1 (hs.below h3) (fun ad e h0 hx => by have a := hs.lo ad e h0; have b := h2 _ hx; omega) most hb
  rw [hc] at k
  exact k.mono (fun e w' k => ⟨k.1, Wr.step h2 h3 k.2⟩)
theorem ot_Byte {W w : World} {p : Nat} {l : List UInt8} (h : Wr 55 W w p l) (x : Nat) (hx : x < 256) (hb : l.length ≤ 140737488355000) :
    Calls Try.prog 24 #[.pointer (some ⟨p, 0, none⟩), .int .u8 x] w fun e w' => e = .returned (.tuple #[]) ∧ Wr 55 W w' p (l ++ [UInt8.ofNat x]) := by
  obtain ⟨G, h1, h2, h3⟩ := h.out
  exact (refByte w h1 x hx hb).mono (fun e w' k => ⟨k.1, Wr.step h2 h3 k.2⟩)
theorem ot_Uint {W w : World} {p : Nat} {l : List UInt8} (h : Wr 55 W w p l) (x : Nat) (hx : x < 18446744073709551616) (hb : l.length ≤ 140737488355000) :
    Calls Try.prog 56 #[.pointer (some ⟨p, 0, none⟩), .int .u64 x] w fun e w' => e = .returned (.tuple #[]) ∧ Wr 55 W w' p (l ++ shortL x) := by
  obtain ⟨G, h1, h2, h3⟩ := h.out
  exact (refOUint w h1 x hx hb).mono (fun e w' k => ⟨k.1, Wr.step h2 h3 k.2⟩)
theorem ot_Fixed {W w : World} {p : Nat} {l : List UInt8} (h : Wr 55 W w p l) {A : Option Addr} {m c : Nat} {news : List UInt8} (hs : Sl w 1 A m c (news.map by8)) (hb : l.length + m ≤ 140737488355328) :
    Calls Try.prog 22 #[.pointer (some ⟨p, 0, none⟩), .slice A m c] w fun e w' => e = .returned (.tuple #[]) ∧ Wr 55 W w' p (l ++ news) := by
  obtain ⟨G, h1, h2, h3⟩ := h.out
  exact (refFixed w h1 hs hb).mono (fun e w' k => ⟨k.1, Wr.step h2 h3 k.2⟩)
theorem ot_Bytes {W w : World} {p : Nat} {l : List UInt8} (h : Wr 55 W w p l) {A : Option Addr} {m c : Nat} {news : List UInt8} (hs : Sl W 1 A m c (news.map by8)) (most : Int) (hm : (m : Int) ≤ most) (hb : l.length + m ≤ 140737488354000) :
    Calls Try.prog 25 #[.pointer (some ⟨p, 0, none⟩), .slice A m c, .int .i64 most] w fun e w' => e = .returned (.tuple #[]) ∧ Wr 55 W w' p (l ++ (shortL m ++ news)) := by
  obtain ⟨G, h1, h2, h3⟩ := h.out
  have hc : cutF most m 0 = 0 := by rw [cutF, if_pos hm]
  have k := refBytes w h1 (hs.below h3) (fun ad e h0 hx => by have a := hs.lo ad e h0; have b := h2 _ hx; omega) most hb
  rw [hc] at k
  exact k.mono (fun e w' k => ⟨k.1, Wr.step h2 h3 k.2⟩)
theorem wr_new (W w : World) (hW : Below W.heap.size W w) : Calls Try.prog 15 #[] w fun e w' => ∃ p, e = .returned (.pointer (some ⟨p, 0, none⟩)) ∧ Wr 70 W w' p [] := by
  refine (NewWriter_any w).mono ?_
  rintro e w' ⟨rfl, o, hb⟩
  exact ⟨_, rfl, ⟨_, o, fun x hx => by simp at hx; subst hx; exact hW.size, bthen hW hb⟩⟩
/-- the document's writer is a literal in a box -/
theorem ot_new {W w : World} (hW : Below W.heap.size W w) : Wr 55 W (w.alloc (.cells #[.slice none 0 0, .int .i64 0] 55)) w.heap.size [] :=
  ⟨_, ⟨⟨_, heap_alloc_new w _, World.ownsRow_nil .., fun k hk => by cases hk⟩, by simp, by simp⟩, fun x hx => (List.mem_singleton.1 hx) ▸ hW.size, bthen hW ((Below.refl _ _).alloc (Nat.le_refl _) _)⟩
theorem wr_Done {W w : World} {p : Nat} {l : List UInt8} (h : Wr 70 W w p l) (hb : l.length ≤ 140737488355000) :
    Calls Try.prog 20 #[.pointer (some ⟨p, 0, none⟩)] w fun e w' => ∃ v, e = .returned (.tuple #[v, .int .i64 0]) ∧ w'.ownsRow W.heap.size 5 1 v l.length (l.map by8) ∧ Below W.heap.size W w' := by
  obtain ⟨G, h1, h2, h3⟩ := h.out
  refine (Done_any w h1 hb).mono ?_
  rintro e w' ⟨v, rfl, o, hb⟩
  exact ⟨v, rfl, own_mono o h3.size, bthen h3 hb⟩
theorem ot_Done {W w : World} {p : Nat} {l : List UInt8} (h : Wr 55 W w p l) :
    Calls Try.prog 26 #[.pointer (some ⟨p, 0, none⟩)] w fun e w' => ∃ A n c, e = .returned (.tuple #[.slice A n c, .int .i64 0]) ∧ Sl w' 1 A n c (l.map by8) ∧ (∀ ad, A = some ad → W.heap.size ≤ ad.block) ∧ Below W.heap.size W w' := by
  obtain ⟨G, h1, h2, h3⟩ := h.out
  refine (refDone w h1).mono ?_
  rintro e w' ⟨A, n, c, rfl, s, hA, hd⟩
  exact ⟨A, n, c, rfl, s.below hd.below, fun ad e => h2 _ (hA ad e), bthen h3 hd.below⟩
end Go.Proofs.Ytikjhandhgfohaa
