import Derived.Test.YtpjmbhhfpoamnaaFlash9
import Derived.Test.YtpjmbhhfpoamnaaSame
set_option linter.unusedVariables false
set_option linter.unusedSimpArgs false
namespace Go.Proofs.Ytpjmbhhfpoamnaa
open Go.RowKit
/-- a flash behind an Append that is taken -/
def appS (s : FSt) (n : Nat) (l : List UInt8) : FSt := if n = 0 then { s with writes := s.writes + 1, b0 := s.b0 ++ l } else { s with writes := s.writes + 1, b1 := s.b1 ++ l }
theorem flash_Append_calm (w : World) {p : Nat} {G : List Nat} {s : FSt} (h : Fl w p G s) (n : Nat) (hn : n ≤ 1) (hd : s.down = false) (ha0 : s.armed = []) (hw : s.writes ≤ 4611686018427387904) (hs : s.size ≤ 1048576) {A : Option Addr} {m c : Nat} {l : List UInt8} (hb : Sl w 1 A m c (l.map by8)) (hA : ∀ ad, A = some ad → 0 < m → ad.block ∉ G) (hroom : (bankF s n).length + m ≤ s.size) :
    Calls Try.prog 23 #[.pointer (some ⟨p, 0, none⟩), .int .i64 n, .slice A m c] w fun e w' => e = .returned (.int .i64 0) ∧ FStep w w' p G (appS s n l) := by
  rcases (show n = 0 ∨ n = 1 by omega) with rfl | rfl
  · exact flash_Append_calm0 w h hd ha0 hw hs hb hA hroom
  · exact flash_Append_calm1 w h hd ha0 hw hs hb hA hroom
/-- what a step leaves, and what else is kept -/
theorem FStep.below {W w w' : World} {p : Nat} {G : List Nat} {s : FSt} (k : FStep w w' p G s) (hB : Below W.heap.size W w) (hG : ∀ x ∈ G, W.heap.size ≤ x) : ∃ G', Fl w' p G' s ∧ Below W.heap.size W w' ∧ (∀ x ∈ G', W.heap.size ≤ x) ∧ Keep G w w' ∧ ∀ x ∈ G', x ∈ G ∨ w.heap.size ≤ x := by
  obtain ⟨G', h1, h2, h3⟩ := k.out
  exact ⟨G', h1, h2.below hB hB.size hG, fun x hx => by rcases h3 x hx with h | h; exact hG x h; exact Nat.le_trans hB.size h, h2, h3⟩
theorem capF_nat (n : Nat) (h : n ≤ 1048576) : capF n = n := by unfold capF; omega
set_option maxHeartbeats 800000 in
theorem holds12 (w : World) : Calls Try.prog 22 #[] w fun e w' => e = .returned (.bool true) ∧ Below w.heap.size w w' := by
  go_enter Try.func22, Try.ntmps22
  go_wp2_with (first | (at_builtin; refine Stopped.out ?_) | (at_make; refine Stopped.out ?_))
  refine (flash_New _ 9).mono ?_
  rintro e w1 ⟨G, rfl, h1, hb1, hG⟩
  go_wp2_with (first | (at_builtin; refine Stopped.out ?_) | (at_make; refine Stopped.out ?_))
  have h2 := h1.below (w' := w1.alloc (.cells #[.int .u8 5, .int .u8 6, .int .u8 7] 5)) ((Below.refl _ _).alloc (Nat.le_refl _) _)
  have hb2 : Below w.heap.size w (w1.alloc (.cells #[.int .u8 5, .int .u8 6, .int .u8 7] 5)) := hb1.alloc hb1.size _
  have s2 : Sl (w1.alloc (.cells #[.int .u8 5, .int .u8 6, .int .u8 7] 5)) 1 (some ⟨w1.heap.size, 0, none⟩) 3 3 (([5, 6, 7] : List UInt8).map by8) := Sl.fresh w1 [.int .u8 5, .int .u8 6, .int .u8 7] _ 3 1 rfl (by decide)
  refine (flash_Append_calm _ h2 1 (by decide) rfl rfl (by decide) (by decide) s2 (fun ad e _ hx => by obtain rfl := Option.some.inj e; have := h1.lts _ hx; simp at this) (by decide)).mono ?_
  rintro e w3 ⟨rfl, hst⟩
  obtain ⟨G3, h3, hb3, hG3, _, _⟩ := hst.below hb2 hG
  clear hst h2 hb2 s2 h1
  go_wp2_with (first | (at_builtin; refine Stopped.out ?_) | (at_make; refine Stopped.out ?_))
  refine (flash_Read_yes _ h3 1 (by decide) rfl (by decide)).mono ?_
  rintro e w4 ⟨rfl, o4, hb4⟩
  have h4 := h3.below hb4
  have hB4 := bthen hb3 hb4
  have s4 := (own_sl' o4).2.1
  clear h3 hb4 hb3 o4
  go_wp2_with (first | (at_builtin; refine Stopped.out ?_) | (at_make; refine Stopped.out ?_))
  refine (same12 _ (s4.alloc _) (r := [5, 6, 7]) (Sl.fresh w4 [.int .u8 5, .int .u8 6, .int .u8 7] 5 3 1 rfl (by decide))).mono ?_
  rintro e w5 ⟨rfl, hd5⟩
  rw [show decide (bankF (appS ⟨capF 9, [], [], [], 0, 0, false⟩ 1 [5, 6, 7]) 1 = ([5, 6, 7] : List UInt8)) = true from by decide]
  have hB5 := bthen (hB4.alloc hB4.size (.cells #[.int .u8 5, .int .u8 6, .int .u8 7] 5)) hd5.below
  have h5 := (h4.below (w' := w4.alloc (.cells #[.int .u8 5, .int .u8 6, .int .u8 7] 5)) ((Below.refl _ _).alloc (Nat.le_refl _) _)).below hd5.below
  clear hd5 h4 hB4 s4
  go_wp2_with (first | (at_builtin; refine Stopped.out ?_) | (at_make; refine Stopped.out ?_))
  refine (flash_Writes _ h5).mono ?_
  rintro e w6 ⟨rfl, rfl⟩
  go_wp2
  go_ret
  exact ⟨by simp [appS], hB5⟩
end Go.Proofs.Ytpjmbhhfpoamnaa
