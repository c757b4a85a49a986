import Derived.Test.YtdooabbeolfgfaaPl01b
set_option linter.unusedVariables false
set_option linter.unusedSimpArgs false
namespace Go.Proofs.Ytdooabbeolfgfaa
open Go.RowKit
theorem Sl.preL {w : World} {A : Option Addr} {n c m : Nat} {l : List UInt8} (h : Sl w 1 A n c (l.map by8)) (hm : m ≤ n) : Sl w 1 A m c ((l.take m).map by8) := by
  have hl : l.length = n := by simpa using h.len
  refine ⟨by simp; omega, Nat.le_trans hm h.le, h.max, h.nil, fun ad e hp => ?_⟩
  obtain ⟨h1, h2⟩ := h.at_ ad e (by simp at hp ⊢; omega)
  refine ⟨h1, fun i hi => ?_⟩
  have hi2 : i < m := by simp at hi; omega
  rw [h2 i (by simp; omega)]
  simp
theorem room_pre (l : List UInt8) (m : Nat) (h : l.length = m) : (room01 l).take m = l := by
  unfold room01
  rw [← h, List.take_left]
theorem loads8 (w : World) {A A' : Option Addr} {m c m' c' : Nat} {l : List UInt8} (h : Sl w 1 A m c (l.map by8)) (h' : Sl w 1 A' m' c' (l.map by8)) (n : Int) (h2 : n ≤ 9223372036854775807) :
    ∃ (v1 v2 v3 v4 : Nat) (b1 b2 b3 b4 : Bool),
      (Calls Try.prog 123 #[.slice A m c, .int .i64 n] w fun e w' => e = .returned (.tuple #[.int .u32 (v1 : Int), .bool b1]) ∧ w = w') ∧
      (Calls Try.prog 124 #[.slice A' m' c', .int .i64 n] w fun e w' => e = .returned (.tuple #[.int .u32 (v1 : Int), .bool b1]) ∧ w = w') ∧
      (Calls Try.prog 26 #[.slice A m c, .int .i64 n] w fun e w' => e = .returned (.tuple #[.int .u32 (v2 : Int), .bool b2]) ∧ w = w') ∧
      (Calls Try.prog 125 #[.slice A' m' c', .int .i64 n] w fun e w' => e = .returned (.tuple #[.int .u32 (v2 : Int), .bool b2]) ∧ w = w') ∧
      (Calls Try.prog 25 #[.slice A m c, .int .i64 n] w fun e w' => e = .returned (.tuple #[.int .u64 (v3 : Int), .bool b3]) ∧ w = w') ∧
      (Calls Try.prog 126 #[.slice A' m' c', .int .i64 n] w fun e w' => e = .returned (.tuple #[.int .u64 (v3 : Int), .bool b3]) ∧ w = w') ∧
      (Calls Try.prog 127 #[.slice A m c, .int .i64 n] w fun e w' => e = .returned (.tuple #[.int .u64 (v4 : Int), .bool b4]) ∧ w = w') ∧
      (Calls Try.prog 128 #[.slice A' m' c', .int .i64 n] w fun e w' => e = .returned (.tuple #[.int .u64 (v4 : Int), .bool b4]) ∧ w = w') :=
  ⟨_, _, _, _, _, _, _, _, bBE32 w h n h2, rBE32 w h' n h2, bLE32 w h n h2, rLE32 w h' n h2, bBE64 w h n h2, rBE64 w h' n h2, bLE64 w h n h2, rLE64 w h' n h2⟩
theorem still01 (w : World) {A B : Option Addr} {m c n d : Nat} {l : List UInt8} (h : Sl w 1 A m c ((room01 l).map by8)) (h' : Sl w 1 B n d (l.map by8)) (hn : n ≤ 100000000) :
    Calls Try.prog 129 #[.slice A m c, .slice B n d] w fun e w' => e = .returned (.bool true) ∧ Below w.heap.size w w' := by
  have HC := Lib.hid (roomy01 w h' hn)
  have HA := Lib.hid h
  clear h h'
  go_enter Try.func129, Try.ntmps129
  go_wp2_with (first | (at_builtin; refine Stopped.out ?_) | (at_make; refine Stopped.out ?_))
  refine HC.out.mono ?_
  rintro e w2 ⟨v, rfl, o2, hb2⟩
  obtain ⟨A2, c2, rfl, s2, _⟩ := own_sl o2
  have hsm := same01 w2 (HA.out.below hb2) s2
  rw [decide_eq_true rfl] at hsm
  have HS := Lib.hid (And.intro hsm hb2)
  clear o2 s2 hb2 hsm
  go_wp2_with (first | (at_builtin; refine Stopped.out ?_) | (at_make; refine Stopped.out ?_))
  refine HS.out.1.mono ?_
  rintro e w3 ⟨rfl, hd⟩
  have HB := Lib.hid (bthen HS.out.2 hd.below)
  clear hd
  go_wp2
  go_ret
  exact ⟨rfl, HB.out⟩
set_option maxRecDepth 100000 in
set_option maxHeartbeats 3200000 in
theorem loads01 (w : World) (kd : Int) (a l : Nat) (n : Int) (h2 : n ≤ 9223372036854775807) (X Y P : Option Addr) (xn xc yn yc pn pc : Nat) (s : ByteArray) {x : List UInt8} (hx : Sl w 1 X xn xc (x.map by8)) (hxn : xn ≤ 4096) :
    Calls Try.prog 71 #[.agg (opC kd a l n X Y P xn xc yn yc pn pc s)] w fun e w' => e = .returned (.bool true) ∧ Below w.heap.size w w' := by
  unfold opC
  obtain ⟨W1, hW1⟩ : ∃ W1, W1 = w.alloc (.cells #[.int .i64 kd, .int .u32 a, .int .u64 l, .int .i64 n, .slice X xn xc, .slice Y yn yc, .slice P pn pc, .string s] 27) := ⟨_, rfl⟩
  have hb := heap_alloc_new w (.cells #[.int .i64 kd, .int .u32 a, .int .u64 l, .int .i64 n, .slice X xn xc, .slice Y yn yc, .slice P pn pc, .string s] 27)
  rw [← hW1] at hb
  have hB : Below w.heap.size w W1 := by rw [hW1]; exact (Below.refl _ _).alloc (Nat.le_refl _) _
  have d3 := box_cell hb 3 _ rfl
  have d4 := box_cell hb 4 _ rfl
  have hxl : x.length = xn := by simpa using hx.len
  have H1 := Lib.hid (And.intro hb (And.intro hB (And.intro (hx.below hB) hxl)))
  clear hb hB hx hxl
  go_enter Try.func71, Try.ntmps71
  go_wp2_with (rw [← hW1])
  clear hW1
  refine (roomy01 _ H1.out.2.2.1 (by omega)).mono ?_
  rintro e w2 ⟨v, rfl, o2, hb2⟩
  obtain ⟨g, c2, rfl, hg1, hg2, hc2⟩ := own_form o2 (by omega)
  have b2 := heap_below H1.out.1 hb2
  have e3 := box_cell b2 3 _ rfl
  have e4 := box_cell b2 4 _ rfl
  clear d3 d4
  have sF := (own_sl' o2).2.1
  have sb := sF.preL (m := xn) (by omega)
  rw [room_pre x xn H1.out.2.2.2] at sb
  obtain ⟨v1, v2, v3, v4, q1, q2, q3, q4, h8⟩ := loads8 w2 sb (H1.out.2.2.1.below hb2) n h2
  have H8 := Lib.hid h8
  have HSt := Lib.hid (still01 w2 sF (H1.out.2.2.1.below hb2) (by omega))
  have H2 := Lib.hid (And.intro b2 (And.intro o2 (bthen H1.out.2.1 hb2)))
  have hW1l := H1.out.2.1.size
  clear sF sb h8 b2 o2 hb2
  go_wp2_with (first
    | (go_at_call 123; refine H8.out.1.mono ?_; rintro e w' ⟨rfl, rfl⟩)
    | (go_at_call 124; refine H8.out.2.1.mono ?_; rintro e w' ⟨rfl, rfl⟩)
    | (go_at_call 26; refine H8.out.2.2.1.mono ?_; rintro e w' ⟨rfl, rfl⟩)
    | (go_at_call 125; refine H8.out.2.2.2.1.mono ?_; rintro e w' ⟨rfl, rfl⟩)
    | (go_at_call 25; refine H8.out.2.2.2.2.1.mono ?_; rintro e w' ⟨rfl, rfl⟩)
    | (go_at_call 126; refine H8.out.2.2.2.2.2.1.mono ?_; rintro e w' ⟨rfl, rfl⟩)
    | (go_at_call 127; refine H8.out.2.2.2.2.2.2.1.mono ?_; rintro e w' ⟨rfl, rfl⟩)
    | (go_at_call 128; refine H8.out.2.2.2.2.2.2.2.mono ?_; rintro e w' ⟨rfl, rfl⟩))
  refine HSt.out.mono ?_
  rintro e w3 ⟨rfl, hb3⟩
  have o3 := own_below H2.out.2.1 hb3
  have b3 := heap_below H2.out.1 hb3
  have H3 := Lib.hid (And.intro o3 (And.intro b3 (bthen H2.out.2.2 hb3)))
  clear hb3 o3 b3 e3 e4
  go_wp2_with (first | (at_builtin; refine Stopped.out ?_) | (at_make; refine Stopped.out ?_))
  refine (turn01 w3 H3.out.1 0 xn c2 (by omega) (by omega) (own_sl' H3.out.1).2.1.max).mono ?_
  rintro e w4 ⟨rfl, L', hL', o4, k4⟩
  have b4 := k4.heap H3.out.2.1 (by simp; have := H2.out.2.2.size; have := lt_of_block H1.out.1; omega)
  have f3 := box_cell b4 3 _ rfl
  have sb4 := ((own_sl' o4).2.1).preL (m := xn) (by omega)
  have hB4 := k4.below H3.out.2.2 H3.out.2.2.size (fun y hy => by simp at hy; have := H1.out.2.1.size; omega)
  have H4 := Lib.hid (And.intro sb4 (And.intro b4 hB4))
  clear o4 k4 b4 sb4 hB4
  go_wp2_with (first | (at_builtin; refine Stopped.out ?_) | (at_make; refine Stopped.out ?_))
  refine (copied01 w4 H4.out.1 (by omega)).mono ?_
  rintro e w5 ⟨v, rfl, o5, hb5⟩
  obtain ⟨A5, c5, rfl, s5, _⟩ := own_sl o5
  have s5b := H4.out.1.below hb5
  obtain ⟨u1, u2, u3, u4, p1, p2, p3, p4, h8⟩ := loads8 w5 s5b s5 n h2
  have H85 := Lib.hid h8
  have hsm := same01 w5 s5b s5
  rw [decide_eq_true rfl] at hsm
  have HS5 := Lib.hid (And.intro hsm (bthen H4.out.2.2 hb5))
  have f3' := cell_below f3 hb5
  clear o5 s5 s5b h8 hsm hb5 f3
  go_wp2_with (first
    | (go_at_call 123; refine H85.out.1.mono ?_; rintro e w' ⟨rfl, rfl⟩)
    | (go_at_call 124; refine H85.out.2.1.mono ?_; rintro e w' ⟨rfl, rfl⟩)
    | (go_at_call 26; refine H85.out.2.2.1.mono ?_; rintro e w' ⟨rfl, rfl⟩)
    | (go_at_call 125; refine H85.out.2.2.2.1.mono ?_; rintro e w' ⟨rfl, rfl⟩)
    | (go_at_call 25; refine H85.out.2.2.2.2.1.mono ?_; rintro e w' ⟨rfl, rfl⟩)
    | (go_at_call 126; refine H85.out.2.2.2.2.2.1.mono ?_; rintro e w' ⟨rfl, rfl⟩)
    | (go_at_call 127; refine H85.out.2.2.2.2.2.2.1.mono ?_; rintro e w' ⟨rfl, rfl⟩)
    | (go_at_call 128; refine H85.out.2.2.2.2.2.2.2.mono ?_; rintro e w' ⟨rfl, rfl⟩)
    | (go_at_call 28; refine HS5.out.1.mono ?_; rintro e w6 ⟨rfl, hd6⟩))
  go_ret
  exact ⟨by first | rfl | simp, bthen HS5.out.2 hd6.below⟩
end Go.Proofs.Ytdooabbeolfgfaa
