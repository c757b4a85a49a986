import Derived.Test.YtdooabbeolfgfaaWrite9
set_option linter.unusedVariables false
set_option linter.unusedSimpArgs false
namespace Go.Proofs.Ytdooabbeolfgfaa
open Go.RowKit
set_option maxRecDepth 100000 in
set_option maxHeartbeats 1600000 in
theorem tell9_1 (w : World) {p : Nat} {G : List Nat} {l : List UInt8} {f : Nat} (h : Ob 66 w p G l f) (x : Nat) {ba la : Option Addr} {n0 bc ln lc : Nat} {b : List UInt8} {ns : List UInt64} (n most : Int)
    (sb : Sl w 1 ba n0 bc (b.map by8)) (sn : Sl w 1 la ln lc (ns.map by64)) (hba : ∀ ad, ba = some ad → 0 < n0 → ad.block ∉ G) (hla : ∀ ad, la = some ad → 0 < ln → ad.block ∉ G) (hx : x < 18446744073709551616) (hbn : n0 ≤ 100000) (hln : ln ≤ 100000) (hl : l.length ≤ 100000000) :
    Calls Try.prog 43 #[.pointer (some ⟨p, 0, none⟩), .agg #[.int .i64 1, .int .u64 x, .slice ba n0 bc, .slice la ln lc, .int .i64 n, .int .i64 most]] w fun e w' => e = .returned (.tuple #[]) ∧ Stepped 66 w w' p G (putL l (f) ([UInt8.ofNat (x % 256)])) (f) := by
  obtain ⟨cs, hcs⟩ : ∃ cs : Array Value, cs = #[.int .i64 1, .int .u64 x, .slice ba n0 bc, .slice la ln lc, .int .i64 n, .int .i64 most] := ⟨_, rfl⟩
  have hB0 : Below w.heap.size w (w.alloc (.cells cs 70)) := (Below.refl _ _).alloc (Nat.le_refl _) _
  have hx0 : (w.alloc (.cells cs 70)).heap[w.heap.size]? = some (.cells cs 70 (0, 0)) := heap_alloc_new w _
  rw [hcs] at hB0 hx0
  clear hcs
  have hbl := sb.le; have hbm := sb.max; have hll := sn.le; have hlm := sn.max
  have hlts := h.lts
  have hxG : w.heap.size ∉ G := fun hh => by have := hlts _ hh; omega
  have h1 := h.below hB0
  have sb1 := sb.below hB0
  have sn1 := sn.below hB0
  have d0 := box_cell hx0 0 (.int .i64 1) rfl
  have d1' := box_cell hx0 1 (.int .u64 x) rfl
  have d2 := box_cell hx0 2 (.slice ba n0 bc) rfl
  have d3 := box_cell hx0 3 (.slice la ln lc) rfl
  have d5 := box_cell hx0 5 (.int .i64 most) rfl
  have HX0 := Lib.hid hx0
  clear hx0
  obtain ⟨F2, hF2⟩ : ∃ F2, F2 = f := ⟨_, rfl⟩
  obtain ⟨L2, hL2⟩ : ∃ L2, L2 = putL l (f) ([UInt8.ofNat (x % 256)]) := ⟨_, rfl⟩
  rw [← hL2, ← hF2]
  have HLF := Lib.hid (And.intro hL2 hF2)
  clear hL2 hF2
  go_enter Try.func43, Try.ntmps43
  go_wp2_with (first | (at_builtin; refine Stopped.out ?_) | (at_make; refine Stopped.out ?_))
  refine (refByte _ h1 (x % 256) (by omega) (by omega)).mono ?_
  rintro e w2 ⟨rfl, hst⟩
  go_wp2
  go_end0
  rw [← HLF.out.1, ← HLF.out.2] at hst
  exact ⟨rfl, hst.after hB0⟩
set_option maxRecDepth 100000 in
set_option maxHeartbeats 1600000 in
theorem tell9_2 (w : World) {p : Nat} {G : List Nat} {l : List UInt8} {f : Nat} (h : Ob 66 w p G l f) (x : Nat) {ba la : Option Addr} {n0 bc ln lc : Nat} {b : List UInt8} {ns : List UInt64} (n most : Int)
    (sb : Sl w 1 ba n0 bc (b.map by8)) (sn : Sl w 1 la ln lc (ns.map by64)) (hba : ∀ ad, ba = some ad → 0 < n0 → ad.block ∉ G) (hla : ∀ ad, la = some ad → 0 < ln → ad.block ∉ G) (hx : x < 18446744073709551616) (hbn : n0 ≤ 100000) (hln : ln ≤ 100000) (hl : l.length ≤ 100000000) :
    Calls Try.prog 43 #[.pointer (some ⟨p, 0, none⟩), .agg #[.int .i64 2, .int .u64 x, .slice ba n0 bc, .slice la ln lc, .int .i64 n, .int .i64 most]] w fun e w' => e = .returned (.tuple #[]) ∧ Stepped 66 w w' p G (putL l (f) (stBE32 (x % 4294967296) 4)) (f) := by
  obtain ⟨cs, hcs⟩ : ∃ cs : Array Value, cs = #[.int .i64 2, .int .u64 x, .slice ba n0 bc, .slice la ln lc, .int .i64 n, .int .i64 most] := ⟨_, rfl⟩
  have hB0 : Below w.heap.size w (w.alloc (.cells cs 70)) := (Below.refl _ _).alloc (Nat.le_refl _) _
  have hx0 : (w.alloc (.cells cs 70)).heap[w.heap.size]? = some (.cells cs 70 (0, 0)) := heap_alloc_new w _
  rw [hcs] at hB0 hx0
  clear hcs
  have hbl := sb.le; have hbm := sb.max; have hll := sn.le; have hlm := sn.max
  have hlts := h.lts
  have hxG : w.heap.size ∉ G := fun hh => by have := hlts _ hh; omega
  have h1 := h.below hB0
  have sb1 := sb.below hB0
  have sn1 := sn.below hB0
  have d0 := box_cell hx0 0 (.int .i64 2) rfl
  have d1' := box_cell hx0 1 (.int .u64 x) rfl
  have d2 := box_cell hx0 2 (.slice ba n0 bc) rfl
  have d3 := box_cell hx0 3 (.slice la ln lc) rfl
  have d5 := box_cell hx0 5 (.int .i64 most) rfl
  have HX0 := Lib.hid hx0
  clear hx0
  obtain ⟨F2, hF2⟩ : ∃ F2, F2 = f := ⟨_, rfl⟩
  obtain ⟨L2, hL2⟩ : ∃ L2, L2 = putL l (f) (stBE32 (x % 4294967296) 4) := ⟨_, rfl⟩
  rw [← hL2, ← hF2]
  have HLF := Lib.hid (And.intro hL2 hF2)
  clear hL2 hF2
  go_enter Try.func43, Try.ntmps43
  go_wp2_with (first | (at_builtin; refine Stopped.out ?_) | (at_make; refine Stopped.out ?_))
  refine (refOU32 _ h1 (x % 4294967296) (by omega) (by omega)).mono ?_
  rintro e w2 ⟨rfl, hst⟩
  go_wp2
  go_end0
  rw [← HLF.out.1, ← HLF.out.2] at hst
  exact ⟨rfl, hst.after hB0⟩
set_option maxRecDepth 100000 in
set_option maxHeartbeats 1600000 in
theorem tell9_3 (w : World) {p : Nat} {G : List Nat} {l : List UInt8} {f : Nat} (h : Ob 66 w p G l f) (x : Nat) {ba la : Option Addr} {n0 bc ln lc : Nat} {b : List UInt8} {ns : List UInt64} (n most : Int)
    (sb : Sl w 1 ba n0 bc (b.map by8)) (sn : Sl w 1 la ln lc (ns.map by64)) (hba : ∀ ad, ba = some ad → 0 < n0 → ad.block ∉ G) (hla : ∀ ad, la = some ad → 0 < ln → ad.block ∉ G) (hx : x < 18446744073709551616) (hbn : n0 ≤ 100000) (hln : ln ≤ 100000) (hl : l.length ≤ 100000000) :
    Calls Try.prog 43 #[.pointer (some ⟨p, 0, none⟩), .agg #[.int .i64 3, .int .u64 x, .slice ba n0 bc, .slice la ln lc, .int .i64 n, .int .i64 most]] w fun e w' => e = .returned (.tuple #[]) ∧ Stepped 66 w w' p G (putL l (f) (stBE64 x 8)) (f) := by
  obtain ⟨cs, hcs⟩ : ∃ cs : Array Value, cs = #[.int .i64 3, .int .u64 x, .slice ba n0 bc, .slice la ln lc, .int .i64 n, .int .i64 most] := ⟨_, rfl⟩
  have hB0 : Below w.heap.size w (w.alloc (.cells cs 70)) := (Below.refl _ _).alloc (Nat.le_refl _) _
  have hx0 : (w.alloc (.cells cs 70)).heap[w.heap.size]? = some (.cells cs 70 (0, 0)) := heap_alloc_new w _
  rw [hcs] at hB0 hx0
  clear hcs
  have hbl := sb.le; have hbm := sb.max; have hll := sn.le; have hlm := sn.max
  have hlts := h.lts
  have hxG : w.heap.size ∉ G := fun hh => by have := hlts _ hh; omega
  have h1 := h.below hB0
  have sb1 := sb.below hB0
  have sn1 := sn.below hB0
  have d0 := box_cell hx0 0 (.int .i64 3) rfl
  have d1' := box_cell hx0 1 (.int .u64 x) rfl
  have d2 := box_cell hx0 2 (.slice ba n0 bc) rfl
  have d3 := box_cell hx0 3 (.slice la ln lc) rfl
  have d5 := box_cell hx0 5 (.int .i64 most) rfl
  have HX0 := Lib.hid hx0
  clear hx0
  obtain ⟨F2, hF2⟩ : ∃ F2, F2 = f := ⟨_, rfl⟩
  obtain ⟨L2, hL2⟩ : ∃ L2, L2 = putL l (f) (stBE64 x 8) := ⟨_, rfl⟩
  rw [← hL2, ← hF2]
  have HLF := Lib.hid (And.intro hL2 hF2)
  clear hL2 hF2
  go_enter Try.func43, Try.ntmps43
  go_wp2_with (first | (at_builtin; refine Stopped.out ?_) | (at_make; refine Stopped.out ?_))
  refine (refOU64 _ h1 x hx (by omega)).mono ?_
  rintro e w2 ⟨rfl, hst⟩
  go_wp2
  go_end0
  rw [← HLF.out.1, ← HLF.out.2] at hst
  exact ⟨rfl, hst.after hB0⟩
set_option maxRecDepth 100000 in
set_option maxHeartbeats 1600000 in
theorem tell9_4 (w : World) {p : Nat} {G : List Nat} {l : List UInt8} {f : Nat} (h : Ob 66 w p G l f) (x : Nat) {ba la : Option Addr} {n0 bc ln lc : Nat} {b : List UInt8} {ns : List UInt64} (n most : Int)
    (sb : Sl w 1 ba n0 bc (b.map by8)) (sn : Sl w 1 la ln lc (ns.map by64)) (hba : ∀ ad, ba = some ad → 0 < n0 → ad.block ∉ G) (hla : ∀ ad, la = some ad → 0 < ln → ad.block ∉ G) (hx : x < 18446744073709551616) (hbn : n0 ≤ 100000) (hln : ln ≤ 100000) (hl : l.length ≤ 100000000) :
    Calls Try.prog 43 #[.pointer (some ⟨p, 0, none⟩), .agg #[.int .i64 4, .int .u64 x, .slice ba n0 bc, .slice la ln lc, .int .i64 n, .int .i64 most]] w fun e w' => e = .returned (.tuple #[]) ∧ Stepped 66 w w' p G (putL l (f) (shortL x)) (f) := by
  obtain ⟨cs, hcs⟩ : ∃ cs : Array Value, cs = #[.int .i64 4, .int .u64 x, .slice ba n0 bc, .slice la ln lc, .int .i64 n, .int .i64 most] := ⟨_, rfl⟩
  have hB0 : Below w.heap.size w (w.alloc (.cells cs 70)) := (Below.refl _ _).alloc (Nat.le_refl _) _
  have hx0 : (w.alloc (.cells cs 70)).heap[w.heap.size]? = some (.cells cs 70 (0, 0)) := heap_alloc_new w _
  rw [hcs] at hB0 hx0
  clear hcs
  have hbl := sb.le; have hbm := sb.max; have hll := sn.le; have hlm := sn.max
  have hlts := h.lts
  have hxG : w.heap.size ∉ G := fun hh => by have := hlts _ hh; omega
  have h1 := h.below hB0
  have sb1 := sb.below hB0
  have sn1 := sn.below hB0
  have d0 := box_cell hx0 0 (.int .i64 4) rfl
  have d1' := box_cell hx0 1 (.int .u64 x) rfl
  have d2 := box_cell hx0 2 (.slice ba n0 bc) rfl
  have d3 := box_cell hx0 3 (.slice la ln lc) rfl
  have d5 := box_cell hx0 5 (.int .i64 most) rfl
  have HX0 := Lib.hid hx0
  clear hx0
  obtain ⟨F2, hF2⟩ : ∃ F2, F2 = f := ⟨_, rfl⟩
  obtain ⟨L2, hL2⟩ : ∃ L2, L2 = putL l (f) (shortL x) := ⟨_, rfl⟩
  rw [← hL2, ← hF2]
  have HLF := Lib.hid (And.intro hL2 hF2)
  clear hL2 hF2
  go_enter Try.func43, Try.ntmps43
  go_wp2_with (first | (at_builtin; refine Stopped.out ?_) | (at_make; refine Stopped.out ?_))
  refine (refOUint _ h1 x hx (by omega)).mono ?_
  rintro e w2 ⟨rfl, hst⟩
  go_wp2
  go_end0
  rw [← HLF.out.1, ← HLF.out.2] at hst
  exact ⟨rfl, hst.after hB0⟩
set_option maxRecDepth 100000 in
set_option maxHeartbeats 1600000 in
theorem tell9_5 (w : World) {p : Nat} {G : List Nat} {l : List UInt8} {f : Nat} (h : Ob 66 w p G l f) (x : Nat) {ba la : Option Addr} {n0 bc ln lc : Nat} {b : List UInt8} {ns : List UInt64} (n most : Int)
    (sb : Sl w 1 ba n0 bc (b.map by8)) (sn : Sl w 1 la ln lc (ns.map by64)) (hba : ∀ ad, ba = some ad → 0 < n0 → ad.block ∉ G) (hla : ∀ ad, la = some ad → 0 < ln → ad.block ∉ G) (hx : x < 18446744073709551616) (hbn : n0 ≤ 100000) (hln : ln ≤ 100000) (hl : l.length ≤ 100000000) :
    Calls Try.prog 43 #[.pointer (some ⟨p, 0, none⟩), .agg #[.int .i64 5, .int .u64 x, .slice ba n0 bc, .slice la ln lc, .int .i64 n, .int .i64 most]] w fun e w' => e = .returned (.tuple #[]) ∧ Stepped 66 w w' p G (putL l (f) ([if x % 2 = 1 then 1 else 0])) (f) := by
  obtain ⟨cs, hcs⟩ : ∃ cs : Array Value, cs = #[.int .i64 5, .int .u64 x, .slice ba n0 bc, .slice la ln lc, .int .i64 n, .int .i64 most] := ⟨_, rfl⟩
  have hB0 : Below w.heap.size w (w.alloc (.cells cs 70)) := (Below.refl _ _).alloc (Nat.le_refl _) _
  have hx0 : (w.alloc (.cells cs 70)).heap[w.heap.size]? = some (.cells cs 70 (0, 0)) := heap_alloc_new w _
  rw [hcs] at hB0 hx0
  clear hcs
  have hbl := sb.le; have hbm := sb.max; have hll := sn.le; have hlm := sn.max
  have hlts := h.lts
  have hxG : w.heap.size ∉ G := fun hh => by have := hlts _ hh; omega
  have h1 := h.below hB0
  have sb1 := sb.below hB0
  have sn1 := sn.below hB0
  have d0 := box_cell hx0 0 (.int .i64 5) rfl
  have d1' := box_cell hx0 1 (.int .u64 x) rfl
  have d2 := box_cell hx0 2 (.slice ba n0 bc) rfl
  have d3 := box_cell hx0 3 (.slice la ln lc) rfl
  have d5 := box_cell hx0 5 (.int .i64 most) rfl
  have HX0 := Lib.hid hx0
  clear hx0
  obtain ⟨F2, hF2⟩ : ∃ F2, F2 = f := ⟨_, rfl⟩
  obtain ⟨L2, hL2⟩ : ∃ L2, L2 = putL l (f) ([if x % 2 = 1 then 1 else 0]) := ⟨_, rfl⟩
  rw [← hL2, ← hF2]
  have HLF := Lib.hid (And.intro hL2 hF2)
  clear hL2 hF2
  go_enter Try.func43, Try.ntmps43
  go_wp2_with (first | (at_builtin; refine Stopped.out ?_) | (at_make; refine Stopped.out ?_))
  refine (refOBool _ h1 (((x : Int) % 2) == 1) (by omega)).mono ?_
  rintro e w2 ⟨rfl, hst⟩
  rw [odd_eq] at hst
  go_wp2
  go_end0
  rw [← HLF.out.1, ← HLF.out.2] at hst
  exact ⟨rfl, hst.after hB0⟩
set_option maxRecDepth 100000 in
set_option maxHeartbeats 1600000 in
theorem tell9_6 (w : World) {p : Nat} {G : List Nat} {l : List UInt8} {f : Nat} (h : Ob 66 w p G l f) (x : Nat) {ba la : Option Addr} {n0 bc ln lc : Nat} {b : List UInt8} {ns : List UInt64} (n most : Int)
    (sb : Sl w 1 ba n0 bc (b.map by8)) (sn : Sl w 1 la ln lc (ns.map by64)) (hba : ∀ ad, ba = some ad → 0 < n0 → ad.block ∉ G) (hla : ∀ ad, la = some ad → 0 < ln → ad.block ∉ G) (hx : x < 18446744073709551616) (hbn : n0 ≤ 100000) (hln : ln ≤ 100000) (hl : l.length ≤ 100000000) :
    Calls Try.prog 43 #[.pointer (some ⟨p, 0, none⟩), .agg #[.int .i64 6, .int .u64 x, .slice ba n0 bc, .slice la ln lc, .int .i64 n, .int .i64 most]] w fun e w' => e = .returned (.tuple #[]) ∧ Stepped 66 w w' p G (putL l (f) (b)) (f) := by
  obtain ⟨cs, hcs⟩ : ∃ cs : Array Value, cs = #[.int .i64 6, .int .u64 x, .slice ba n0 bc, .slice la ln lc, .int .i64 n, .int .i64 most] := ⟨_, rfl⟩
  have hB0 : Below w.heap.size w (w.alloc (.cells cs 70)) := (Below.refl _ _).alloc (Nat.le_refl _) _
  have hx0 : (w.alloc (.cells cs 70)).heap[w.heap.size]? = some (.cells cs 70 (0, 0)) := heap_alloc_new w _
  rw [hcs] at hB0 hx0
  clear hcs
  have hbl := sb.le; have hbm := sb.max; have hll := sn.le; have hlm := sn.max
  have hlts := h.lts
  have hxG : w.heap.size ∉ G := fun hh => by have := hlts _ hh; omega
  have h1 := h.below hB0
  have sb1 := sb.below hB0
  have sn1 := sn.below hB0
  have d0 := box_cell hx0 0 (.int .i64 6) rfl
  have d1' := box_cell hx0 1 (.int .u64 x) rfl
  have d2 := box_cell hx0 2 (.slice ba n0 bc) rfl
  have d3 := box_cell hx0 3 (.slice la ln lc) rfl
  have d5 := box_cell hx0 5 (.int .i64 most) rfl
  have HX0 := Lib.hid hx0
  clear hx0
  obtain ⟨F2, hF2⟩ : ∃ F2, F2 = f := ⟨_, rfl⟩
  obtain ⟨L2, hL2⟩ : ∃ L2, L2 = putL l (f) (b) := ⟨_, rfl⟩
  rw [← hL2, ← hF2]
  have HLF := Lib.hid (And.intro hL2 hF2)
  clear hL2 hF2
  go_enter Try.func43, Try.ntmps43
  go_wp2_with (first | (at_builtin; refine Stopped.out ?_) | (at_make; refine Stopped.out ?_))
  refine (refFixed _ h1 sb1 (by omega)).mono ?_
  rintro e w2 ⟨rfl, hst⟩
  go_wp2
  go_end0
  rw [← HLF.out.1, ← HLF.out.2] at hst
  exact ⟨rfl, hst.after hB0⟩
set_option maxRecDepth 100000 in
set_option maxHeartbeats 1600000 in
theorem tell9_7 (w : World) {p : Nat} {G : List Nat} {l : List UInt8} {f : Nat} (h : Ob 66 w p G l f) (x : Nat) {ba la : Option Addr} {n0 bc ln lc : Nat} {b : List UInt8} {ns : List UInt64} (n most : Int)
    (sb : Sl w 1 ba n0 bc (b.map by8)) (sn : Sl w 1 la ln lc (ns.map by64)) (hba : ∀ ad, ba = some ad → 0 < n0 → ad.block ∉ G) (hla : ∀ ad, la = some ad → 0 < ln → ad.block ∉ G) (hx : x < 18446744073709551616) (hbn : n0 ≤ 100000) (hln : ln ≤ 100000) (hl : l.length ≤ 100000000) :
    Calls Try.prog 43 #[.pointer (some ⟨p, 0, none⟩), .agg #[.int .i64 7, .int .u64 x, .slice ba n0 bc, .slice la ln lc, .int .i64 n, .int .i64 most]] w fun e w' => e = .returned (.tuple #[]) ∧ Stepped 66 w w' p G (putL l (cutF most n0 f) (shortL n0 ++ b)) (cutF most n0 f) := by
  obtain ⟨cs, hcs⟩ : ∃ cs : Array Value, cs = #[.int .i64 7, .int .u64 x, .slice ba n0 bc, .slice la ln lc, .int .i64 n, .int .i64 most] := ⟨_, rfl⟩
  have hB0 : Below w.heap.size w (w.alloc (.cells cs 70)) := (Below.refl _ _).alloc (Nat.le_refl _) _
  have hx0 : (w.alloc (.cells cs 70)).heap[w.heap.size]? = some (.cells cs 70 (0, 0)) := heap_alloc_new w _
  rw [hcs] at hB0 hx0
  clear hcs
  have hbl := sb.le; have hbm := sb.max; have hll := sn.le; have hlm := sn.max
  have hlts := h.lts
  have hxG : w.heap.size ∉ G := fun hh => by have := hlts _ hh; omega
  have h1 := h.below hB0
  have sb1 := sb.below hB0
  have sn1 := sn.below hB0
  have d0 := box_cell hx0 0 (.int .i64 7) rfl
  have d1' := box_cell hx0 1 (.int .u64 x) rfl
  have d2 := box_cell hx0 2 (.slice ba n0 bc) rfl
  have d3 := box_cell hx0 3 (.slice la ln lc) rfl
  have d5 := box_cell hx0 5 (.int .i64 most) rfl
  have HX0 := Lib.hid hx0
  clear hx0
  obtain ⟨F2, hF2⟩ : ∃ F2, F2 = cutF most n0 f := ⟨_, rfl⟩
  obtain ⟨L2, hL2⟩ : ∃ L2, L2 = putL l (cutF most n0 f) (shortL n0 ++ b) := ⟨_, rfl⟩
  rw [← hL2, ← hF2]
  have HLF := Lib.hid (And.intro hL2 hF2)
  clear hL2 hF2
  go_enter Try.func43, Try.ntmps43
  go_wp2_with (first | (at_builtin; refine Stopped.out ?_) | (at_make; refine Stopped.out ?_))
  refine (refBytes _ h1 sb1 hba most (by omega)).mono ?_
  rintro e w2 ⟨rfl, hst⟩
  go_wp2
  go_end0
  rw [← HLF.out.1, ← HLF.out.2] at hst
  exact ⟨rfl, hst.after hB0⟩
set_option maxRecDepth 100000 in
set_option maxHeartbeats 1600000 in
theorem tell9_8 (w : World) {p : Nat} {G : List Nat} {l : List UInt8} {f : Nat} (h : Ob 66 w p G l f) (x : Nat) {ba la : Option Addr} {n0 bc ln lc : Nat} {b : List UInt8} {ns : List UInt64} (n most : Int)
    (sb : Sl w 1 ba n0 bc (b.map by8)) (sn : Sl w 1 la ln lc (ns.map by64)) (hba : ∀ ad, ba = some ad → 0 < n0 → ad.block ∉ G) (hla : ∀ ad, la = some ad → 0 < ln → ad.block ∉ G) (hx : x < 18446744073709551616) (hbn : n0 ≤ 100000) (hln : ln ≤ 100000) (hl : l.length ≤ 100000000) :
    Calls Try.prog 43 #[.pointer (some ⟨p, 0, none⟩), .agg #[.int .i64 8, .int .u64 x, .slice ba n0 bc, .slice la ln lc, .int .i64 n, .int .i64 most]] w fun e w' => e = .returned (.tuple #[]) ∧ Stepped 66 w w' p G (putL l (cutF most ln f) (shortL ln ++ numsL ns)) (cutF most ln f) := by
  obtain ⟨cs, hcs⟩ : ∃ cs : Array Value, cs = #[.int .i64 8, .int .u64 x, .slice ba n0 bc, .slice la ln lc, .int .i64 n, .int .i64 most] := ⟨_, rfl⟩
  have hB0 : Below w.heap.size w (w.alloc (.cells cs 70)) := (Below.refl _ _).alloc (Nat.le_refl _) _
  have hx0 : (w.alloc (.cells cs 70)).heap[w.heap.size]? = some (.cells cs 70 (0, 0)) := heap_alloc_new w _
  rw [hcs] at hB0 hx0
  clear hcs
  have hbl := sb.le; have hbm := sb.max; have hll := sn.le; have hlm := sn.max
  have hlts := h.lts
  have hxG : w.heap.size ∉ G := fun hh => by have := hlts _ hh; omega
  have h1 := h.below hB0
  have sb1 := sb.below hB0
  have sn1 := sn.below hB0
  have d0 := box_cell hx0 0 (.int .i64 8) rfl
  have d1' := box_cell hx0 1 (.int .u64 x) rfl
  have d2 := box_cell hx0 2 (.slice ba n0 bc) rfl
  have d3 := box_cell hx0 3 (.slice la ln lc) rfl
  have d5 := box_cell hx0 5 (.int .i64 most) rfl
  have HX0 := Lib.hid hx0
  clear hx0
  obtain ⟨F2, hF2⟩ : ∃ F2, F2 = cutF most ln f := ⟨_, rfl⟩
  obtain ⟨L2, hL2⟩ : ∃ L2, L2 = putL l (F2) (shortL ln ++ numsL ns) := ⟨_, rfl⟩
  rw [← hF2, ← hL2]
  have HLF := Lib.hid (And.intro hL2 hF2)
  clear hL2 hF2
  go_enter Try.func43, Try.ntmps43
  go_wp2_with (first | (at_builtin; refine Stopped.out ?_) | (at_make; refine Stopped.out ?_))
  refine (refCount _ h1 ln (by omega) most (by omega)).mono ?_
  rintro e w2 ⟨rfl, hst⟩
  rw [← HLF.out.2] at hst
  obtain ⟨G1, h2, hk2, hG2⟩ := hst.out
  have hrl : ns.length = ln := by simpa using sn.len
  have HR := Lib.hid hrl
  have hsl := shortL_len ln (by omega)
  have HP := Lib.hid (fun b => putL_len l b F2)
  clear hst d0 d1' d2 d3 d5 hrl
  go_wp2_with (first | (at_builtin; refine Stopped.out ?_) | (at_make; refine Stopped.out ?_))
  go_loopw [4] (fun i wr => ∃ (k : Nat) (G2 : List Nat), k ≤ ln ∧ i = .int .i64 k ∧ Ob 66 wr p G2 (putL l F2 (shortL ln ++ numsL (ns.take k))) F2 ∧ Keep G (w.alloc (.cells #[.int .i64 8, .int .u64 x, .slice ba n0 bc, .slice la ln lc, .int .i64 n, .int .i64 most] 70)) wr ∧ ∀ y ∈ G2, y ∈ G ∨ (w.alloc (.cells #[.int .i64 8, .int .u64 x, .slice ba n0 bc, .slice la ln lc, .int .i64 n, .int .i64 most] 70)).heap.size ≤ y) (fun i _ => ln - (intOf i).toNat)
  case atStart => exact ⟨0, G1, by omega, rfl, by simpa [numsL] using h2, hk2, hG2⟩
  case round =>
    obtain ⟨k, G2, hk, rfl, h3, hk3, hG3⟩ := hrel
    have e3 := box_cell (hk3.heap HX0.out hxG) 3 (.slice la ln lc) rfl
    by_cases hlt : k < ln
    · obtain ⟨b', off, rfl⟩ := sn.form (by omega)
      have ga := (sn1.keep0 hk3 hla).word k hlt
      have hk0 : (0 : Int) ≤ (k : Int) := Int.natCast_nonneg _
      have hk1 : (k : Int) < (ln : Int) := by omega
      have hq := qt_lt ns k
      have HT := Lib.hid (numsL_take ns k (by rw [HR.out]; exact hlt))
      obtain ⟨q, hqq⟩ : ∃ q, q = qt ns k := ⟨_, rfl⟩
      rw [← hqq] at ga hq HT
      clear hqq
      have hlen : (putL l F2 (shortL ln ++ numsL (ns.take k))).length ≤ 140737488355000 := by
        have h5 := numsL_len (ns.take k)
        have h6 := HP.out (shortL ln ++ numsL (ns.take k))
        rw [List.length_append] at h6
        rw [List.length_take, HR.out] at h5
        omega
      go_wp2_with (first | (at_builtin; refine Stopped.out ?_) | (at_make; refine Stopped.out ?_))
      refine (refOUint _ h3 q hq hlen).mono ?_
      rintro e w4 ⟨rfl, hst4⟩
      obtain ⟨G4, h4, hk4, hG4⟩ := (Stepped.thn hk3 hG3 hst4).out
      have HE : Hid (putL (putL l F2 (shortL ln ++ numsL (ns.take k))) F2 (shortL q) = putL l F2 (shortL ln ++ numsL (ns.take (k + 1)))) := Lib.hid (by rw [putL_putL, HT.out, List.append_assoc])
      rw [HE.out] at h4
      go_wp2_with (first | (at_builtin; refine Stopped.out ?_) | (at_make; refine Stopped.out ?_))
      first | go_roundw | refine ⟨?rel, ?measure⟩
      case rel => exact ⟨k + 1, G4, by omega, by go_num, h4, hk4, hG4⟩
      case measure => simp [intOf]; omega
    · obtain rfl : k = ln := by omega
      have HE : Hid (putL l F2 (shortL k ++ numsL (ns.take k)) = L2) := Lib.hid (by rw [List.take_of_length_le (Nat.le_of_eq HR.out)]; exact HLF.out.1.symm)
      rw [HE.out] at h3
      go_wp2
      go_end0
      exact ⟨rfl, Stepped.after hB0 ⟨G2, h3, hk3, hG3⟩⟩
set_option maxRecDepth 100000 in
set_option maxHeartbeats 1600000 in
theorem tell9_kd (w : World) {p : Nat} {G : List Nat} {l : List UInt8} {f : Nat} (h : Ob 66 w p G l f) (kd : Int) (hk1 : ¬ kd = 1) (hk2 : ¬ kd = 2) (hk3 : ¬ kd = 3) (hk4 : ¬ kd = 4) (hk5 : ¬ kd = 5) (hk6 : ¬ kd = 6) (hk7 : ¬ kd = 7) (hk8 : ¬ kd = 8) (x : Nat) {ba la : Option Addr} {n0 bc ln lc : Nat} {b : List UInt8} {ns : List UInt64} (n most : Int)
    (sb : Sl w 1 ba n0 bc (b.map by8)) (sn : Sl w 1 la ln lc (ns.map by64)) (hba : ∀ ad, ba = some ad → 0 < n0 → ad.block ∉ G) (hla : ∀ ad, la = some ad → 0 < ln → ad.block ∉ G) (hx : x < 18446744073709551616) (hbn : n0 ≤ 100000) (hln : ln ≤ 100000) (hl : l.length ≤ 100000000) :
    Calls Try.prog 43 #[.pointer (some ⟨p, 0, none⟩), .agg #[.int .i64 kd, .int .u64 x, .slice ba n0 bc, .slice la ln lc, .int .i64 n, .int .i64 most]] w fun e w' => e = .returned (.tuple #[]) ∧ Stepped 66 w w' p G (putL l (f) ([])) (f) := by
  obtain ⟨cs, hcs⟩ : ∃ cs : Array Value, cs = #[.int .i64 kd, .int .u64 x, .slice ba n0 bc, .slice la ln lc, .int .i64 n, .int .i64 most] := ⟨_, rfl⟩
  have hB0 : Below w.heap.size w (w.alloc (.cells cs 70)) := (Below.refl _ _).alloc (Nat.le_refl _) _
  have hx0 : (w.alloc (.cells cs 70)).heap[w.heap.size]? = some (.cells cs 70 (0, 0)) := heap_alloc_new w _
  rw [hcs] at hB0 hx0
  clear hcs
  have hbl := sb.le; have hbm := sb.max; have hll := sn.le; have hlm := sn.max
  have hlts := h.lts
  have hxG : w.heap.size ∉ G := fun hh => by have := hlts _ hh; omega
  have h1 := h.below hB0
  have sb1 := sb.below hB0
  have sn1 := sn.below hB0
  have d0 := box_cell hx0 0 (.int .i64 kd) rfl
  have d1' := box_cell hx0 1 (.int .u64 x) rfl
  have d2 := box_cell hx0 2 (.slice ba n0 bc) rfl
  have d3 := box_cell hx0 3 (.slice la ln lc) rfl
  have d5 := box_cell hx0 5 (.int .i64 most) rfl
  have HX0 := Lib.hid hx0
  clear hx0
  obtain ⟨F2, hF2⟩ : ∃ F2, F2 = f := ⟨_, rfl⟩
  obtain ⟨L2, hL2⟩ : ∃ L2, L2 = putL l (f) ([]) := ⟨_, rfl⟩
  rw [← hL2, ← hF2]
  have HLF := Lib.hid (And.intro hL2 hF2)
  clear hL2 hF2
  have q1 : (kd == 1) = false := by simpa using hk1
  have q2 : (kd == 2) = false := by simpa using hk2
  have q3 : (kd == 3) = false := by simpa using hk3
  have q4 : (kd == 4) = false := by simpa using hk4
  have q5 : (kd == 5) = false := by simpa using hk5
  have q6 : (kd == 6) = false := by simpa using hk6
  have q7 : (kd == 7) = false := by simpa using hk7
  have q8 : (kd == 8) = false := by simpa using hk8
  clear hk1 hk2 hk3 hk4 hk5 hk6 hk7 hk8
  go_enter Try.func43, Try.ntmps43
  have hst : Stepped 66 (w.alloc (.cells #[.int .i64 kd, .int .u64 x, .slice ba n0 bc, .slice la ln lc, .int .i64 n, .int .i64 most] 70)) (w.alloc (.cells #[.int .i64 kd, .int .u64 x, .slice ba n0 bc, .slice la ln lc, .int .i64 n, .int .i64 most] 70)) p G (putL l f []) f := ⟨G, by rw [putL_nil]; exact h1, Keep.refl _ _, fun x hx => .inl hx⟩
  go_wp2
  go_end0
  rw [← HLF.out.1, ← HLF.out.2] at hst
  exact ⟨rfl, hst.after hB0⟩
end Go.Proofs.Ytdooabbeolfgfaa
