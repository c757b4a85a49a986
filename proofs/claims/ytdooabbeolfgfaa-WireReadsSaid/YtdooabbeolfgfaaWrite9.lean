import Derived.Test.YtdooabbeolfgfaaSteps9
set_option linter.unusedVariables false
set_option linter.unusedSimpArgs false
namespace Go.Proofs.Ytdooabbeolfgfaa
open Go.RowKit
theorem E64 : ElemT Try.prog 68 23 (.int .u64 0) 1 8 := ⟨Try.underlying68, by kernel_rfl, rfl, by decide⟩
theorem u64_one (l : List UInt64) : ∀ u ∈ l.map by64, u.oneCell' = true := by
  intro u hu
  obtain ⟨c, _, rfl⟩ := List.mem_map.1 hu
  rfl
theorem odd_eq (x : Nat) : ([if (((x : Int) % 2) == 1) = true then 1 else 0] : List UInt8) = [if x % 2 = 1 then 1 else 0] := by
  have h : (((x : Int) % 2) == 1) = true ↔ x % 2 = 1 := by simp; omega
  simp only [h]
theorem roomL_tk (l : List UInt8) {n : Nat} (h : l.length = n) : (roomL l).take n = l := by
  unfold roomL
  rw [List.take_append_of_le_length (by omega), List.take_of_length_le (by omega)]
theorem Stepped.more {T : TypeId} {w w' w'' : World} {p : Nat} {G : List Nat} {l : List UInt8} {f : Nat} (h : Stepped T w w' p G l f) (k : Below w'.heap.size w' w'') : Stepped T w w'' p G l f := by
  obtain ⟨G', h1, h2, h3⟩ := h.out
  exact ⟨G', h1.below k, h2.trans' (Keep.of_below k []) (by simp), h3⟩
theorem putL_nil (l : List UInt8) (f : Nat) : putL l f [] = l := by unfold putL; split <;> simp
/-- what a step lays -/
def stepB (kd : Int) (x : Nat) (b : List UInt8) (ns : List UInt64) : List UInt8 :=
  if kd = 1 then [UInt8.ofNat (x % 256)] else if kd = 2 then stBE32 (x % 4294967296) 4 else if kd = 3 then stBE64 x 8 else if kd = 4 then shortL x else if kd = 5 then [if x % 2 = 1 then 1 else 0]
  else if kd = 6 then b else if kd = 7 then shortL b.length ++ b else if kd = 8 then shortL ns.length ++ numsL ns else []
/-- the fault behind it -/
def stepF (kd : Int) (b : List UInt8) (ns : List UInt64) (most : Int) (f : Nat) : Nat := if kd = 7 then cutF most b.length f else if kd = 8 then cutF most ns.length f else f
set_option maxRecDepth 100000 in
set_option maxHeartbeats 1600000 in
theorem write9_1 (w : World) {p : Nat} {G : List Nat} {l : List UInt8} {f : Nat} (h : Ob 104 w p G l f) (x : Nat) {ba la : Option Addr} {n0 bc ln lc : Nat} {b : List UInt8} {ns : List UInt64} (n most : Int)
    (sb : Sl w 1 ba n0 bc (b.map by8)) (sn : Sl w 1 la ln lc (ns.map by64)) (hba : ∀ ad, ba = some ad → 0 < n0 → ad.block ∉ G) (hla : ∀ ad, la = some ad → 0 < ln → ad.block ∉ G) (hx : x < 18446744073709551616) (hbn : n0 ≤ 100000) (hln : ln ≤ 100000) (hl : l.length ≤ 100000000) :
    Calls Try.prog 42 #[.pointer (some ⟨p, 0, none⟩), .agg #[.int .i64 1, .int .u64 x, .slice ba n0 bc, .slice la ln lc, .int .i64 n, .int .i64 most]] w fun e w' => e = .returned (.bool true) ∧ Stepped 104 w w' p G (putL l (f) ([UInt8.ofNat (x % 256)])) (f) := by
  obtain ⟨cs, hcs⟩ : ∃ cs : Array Value, cs = #[.int .i64 1, .int .u64 x, .slice ba n0 bc, .slice la ln lc, .int .i64 n, .int .i64 most] := ⟨_, rfl⟩
  have hB0 : Below w.heap.size w (w.alloc (.cells cs 70)) := (Below.refl _ _).alloc (Nat.le_refl _) _
  have hx0 : (w.alloc (.cells cs 70)).heap[w.heap.size]? = some (.cells cs 70 (0, 0)) := heap_alloc_new w _
  have hsz0 : (w.alloc (.cells cs 70)).heap.size = w.heap.size + 1 := Array.size_push _
  rw [hcs] at hB0 hx0 hsz0
  clear hcs
  have hbl := sb.le; have hbm := sb.max
  have HLb : Hid (b.length = n0) := Lib.hid (by simpa using sb.len)
  have hlts := h.lts
  have hxG : w.heap.size ∉ G := fun hh => by have := hlts _ hh; omega
  have c2 := box_cell hx0 2 (.slice ba n0 bc) rfl
  obtain ⟨L2, hL2⟩ : ∃ L2, L2 = putL l (f) ([UInt8.ofNat (x % 256)]) := ⟨_, rfl⟩
  obtain ⟨F2, hF2⟩ : ∃ F2, F2 = f := ⟨_, rfl⟩
  rw [← hL2, ← hF2]
  have HLF := Lib.hid (And.intro hL2 hF2)
  clear hL2 hF2
  go_enter Try.func42, Try.ntmps42
  go_wp2_with (first | (at_builtin; refine Stopped.out ?_) | (at_make; refine Stopped.out ?_))
  refine (roomy09 _ (sb.below hB0) (by omega)).mono ?_
  rintro e w1 ⟨v1, rfl, o1, hb01⟩
  have hb1 := bthen hB0 hb01
  obtain ⟨g, d1, rfl, hg, _, hd1⟩ := own_form o1 (by omega)
  have hdm := (own_sl' o1).2.1.max
  have p1 := (own_sl' o1).2.1.preB (m := n0) (by omega)
  rw [roomL_tk b HLb.out] at p1
  have HX1 := Lib.hid (heap_below hx0 hb01)
  have hw1 : w.heap.size ≤ (w.alloc (.cells #[.int .i64 1, .int .u64 x, .slice ba n0 bc, .slice la ln lc, .int .i64 n, .int .i64 most] 70)).heap.size := hB0.size
  have hgG : g ∉ G := fun hh => by have := hlts _ hh; omega
  have h1 := h.below hb1
  have sb1 := sb.below hb1
  have HO1 := Lib.hid o1
  have d0 := box_cell HX1.out 0 (.int .i64 1) rfl
  have d1' := box_cell HX1.out 1 (.int .u64 x) rfl
  have d2 := box_cell HX1.out 2 (.slice ba n0 bc) rfl
  have d5 := box_cell HX1.out 5 (.int .i64 most) rfl
  clear hb01 hx0 c2 o1 hsz0
  go_wp2_with (first | (at_builtin; refine Stopped.out ?_) | (at_make; refine Stopped.out ?_))
  refine (Byte_any _ h1 (x % 256) (by omega) (by omega)).mono ?_
  rintro e w2 ⟨rfl, hst⟩
  rw [← HLF.out.1, ← HLF.out.2] at hst
  clear HLF d0 d1' d2 d5 p1 h1
  obtain ⟨G2, h2, hk2, hG2⟩ := hst.out
  have hx2 := hk2.heap HX1.out hxG
  have o2 := hk2.own HO1.out (fun k hk => by obtain rfl := Option.some.inj hk; exact hgG)
  have sb2 := sb1.keep0 hk2 hba
  have hgG2 : g ∉ G2 := fun hg => by
    rcases hG2 g hg with h | h
    · exact hgG h
    · have := (HO1.out.lt g rfl).2; omega
  have hB2 : Keep G w w2 := (Keep.of_below hb1 G).trans hk2
  have hG0 : ∀ y ∈ G2, y ∈ G ∨ w.heap.size ≤ y := fun y hy => (hG2 y hy).imp id (Nat.le_trans hb1.size)
  clear hst hk2 hG2
  have c2 := box_cell hx2 2 (.slice ba n0 bc) rfl
  have HO2 := Lib.hid o2
  clear hx2 o2 HX1
  go_wp2_with (first | (at_builtin; refine Stopped.out ?_) | (at_make; refine Stopped.out ?_))
  refine (roomy09 _ sb2 (by omega)).mono ?_
  rintro e w3 ⟨v3, rfl, o3, hb3⟩
  obtain ⟨A3, d3, rfl, s3, _⟩ := own_sl o3
  have o23 := own_below HO2.out hb3
  have s23 := (own_sl' o23).2.1
  have HO3 := Lib.hid o23
  clear HO2 c2 o3 o23
  go_wp2_with (first | (at_builtin; refine Stopped.out ?_) | (at_make; refine Stopped.out ?_))
  refine (same09 _ s23 s3).mono ?_
  rintro e w4 ⟨rfl, hd⟩
  rw [decide_eq_true rfl]
  have hb4 := bthen hb3 hd.below
  have h4 := h2.below hb4
  have HO4 := Lib.hid (own_below HO3.out hd.below)
  have hB4 : Keep G w w4 := hB2.trans' (Keep.of_below hb4 []) (by simp)
  clear HO3 s23 s3 hd hb3 hb4 h2 hB2 sb2
  go_wp2_with (first | (at_builtin; refine Stopped.out ?_) | (at_make; refine Stopped.out ?_))
  go_loopw [9] (fun i wr => ∃ (k : Nat) (xs : List Value), k ≤ n0 + 64 ∧ i = .int .i64 k ∧ wr.ownsRow w.heap.size 5 1 (.slice (some ⟨g, 0, none⟩) (n0 + 64) d1) (n0 + 64) xs ∧ Ob 104 wr p G2 L2 F2 ∧ Keep G w wr) (fun i _ => n0 + 64 - (intOf i).toNat)
  case atStart => exact ⟨0, _, by omega, rfl, own_mono HO4.out hw1, h4, hB4⟩
  case round =>
    obtain ⟨k, xs, hk, rfl, hst, hob, hkp⟩ := hrel
    by_cases hlt : k < n0 + 64
    · have hk0 : (0 : Int) ≤ (k : Int) := Int.natCast_nonneg _
      have hk1 : (k : Int) < (n0 : Int) + 64 := by omega
      obtain ⟨v0, hc0⟩ := own_cell hst k (by omega)
      have hf0 := hst.frozenAt k
      have HS := Lib.hid (hst.stored k (.int .u8 0)).1
      have k2 : Keep [g] wr (wr.setCell ⟨g, k, none⟩ (.int .u8 0)) := (Keep.refl [g] wr).setCell (.inl (by simp)) _
      have HN := Lib.hid (And.intro (hob.keep k2 (by intro y hy hy2; simp at hy2; exact hgG2 (hy2 ▸ hy))) (hkp.trans' k2 (by intro y hy; simp at hy; exact .inr (hy ▸ (hst.lt g rfl).1))))
      clear hst hob hkp k2
      go_wp2
      first | go_roundw | refine ⟨?rel, ?measure⟩
      case rel => exact ⟨k + 1, _, by omega, by go_num, HS.out, HN.out.1, HN.out.2⟩
      case measure => simp [intOf]; omega
    · obtain rfl : k = n0 + 64 := by omega
      go_wp2
      go_ret
      exact ⟨rfl, G2, hob, hkp, hG0⟩
set_option maxRecDepth 100000 in
set_option maxHeartbeats 1600000 in
theorem write9_2 (w : World) {p : Nat} {G : List Nat} {l : List UInt8} {f : Nat} (h : Ob 104 w p G l f) (x : Nat) {ba la : Option Addr} {n0 bc ln lc : Nat} {b : List UInt8} {ns : List UInt64} (n most : Int)
    (sb : Sl w 1 ba n0 bc (b.map by8)) (sn : Sl w 1 la ln lc (ns.map by64)) (hba : ∀ ad, ba = some ad → 0 < n0 → ad.block ∉ G) (hla : ∀ ad, la = some ad → 0 < ln → ad.block ∉ G) (hx : x < 18446744073709551616) (hbn : n0 ≤ 100000) (hln : ln ≤ 100000) (hl : l.length ≤ 100000000) :
    Calls Try.prog 42 #[.pointer (some ⟨p, 0, none⟩), .agg #[.int .i64 2, .int .u64 x, .slice ba n0 bc, .slice la ln lc, .int .i64 n, .int .i64 most]] w fun e w' => e = .returned (.bool true) ∧ Stepped 104 w w' p G (putL l (f) (stBE32 (x % 4294967296) 4)) (f) := by
  obtain ⟨cs, hcs⟩ : ∃ cs : Array Value, cs = #[.int .i64 2, .int .u64 x, .slice ba n0 bc, .slice la ln lc, .int .i64 n, .int .i64 most] := ⟨_, rfl⟩
  have hB0 : Below w.heap.size w (w.alloc (.cells cs 70)) := (Below.refl _ _).alloc (Nat.le_refl _) _
  have hx0 : (w.alloc (.cells cs 70)).heap[w.heap.size]? = some (.cells cs 70 (0, 0)) := heap_alloc_new w _
  have hsz0 : (w.alloc (.cells cs 70)).heap.size = w.heap.size + 1 := Array.size_push _
  rw [hcs] at hB0 hx0 hsz0
  clear hcs
  have hbl := sb.le; have hbm := sb.max
  have HLb : Hid (b.length = n0) := Lib.hid (by simpa using sb.len)
  have hlts := h.lts
  have hxG : w.heap.size ∉ G := fun hh => by have := hlts _ hh; omega
  have c2 := box_cell hx0 2 (.slice ba n0 bc) rfl
  obtain ⟨L2, hL2⟩ : ∃ L2, L2 = putL l (f) (stBE32 (x % 4294967296) 4) := ⟨_, rfl⟩
  obtain ⟨F2, hF2⟩ : ∃ F2, F2 = f := ⟨_, rfl⟩
  rw [← hL2, ← hF2]
  have HLF := Lib.hid (And.intro hL2 hF2)
  clear hL2 hF2
  go_enter Try.func42, Try.ntmps42
  go_wp2_with (first | (at_builtin; refine Stopped.out ?_) | (at_make; refine Stopped.out ?_))
  refine (roomy09 _ (sb.below hB0) (by omega)).mono ?_
  rintro e w1 ⟨v1, rfl, o1, hb01⟩
  have hb1 := bthen hB0 hb01
  obtain ⟨g, d1, rfl, hg, _, hd1⟩ := own_form o1 (by omega)
  have hdm := (own_sl' o1).2.1.max
  have p1 := (own_sl' o1).2.1.preB (m := n0) (by omega)
  rw [roomL_tk b HLb.out] at p1
  have HX1 := Lib.hid (heap_below hx0 hb01)
  have hw1 : w.heap.size ≤ (w.alloc (.cells #[.int .i64 2, .int .u64 x, .slice ba n0 bc, .slice la ln lc, .int .i64 n, .int .i64 most] 70)).heap.size := hB0.size
  have hgG : g ∉ G := fun hh => by have := hlts _ hh; omega
  have h1 := h.below hb1
  have sb1 := sb.below hb1
  have HO1 := Lib.hid o1
  have d0 := box_cell HX1.out 0 (.int .i64 2) rfl
  have d1' := box_cell HX1.out 1 (.int .u64 x) rfl
  have d2 := box_cell HX1.out 2 (.slice ba n0 bc) rfl
  have d5 := box_cell HX1.out 5 (.int .i64 most) rfl
  clear hb01 hx0 c2 o1 hsz0
  go_wp2_with (first | (at_builtin; refine Stopped.out ?_) | (at_make; refine Stopped.out ?_))
  refine (U32_any _ h1 (x % 4294967296) (by omega) (by omega)).mono ?_
  rintro e w2 ⟨rfl, hst⟩
  rw [← HLF.out.1, ← HLF.out.2] at hst
  clear HLF d0 d1' d2 d5 p1 h1
  obtain ⟨G2, h2, hk2, hG2⟩ := hst.out
  have hx2 := hk2.heap HX1.out hxG
  have o2 := hk2.own HO1.out (fun k hk => by obtain rfl := Option.some.inj hk; exact hgG)
  have sb2 := sb1.keep0 hk2 hba
  have hgG2 : g ∉ G2 := fun hg => by
    rcases hG2 g hg with h | h
    · exact hgG h
    · have := (HO1.out.lt g rfl).2; omega
  have hB2 : Keep G w w2 := (Keep.of_below hb1 G).trans hk2
  have hG0 : ∀ y ∈ G2, y ∈ G ∨ w.heap.size ≤ y := fun y hy => (hG2 y hy).imp id (Nat.le_trans hb1.size)
  clear hst hk2 hG2
  have c2 := box_cell hx2 2 (.slice ba n0 bc) rfl
  have HO2 := Lib.hid o2
  clear hx2 o2 HX1
  go_wp2_with (first | (at_builtin; refine Stopped.out ?_) | (at_make; refine Stopped.out ?_))
  refine (roomy09 _ sb2 (by omega)).mono ?_
  rintro e w3 ⟨v3, rfl, o3, hb3⟩
  obtain ⟨A3, d3, rfl, s3, _⟩ := own_sl o3
  have o23 := own_below HO2.out hb3
  have s23 := (own_sl' o23).2.1
  have HO3 := Lib.hid o23
  clear HO2 c2 o3 o23
  go_wp2_with (first | (at_builtin; refine Stopped.out ?_) | (at_make; refine Stopped.out ?_))
  refine (same09 _ s23 s3).mono ?_
  rintro e w4 ⟨rfl, hd⟩
  rw [decide_eq_true rfl]
  have hb4 := bthen hb3 hd.below
  have h4 := h2.below hb4
  have HO4 := Lib.hid (own_below HO3.out hd.below)
  have hB4 : Keep G w w4 := hB2.trans' (Keep.of_below hb4 []) (by simp)
  clear HO3 s23 s3 hd hb3 hb4 h2 hB2 sb2
  go_wp2_with (first | (at_builtin; refine Stopped.out ?_) | (at_make; refine Stopped.out ?_))
  go_loopw [9] (fun i wr => ∃ (k : Nat) (xs : List Value), k ≤ n0 + 64 ∧ i = .int .i64 k ∧ wr.ownsRow w.heap.size 5 1 (.slice (some ⟨g, 0, none⟩) (n0 + 64) d1) (n0 + 64) xs ∧ Ob 104 wr p G2 L2 F2 ∧ Keep G w wr) (fun i _ => n0 + 64 - (intOf i).toNat)
  case atStart => exact ⟨0, _, by omega, rfl, own_mono HO4.out hw1, h4, hB4⟩
  case round =>
    obtain ⟨k, xs, hk, rfl, hst, hob, hkp⟩ := hrel
    by_cases hlt : k < n0 + 64
    · have hk0 : (0 : Int) ≤ (k : Int) := Int.natCast_nonneg _
      have hk1 : (k : Int) < (n0 : Int) + 64 := by omega
      obtain ⟨v0, hc0⟩ := own_cell hst k (by omega)
      have hf0 := hst.frozenAt k
      have HS := Lib.hid (hst.stored k (.int .u8 0)).1
      have k2 : Keep [g] wr (wr.setCell ⟨g, k, none⟩ (.int .u8 0)) := (Keep.refl [g] wr).setCell (.inl (by simp)) _
      have HN := Lib.hid (And.intro (hob.keep k2 (by intro y hy hy2; simp at hy2; exact hgG2 (hy2 ▸ hy))) (hkp.trans' k2 (by intro y hy; simp at hy; exact .inr (hy ▸ (hst.lt g rfl).1))))
      clear hst hob hkp k2
      go_wp2
      first | go_roundw | refine ⟨?rel, ?measure⟩
      case rel => exact ⟨k + 1, _, by omega, by go_num, HS.out, HN.out.1, HN.out.2⟩
      case measure => simp [intOf]; omega
    · obtain rfl : k = n0 + 64 := by omega
      go_wp2
      go_ret
      exact ⟨rfl, G2, hob, hkp, hG0⟩
set_option maxRecDepth 100000 in
set_option maxHeartbeats 1600000 in
theorem write9_3 (w : World) {p : Nat} {G : List Nat} {l : List UInt8} {f : Nat} (h : Ob 104 w p G l f) (x : Nat) {ba la : Option Addr} {n0 bc ln lc : Nat} {b : List UInt8} {ns : List UInt64} (n most : Int)
    (sb : Sl w 1 ba n0 bc (b.map by8)) (sn : Sl w 1 la ln lc (ns.map by64)) (hba : ∀ ad, ba = some ad → 0 < n0 → ad.block ∉ G) (hla : ∀ ad, la = some ad → 0 < ln → ad.block ∉ G) (hx : x < 18446744073709551616) (hbn : n0 ≤ 100000) (hln : ln ≤ 100000) (hl : l.length ≤ 100000000) :
    Calls Try.prog 42 #[.pointer (some ⟨p, 0, none⟩), .agg #[.int .i64 3, .int .u64 x, .slice ba n0 bc, .slice la ln lc, .int .i64 n, .int .i64 most]] w fun e w' => e = .returned (.bool true) ∧ Stepped 104 w w' p G (putL l (f) (stBE64 x 8)) (f) := by
  obtain ⟨cs, hcs⟩ : ∃ cs : Array Value, cs = #[.int .i64 3, .int .u64 x, .slice ba n0 bc, .slice la ln lc, .int .i64 n, .int .i64 most] := ⟨_, rfl⟩
  have hB0 : Below w.heap.size w (w.alloc (.cells cs 70)) := (Below.refl _ _).alloc (Nat.le_refl _) _
  have hx0 : (w.alloc (.cells cs 70)).heap[w.heap.size]? = some (.cells cs 70 (0, 0)) := heap_alloc_new w _
  have hsz0 : (w.alloc (.cells cs 70)).heap.size = w.heap.size + 1 := Array.size_push _
  rw [hcs] at hB0 hx0 hsz0
  clear hcs
  have hbl := sb.le; have hbm := sb.max
  have HLb : Hid (b.length = n0) := Lib.hid (by simpa using sb.len)
  have hlts := h.lts
  have hxG : w.heap.size ∉ G := fun hh => by have := hlts _ hh; omega
  have c2 := box_cell hx0 2 (.slice ba n0 bc) rfl
  obtain ⟨L2, hL2⟩ : ∃ L2, L2 = putL l (f) (stBE64 x 8) := ⟨_, rfl⟩
  obtain ⟨F2, hF2⟩ : ∃ F2, F2 = f := ⟨_, rfl⟩
  rw [← hL2, ← hF2]
  have HLF := Lib.hid (And.intro hL2 hF2)
  clear hL2 hF2
  go_enter Try.func42, Try.ntmps42
  go_wp2_with (first | (at_builtin; refine Stopped.out ?_) | (at_make; refine Stopped.out ?_))
  refine (roomy09 _ (sb.below hB0) (by omega)).mono ?_
  rintro e w1 ⟨v1, rfl, o1, hb01⟩
  have hb1 := bthen hB0 hb01
  obtain ⟨g, d1, rfl, hg, _, hd1⟩ := own_form o1 (by omega)
  have hdm := (own_sl' o1).2.1.max
  have p1 := (own_sl' o1).2.1.preB (m := n0) (by omega)
  rw [roomL_tk b HLb.out] at p1
  have HX1 := Lib.hid (heap_below hx0 hb01)
  have hw1 : w.heap.size ≤ (w.alloc (.cells #[.int .i64 3, .int .u64 x, .slice ba n0 bc, .slice la ln lc, .int .i64 n, .int .i64 most] 70)).heap.size := hB0.size
  have hgG : g ∉ G := fun hh => by have := hlts _ hh; omega
  have h1 := h.below hb1
  have sb1 := sb.below hb1
  have HO1 := Lib.hid o1
  have d0 := box_cell HX1.out 0 (.int .i64 3) rfl
  have d1' := box_cell HX1.out 1 (.int .u64 x) rfl
  have d2 := box_cell HX1.out 2 (.slice ba n0 bc) rfl
  have d5 := box_cell HX1.out 5 (.int .i64 most) rfl
  clear hb01 hx0 c2 o1 hsz0
  go_wp2_with (first | (at_builtin; refine Stopped.out ?_) | (at_make; refine Stopped.out ?_))
  refine (U64_any _ h1 x hx (by omega)).mono ?_
  rintro e w2 ⟨rfl, hst⟩
  rw [← HLF.out.1, ← HLF.out.2] at hst
  clear HLF d0 d1' d2 d5 p1 h1
  obtain ⟨G2, h2, hk2, hG2⟩ := hst.out
  have hx2 := hk2.heap HX1.out hxG
  have o2 := hk2.own HO1.out (fun k hk => by obtain rfl := Option.some.inj hk; exact hgG)
  have sb2 := sb1.keep0 hk2 hba
  have hgG2 : g ∉ G2 := fun hg => by
    rcases hG2 g hg with h | h
    · exact hgG h
    · have := (HO1.out.lt g rfl).2; omega
  have hB2 : Keep G w w2 := (Keep.of_below hb1 G).trans hk2
  have hG0 : ∀ y ∈ G2, y ∈ G ∨ w.heap.size ≤ y := fun y hy => (hG2 y hy).imp id (Nat.le_trans hb1.size)
  clear hst hk2 hG2
  have c2 := box_cell hx2 2 (.slice ba n0 bc) rfl
  have HO2 := Lib.hid o2
  clear hx2 o2 HX1
  go_wp2_with (first | (at_builtin; refine Stopped.out ?_) | (at_make; refine Stopped.out ?_))
  refine (roomy09 _ sb2 (by omega)).mono ?_
  rintro e w3 ⟨v3, rfl, o3, hb3⟩
  obtain ⟨A3, d3, rfl, s3, _⟩ := own_sl o3
  have o23 := own_below HO2.out hb3
  have s23 := (own_sl' o23).2.1
  have HO3 := Lib.hid o23
  clear HO2 c2 o3 o23
  go_wp2_with (first | (at_builtin; refine Stopped.out ?_) | (at_make; refine Stopped.out ?_))
  refine (same09 _ s23 s3).mono ?_
  rintro e w4 ⟨rfl, hd⟩
  rw [decide_eq_true rfl]
  have hb4 := bthen hb3 hd.below
  have h4 := h2.below hb4
  have HO4 := Lib.hid (own_below HO3.out hd.below)
  have hB4 : Keep G w w4 := hB2.trans' (Keep.of_below hb4 []) (by simp)
  clear HO3 s23 s3 hd hb3 hb4 h2 hB2 sb2
  go_wp2_with (first | (at_builtin; refine Stopped.out ?_) | (at_make; refine Stopped.out ?_))
  go_loopw [9] (fun i wr => ∃ (k : Nat) (xs : List Value), k ≤ n0 + 64 ∧ i = .int .i64 k ∧ wr.ownsRow w.heap.size 5 1 (.slice (some ⟨g, 0, none⟩) (n0 + 64) d1) (n0 + 64) xs ∧ Ob 104 wr p G2 L2 F2 ∧ Keep G w wr) (fun i _ => n0 + 64 - (intOf i).toNat)
  case atStart => exact ⟨0, _, by omega, rfl, own_mono HO4.out hw1, h4, hB4⟩
  case round =>
    obtain ⟨k, xs, hk, rfl, hst, hob, hkp⟩ := hrel
    by_cases hlt : k < n0 + 64
    · have hk0 : (0 : Int) ≤ (k : Int) := Int.natCast_nonneg _
      have hk1 : (k : Int) < (n0 : Int) + 64 := by omega
      obtain ⟨v0, hc0⟩ := own_cell hst k (by omega)
      have hf0 := hst.frozenAt k
      have HS := Lib.hid (hst.stored k (.int .u8 0)).1
      have k2 : Keep [g] wr (wr.setCell ⟨g, k, none⟩ (.int .u8 0)) := (Keep.refl [g] wr).setCell (.inl (by simp)) _
      have HN := Lib.hid (And.intro (hob.keep k2 (by intro y hy hy2; simp at hy2; exact hgG2 (hy2 ▸ hy))) (hkp.trans' k2 (by intro y hy; simp at hy; exact .inr (hy ▸ (hst.lt g rfl).1))))
      clear hst hob hkp k2
      go_wp2
      first | go_roundw | refine ⟨?rel, ?measure⟩
      case rel => exact ⟨k + 1, _, by omega, by go_num, HS.out, HN.out.1, HN.out.2⟩
      case measure => simp [intOf]; omega
    · obtain rfl : k = n0 + 64 := by omega
      go_wp2
      go_ret
      exact ⟨rfl, G2, hob, hkp, hG0⟩
set_option maxRecDepth 100000 in
set_option maxHeartbeats 1600000 in
theorem write9_4 (w : World) {p : Nat} {G : List Nat} {l : List UInt8} {f : Nat} (h : Ob 104 w p G l f) (x : Nat) {ba la : Option Addr} {n0 bc ln lc : Nat} {b : List UInt8} {ns : List UInt64} (n most : Int)
    (sb : Sl w 1 ba n0 bc (b.map by8)) (sn : Sl w 1 la ln lc (ns.map by64)) (hba : ∀ ad, ba = some ad → 0 < n0 → ad.block ∉ G) (hla : ∀ ad, la = some ad → 0 < ln → ad.block ∉ G) (hx : x < 18446744073709551616) (hbn : n0 ≤ 100000) (hln : ln ≤ 100000) (hl : l.length ≤ 100000000) :
    Calls Try.prog 42 #[.pointer (some ⟨p, 0, none⟩), .agg #[.int .i64 4, .int .u64 x, .slice ba n0 bc, .slice la ln lc, .int .i64 n, .int .i64 most]] w fun e w' => e = .returned (.bool true) ∧ Stepped 104 w w' p G (putL l (f) (shortL x)) (f) := by
  obtain ⟨cs, hcs⟩ : ∃ cs : Array Value, cs = #[.int .i64 4, .int .u64 x, .slice ba n0 bc, .slice la ln lc, .int .i64 n, .int .i64 most] := ⟨_, rfl⟩
  have hB0 : Below w.heap.size w (w.alloc (.cells cs 70)) := (Below.refl _ _).alloc (Nat.le_refl _) _
  have hx0 : (w.alloc (.cells cs 70)).heap[w.heap.size]? = some (.cells cs 70 (0, 0)) := heap_alloc_new w _
  have hsz0 : (w.alloc (.cells cs 70)).heap.size = w.heap.size + 1 := Array.size_push _
  rw [hcs] at hB0 hx0 hsz0
  clear hcs
  have hbl := sb.le; have hbm := sb.max
  have HLb : Hid (b.length = n0) := Lib.hid (by simpa using sb.len)
  have hlts := h.lts
  have hxG : w.heap.size ∉ G := fun hh => by have := hlts _ hh; omega
  have c2 := box_cell hx0 2 (.slice ba n0 bc) rfl
  obtain ⟨L2, hL2⟩ : ∃ L2, L2 = putL l (f) (shortL x) := ⟨_, rfl⟩
  obtain ⟨F2, hF2⟩ : ∃ F2, F2 = f := ⟨_, rfl⟩
  rw [← hL2, ← hF2]
  have HLF := Lib.hid (And.intro hL2 hF2)
  clear hL2 hF2
  go_enter Try.func42, Try.ntmps42
  go_wp2_with (first | (at_builtin; refine Stopped.out ?_) | (at_make; refine Stopped.out ?_))
  refine (roomy09 _ (sb.below hB0) (by omega)).mono ?_
  rintro e w1 ⟨v1, rfl, o1, hb01⟩
  have hb1 := bthen hB0 hb01
  obtain ⟨g, d1, rfl, hg, _, hd1⟩ := own_form o1 (by omega)
  have hdm := (own_sl' o1).2.1.max
  have p1 := (own_sl' o1).2.1.preB (m := n0) (by omega)
  rw [roomL_tk b HLb.out] at p1
  have HX1 := Lib.hid (heap_below hx0 hb01)
  have hw1 : w.heap.size ≤ (w.alloc (.cells #[.int .i64 4, .int .u64 x, .slice ba n0 bc, .slice la ln lc, .int .i64 n, .int .i64 most] 70)).heap.size := hB0.size
  have hgG : g ∉ G := fun hh => by have := hlts _ hh; omega
  have h1 := h.below hb1
  have sb1 := sb.below hb1
  have HO1 := Lib.hid o1
  have d0 := box_cell HX1.out 0 (.int .i64 4) rfl
  have d1' := box_cell HX1.out 1 (.int .u64 x) rfl
  have d2 := box_cell HX1.out 2 (.slice ba n0 bc) rfl
  have d5 := box_cell HX1.out 5 (.int .i64 most) rfl
  clear hb01 hx0 c2 o1 hsz0
  go_wp2_with (first | (at_builtin; refine Stopped.out ?_) | (at_make; refine Stopped.out ?_))
  refine (Uint_any _ h1 x hx (by omega)).mono ?_
  rintro e w2 ⟨rfl, hst⟩
  rw [← HLF.out.1, ← HLF.out.2] at hst
  clear HLF d0 d1' d2 d5 p1 h1
  obtain ⟨G2, h2, hk2, hG2⟩ := hst.out
  have hx2 := hk2.heap HX1.out hxG
  have o2 := hk2.own HO1.out (fun k hk => by obtain rfl := Option.some.inj hk; exact hgG)
  have sb2 := sb1.keep0 hk2 hba
  have hgG2 : g ∉ G2 := fun hg => by
    rcases hG2 g hg with h | h
    · exact hgG h
    · have := (HO1.out.lt g rfl).2; omega
  have hB2 : Keep G w w2 := (Keep.of_below hb1 G).trans hk2
  have hG0 : ∀ y ∈ G2, y ∈ G ∨ w.heap.size ≤ y := fun y hy => (hG2 y hy).imp id (Nat.le_trans hb1.size)
  clear hst hk2 hG2
  have c2 := box_cell hx2 2 (.slice ba n0 bc) rfl
  have HO2 := Lib.hid o2
  clear hx2 o2 HX1
  go_wp2_with (first | (at_builtin; refine Stopped.out ?_) | (at_make; refine Stopped.out ?_))
  refine (roomy09 _ sb2 (by omega)).mono ?_
  rintro e w3 ⟨v3, rfl, o3, hb3⟩
  obtain ⟨A3, d3, rfl, s3, _⟩ := own_sl o3
  have o23 := own_below HO2.out hb3
  have s23 := (own_sl' o23).2.1
  have HO3 := Lib.hid o23
  clear HO2 c2 o3 o23
  go_wp2_with (first | (at_builtin; refine Stopped.out ?_) | (at_make; refine Stopped.out ?_))
  refine (same09 _ s23 s3).mono ?_
  rintro e w4 ⟨rfl, hd⟩
  rw [decide_eq_true rfl]
  have hb4 := bthen hb3 hd.below
  have h4 := h2.below hb4
  have HO4 := Lib.hid (own_below HO3.out hd.below)
  have hB4 : Keep G w w4 := hB2.trans' (Keep.of_below hb4 []) (by simp)
  clear HO3 s23 s3 hd hb3 hb4 h2 hB2 sb2
  go_wp2_with (first | (at_builtin; refine Stopped.out ?_) | (at_make; refine Stopped.out ?_))
  go_loopw [9] (fun i wr => ∃ (k : Nat) (xs : List Value), k ≤ n0 + 64 ∧ i = .int .i64 k ∧ wr.ownsRow w.heap.size 5 1 (.slice (some ⟨g, 0, none⟩) (n0 + 64) d1) (n0 + 64) xs ∧ Ob 104 wr p G2 L2 F2 ∧ Keep G w wr) (fun i _ => n0 + 64 - (intOf i).toNat)
  case atStart => exact ⟨0, _, by omega, rfl, own_mono HO4.out hw1, h4, hB4⟩
  case round =>
    obtain ⟨k, xs, hk, rfl, hst, hob, hkp⟩ := hrel
    by_cases hlt : k < n0 + 64
    · have hk0 : (0 : Int) ≤ (k : Int) := Int.natCast_nonneg _
      have hk1 : (k : Int) < (n0 : Int) + 64 := by omega
      obtain ⟨v0, hc0⟩ := own_cell hst k (by omega)
      have hf0 := hst.frozenAt k
      have HS := Lib.hid (hst.stored k (.int .u8 0)).1
      have k2 : Keep [g] wr (wr.setCell ⟨g, k, none⟩ (.int .u8 0)) := (Keep.refl [g] wr).setCell (.inl (by simp)) _
      have HN := Lib.hid (And.intro (hob.keep k2 (by intro y hy hy2; simp at hy2; exact hgG2 (hy2 ▸ hy))) (hkp.trans' k2 (by intro y hy; simp at hy; exact .inr (hy ▸ (hst.lt g rfl).1))))
      clear hst hob hkp k2
      go_wp2
      first | go_roundw | refine ⟨?rel, ?measure⟩
      case rel => exact ⟨k + 1, _, by omega, by go_num, HS.out, HN.out.1, HN.out.2⟩
      case measure => simp [intOf]; omega
    · obtain rfl : k = n0 + 64 := by omega
      go_wp2
      go_ret
      exact ⟨rfl, G2, hob, hkp, hG0⟩
set_option maxRecDepth 100000 in
set_option maxHeartbeats 1600000 in
theorem write9_5 (w : World) {p : Nat} {G : List Nat} {l : List UInt8} {f : Nat} (h : Ob 104 w p G l f) (x : Nat) {ba la : Option Addr} {n0 bc ln lc : Nat} {b : List UInt8} {ns : List UInt64} (n most : Int)
    (sb : Sl w 1 ba n0 bc (b.map by8)) (sn : Sl w 1 la ln lc (ns.map by64)) (hba : ∀ ad, ba = some ad → 0 < n0 → ad.block ∉ G) (hla : ∀ ad, la = some ad → 0 < ln → ad.block ∉ G) (hx : x < 18446744073709551616) (hbn : n0 ≤ 100000) (hln : ln ≤ 100000) (hl : l.length ≤ 100000000) :
    Calls Try.prog 42 #[.pointer (some ⟨p, 0, none⟩), .agg #[.int .i64 5, .int .u64 x, .slice ba n0 bc, .slice la ln lc, .int .i64 n, .int .i64 most]] w fun e w' => e = .returned (.bool true) ∧ Stepped 104 w w' p G (putL l (f) ([if x % 2 = 1 then 1 else 0])) (f) := by
  obtain ⟨cs, hcs⟩ : ∃ cs : Array Value, cs = #[.int .i64 5, .int .u64 x, .slice ba n0 bc, .slice la ln lc, .int .i64 n, .int .i64 most] := ⟨_, rfl⟩
  have hB0 : Below w.heap.size w (w.alloc (.cells cs 70)) := (Below.refl _ _).alloc (Nat.le_refl _) _
  have hx0 : (w.alloc (.cells cs 70)).heap[w.heap.size]? = some (.cells cs 70 (0, 0)) := heap_alloc_new w _
  have hsz0 : (w.alloc (.cells cs 70)).heap.size = w.heap.size + 1 := Array.size_push _
  rw [hcs] at hB0 hx0 hsz0
  clear hcs
  have hbl := sb.le; have hbm := sb.max
  have HLb : Hid (b.length = n0) := Lib.hid (by simpa using sb.len)
  have hlts := h.lts
  have hxG : w.heap.size ∉ G := fun hh => by have := hlts _ hh; omega
  have c2 := box_cell hx0 2 (.slice ba n0 bc) rfl
  obtain ⟨L2, hL2⟩ : ∃ L2, L2 = putL l (f) ([if x % 2 = 1 then 1 else 0]) := ⟨_, rfl⟩
  obtain ⟨F2, hF2⟩ : ∃ F2, F2 = f := ⟨_, rfl⟩
  rw [← hL2, ← hF2]
  have HLF := Lib.hid (And.intro hL2 hF2)
  clear hL2 hF2
  go_enter Try.func42, Try.ntmps42
  go_wp2_with (first | (at_builtin; refine Stopped.out ?_) | (at_make; refine Stopped.out ?_))
  refine (roomy09 _ (sb.below hB0) (by omega)).mono ?_
  rintro e w1 ⟨v1, rfl, o1, hb01⟩
  have hb1 := bthen hB0 hb01
  obtain ⟨g, d1, rfl, hg, _, hd1⟩ := own_form o1 (by omega)
  have hdm := (own_sl' o1).2.1.max
  have p1 := (own_sl' o1).2.1.preB (m := n0) (by omega)
  rw [roomL_tk b HLb.out] at p1
  have HX1 := Lib.hid (heap_below hx0 hb01)
  have hw1 : w.heap.size ≤ (w.alloc (.cells #[.int .i64 5, .int .u64 x, .slice ba n0 bc, .slice la ln lc, .int .i64 n, .int .i64 most] 70)).heap.size := hB0.size
  have hgG : g ∉ G := fun hh => by have := hlts _ hh; omega
  have h1 := h.below hb1
  have sb1 := sb.below hb1
  have HO1 := Lib.hid o1
  have d0 := box_cell HX1.out 0 (.int .i64 5) rfl
  have d1' := box_cell HX1.out 1 (.int .u64 x) rfl
  have d2 := box_cell HX1.out 2 (.slice ba n0 bc) rfl
  have d5 := box_cell HX1.out 5 (.int .i64 most) rfl
  clear hb01 hx0 c2 o1 hsz0
  go_wp2_with (first | (at_builtin; refine Stopped.out ?_) | (at_make; refine Stopped.out ?_))
  refine (Bool_any _ h1 (((x : Int) % 2) == 1) (by omega)).mono ?_
  rintro e w2 ⟨rfl, hst⟩
  rw [odd_eq] at hst
  rw [← HLF.out.1, ← HLF.out.2] at hst
  clear HLF d0 d1' d2 d5 p1 h1
  obtain ⟨G2, h2, hk2, hG2⟩ := hst.out
  have hx2 := hk2.heap HX1.out hxG
  have o2 := hk2.own HO1.out (fun k hk => by obtain rfl := Option.some.inj hk; exact hgG)
  have sb2 := sb1.keep0 hk2 hba
  have hgG2 : g ∉ G2 := fun hg => by
    rcases hG2 g hg with h | h
    · exact hgG h
    · have := (HO1.out.lt g rfl).2; omega
  have hB2 : Keep G w w2 := (Keep.of_below hb1 G).trans hk2
  have hG0 : ∀ y ∈ G2, y ∈ G ∨ w.heap.size ≤ y := fun y hy => (hG2 y hy).imp id (Nat.le_trans hb1.size)
  clear hst hk2 hG2
  have c2 := box_cell hx2 2 (.slice ba n0 bc) rfl
  have HO2 := Lib.hid o2
  clear hx2 o2 HX1
  go_wp2_with (first | (at_builtin; refine Stopped.out ?_) | (at_make; refine Stopped.out ?_))
  refine (roomy09 _ sb2 (by omega)).mono ?_
  rintro e w3 ⟨v3, rfl, o3, hb3⟩
  obtain ⟨A3, d3, rfl, s3, _⟩ := own_sl o3
  have o23 := own_below HO2.out hb3
  have s23 := (own_sl' o23).2.1
  have HO3 := Lib.hid o23
  clear HO2 c2 o3 o23
  go_wp2_with (first | (at_builtin; refine Stopped.out ?_) | (at_make; refine Stopped.out ?_))
  refine (same09 _ s23 s3).mono ?_
  rintro e w4 ⟨rfl, hd⟩
  rw [decide_eq_true rfl]
  have hb4 := bthen hb3 hd.below
  have h4 := h2.below hb4
  have HO4 := Lib.hid (own_below HO3.out hd.below)
  have hB4 : Keep G w w4 := hB2.trans' (Keep.of_below hb4 []) (by simp)
  clear HO3 s23 s3 hd hb3 hb4 h2 hB2 sb2
  go_wp2_with (first | (at_builtin; refine Stopped.out ?_) | (at_make; refine Stopped.out ?_))
  go_loopw [9] (fun i wr => ∃ (k : Nat) (xs : List Value), k ≤ n0 + 64 ∧ i = .int .i64 k ∧ wr.ownsRow w.heap.size 5 1 (.slice (some ⟨g, 0, none⟩) (n0 + 64) d1) (n0 + 64) xs ∧ Ob 104 wr p G2 L2 F2 ∧ Keep G w wr) (fun i _ => n0 + 64 - (intOf i).toNat)
  case atStart => exact ⟨0, _, by omega, rfl, own_mono HO4.out hw1, h4, hB4⟩
  case round =>
    obtain ⟨k, xs, hk, rfl, hst, hob, hkp⟩ := hrel
    by_cases hlt : k < n0 + 64
    · have hk0 : (0 : Int) ≤ (k : Int) := Int.natCast_nonneg _
      have hk1 : (k : Int) < (n0 : Int) + 64 := by omega
      obtain ⟨v0, hc0⟩ := own_cell hst k (by omega)
      have hf0 := hst.frozenAt k
      have HS := Lib.hid (hst.stored k (.int .u8 0)).1
      have k2 : Keep [g] wr (wr.setCell ⟨g, k, none⟩ (.int .u8 0)) := (Keep.refl [g] wr).setCell (.inl (by simp)) _
      have HN := Lib.hid (And.intro (hob.keep k2 (by intro y hy hy2; simp at hy2; exact hgG2 (hy2 ▸ hy))) (hkp.trans' k2 (by intro y hy; simp at hy; exact .inr (hy ▸ (hst.lt g rfl).1))))
      clear hst hob hkp k2
      go_wp2
      first | go_roundw | refine ⟨?rel, ?measure⟩
      case rel => exact ⟨k + 1, _, by omega, by go_num, HS.out, HN.out.1, HN.out.2⟩
      case measure => simp [intOf]; omega
    · obtain rfl : k = n0 + 64 := by omega
      go_wp2
      go_ret
      exact ⟨rfl, G2, hob, hkp, hG0⟩
set_option maxRecDepth 100000 in
set_option maxHeartbeats 1600000 in
theorem write9_6 (w : World) {p : Nat} {G : List Nat} {l : List UInt8} {f : Nat} (h : Ob 104 w p G l f) (x : Nat) {ba la : Option Addr} {n0 bc ln lc : Nat} {b : List UInt8} {ns : List UInt64} (n most : Int)
    (sb : Sl w 1 ba n0 bc (b.map by8)) (sn : Sl w 1 la ln lc (ns.map by64)) (hba : ∀ ad, ba = some ad → 0 < n0 → ad.block ∉ G) (hla : ∀ ad, la = some ad → 0 < ln → ad.block ∉ G) (hx : x < 18446744073709551616) (hbn : n0 ≤ 100000) (hln : ln ≤ 100000) (hl : l.length ≤ 100000000) :
    Calls Try.prog 42 #[.pointer (some ⟨p, 0, none⟩), .agg #[.int .i64 6, .int .u64 x, .slice ba n0 bc, .slice la ln lc, .int .i64 n, .int .i64 most]] w fun e w' => e = .returned (.bool true) ∧ Stepped 104 w w' p G (putL l (f) (b)) (f) := by
  obtain ⟨cs, hcs⟩ : ∃ cs : Array Value, cs = #[.int .i64 6, .int .u64 x, .slice ba n0 bc, .slice la ln lc, .int .i64 n, .int .i64 most] := ⟨_, rfl⟩
  have hB0 : Below w.heap.size w (w.alloc (.cells cs 70)) := (Below.refl _ _).alloc (Nat.le_refl _) _
  have hx0 : (w.alloc (.cells cs 70)).heap[w.heap.size]? = some (.cells cs 70 (0, 0)) := heap_alloc_new w _
  have hsz0 : (w.alloc (.cells cs 70)).heap.size = w.heap.size + 1 := Array.size_push _
  rw [hcs] at hB0 hx0 hsz0
  clear hcs
  have hbl := sb.le; have hbm := sb.max
  have HLb : Hid (b.length = n0) := Lib.hid (by simpa using sb.len)
  have hlts := h.lts
  have hxG : w.heap.size ∉ G := fun hh => by have := hlts _ hh; omega
  have c2 := box_cell hx0 2 (.slice ba n0 bc) rfl
  obtain ⟨L2, hL2⟩ : ∃ L2, L2 = putL l (f) (b) := ⟨_, rfl⟩
  obtain ⟨F2, hF2⟩ : ∃ F2, F2 = f := ⟨_, rfl⟩
  rw [← hL2, ← hF2]
  have HLF := Lib.hid (And.intro hL2 hF2)
  clear hL2 hF2
  go_enter Try.func42, Try.ntmps42
  go_wp2_with (first | (at_builtin; refine Stopped.out ?_) | (at_make; refine Stopped.out ?_))
  refine (roomy09 _ (sb.below hB0) (by omega)).mono ?_
  rintro e w1 ⟨v1, rfl, o1, hb01⟩
  have hb1 := bthen hB0 hb01
  obtain ⟨g, d1, rfl, hg, _, hd1⟩ := own_form o1 (by omega)
  have hdm := (own_sl' o1).2.1.max
  have p1 := (own_sl' o1).2.1.preB (m := n0) (by omega)
  rw [roomL_tk b HLb.out] at p1
  have HX1 := Lib.hid (heap_below hx0 hb01)
  have hw1 : w.heap.size ≤ (w.alloc (.cells #[.int .i64 6, .int .u64 x, .slice ba n0 bc, .slice la ln lc, .int .i64 n, .int .i64 most] 70)).heap.size := hB0.size
  have hgG : g ∉ G := fun hh => by have := hlts _ hh; omega
  have h1 := h.below hb1
  have sb1 := sb.below hb1
  have HO1 := Lib.hid o1
  have d0 := box_cell HX1.out 0 (.int .i64 6) rfl
  have d1' := box_cell HX1.out 1 (.int .u64 x) rfl
  have d2 := box_cell HX1.out 2 (.slice ba n0 bc) rfl
  have d5 := box_cell HX1.out 5 (.int .i64 most) rfl
  clear hb01 hx0 c2 o1 hsz0
  go_wp2_with (first | (at_builtin; refine Stopped.out ?_) | (at_make; refine Stopped.out ?_))
  refine (Fixed_any _ h1 p1 (by omega)).mono ?_
  rintro e w2 ⟨rfl, hst⟩
  rw [← HLF.out.1, ← HLF.out.2] at hst
  clear HLF d0 d1' d2 d5 p1 h1
  obtain ⟨G2, h2, hk2, hG2⟩ := hst.out
  have hx2 := hk2.heap HX1.out hxG
  have o2 := hk2.own HO1.out (fun k hk => by obtain rfl := Option.some.inj hk; exact hgG)
  have sb2 := sb1.keep0 hk2 hba
  have hgG2 : g ∉ G2 := fun hg => by
    rcases hG2 g hg with h | h
    · exact hgG h
    · have := (HO1.out.lt g rfl).2; omega
  have hB2 : Keep G w w2 := (Keep.of_below hb1 G).trans hk2
  have hG0 : ∀ y ∈ G2, y ∈ G ∨ w.heap.size ≤ y := fun y hy => (hG2 y hy).imp id (Nat.le_trans hb1.size)
  clear hst hk2 hG2
  have c2 := box_cell hx2 2 (.slice ba n0 bc) rfl
  have HO2 := Lib.hid o2
  clear hx2 o2 HX1
  go_wp2_with (first | (at_builtin; refine Stopped.out ?_) | (at_make; refine Stopped.out ?_))
  refine (roomy09 _ sb2 (by omega)).mono ?_
  rintro e w3 ⟨v3, rfl, o3, hb3⟩
  obtain ⟨A3, d3, rfl, s3, _⟩ := own_sl o3
  have o23 := own_below HO2.out hb3
  have s23 := (own_sl' o23).2.1
  have HO3 := Lib.hid o23
  clear HO2 c2 o3 o23
  go_wp2_with (first | (at_builtin; refine Stopped.out ?_) | (at_make; refine Stopped.out ?_))
  refine (same09 _ s23 s3).mono ?_
  rintro e w4 ⟨rfl, hd⟩
  rw [decide_eq_true rfl]
  have hb4 := bthen hb3 hd.below
  have h4 := h2.below hb4
  have HO4 := Lib.hid (own_below HO3.out hd.below)
  have hB4 : Keep G w w4 := hB2.trans' (Keep.of_below hb4 []) (by simp)
  clear HO3 s23 s3 hd hb3 hb4 h2 hB2 sb2
  go_wp2_with (first | (at_builtin; refine Stopped.out ?_) | (at_make; refine Stopped.out ?_))
  go_loopw [9] (fun i wr => ∃ (k : Nat) (xs : List Value), k ≤ n0 + 64 ∧ i = .int .i64 k ∧ wr.ownsRow w.heap.size 5 1 (.slice (some ⟨g, 0, none⟩) (n0 + 64) d1) (n0 + 64) xs ∧ Ob 104 wr p G2 L2 F2 ∧ Keep G w wr) (fun i _ => n0 + 64 - (intOf i).toNat)
  case atStart => exact ⟨0, _, by omega, rfl, own_mono HO4.out hw1, h4, hB4⟩
  case round =>
    obtain ⟨k, xs, hk, rfl, hst, hob, hkp⟩ := hrel
    by_cases hlt : k < n0 + 64
    · have hk0 : (0 : Int) ≤ (k : Int) := Int.natCast_nonneg _
      have hk1 : (k : Int) < (n0 : Int) + 64 := by omega
      obtain ⟨v0, hc0⟩ := own_cell hst k (by omega)
      have hf0 := hst.frozenAt k
      have HS := Lib.hid (hst.stored k (.int .u8 0)).1
      have k2 : Keep [g] wr (wr.setCell ⟨g, k, none⟩ (.int .u8 0)) := (Keep.refl [g] wr).setCell (.inl (by simp)) _
      have HN := Lib.hid (And.intro (hob.keep k2 (by intro y hy hy2; simp at hy2; exact hgG2 (hy2 ▸ hy))) (hkp.trans' k2 (by intro y hy; simp at hy; exact .inr (hy ▸ (hst.lt g rfl).1))))
      clear hst hob hkp k2
      go_wp2
      first | go_roundw | refine ⟨?rel, ?measure⟩
      case rel => exact ⟨k + 1, _, by omega, by go_num, HS.out, HN.out.1, HN.out.2⟩
      case measure => simp [intOf]; omega
    · obtain rfl : k = n0 + 64 := by omega
      go_wp2
      go_ret
      exact ⟨rfl, G2, hob, hkp, hG0⟩
set_option maxRecDepth 100000 in
set_option maxHeartbeats 1600000 in
theorem write9_7 (w : World) {p : Nat} {G : List Nat} {l : List UInt8} {f : Nat} (h : Ob 104 w p G l f) (x : Nat) {ba la : Option Addr} {n0 bc ln lc : Nat} {b : List UInt8} {ns : List UInt64} (n most : Int)
    (sb : Sl w 1 ba n0 bc (b.map by8)) (sn : Sl w 1 la ln lc (ns.map by64)) (hba : ∀ ad, ba = some ad → 0 < n0 → ad.block ∉ G) (hla : ∀ ad, la = some ad → 0 < ln → ad.block ∉ G) (hx : x < 18446744073709551616) (hbn : n0 ≤ 100000) (hln : ln ≤ 100000) (hl : l.length ≤ 100000000) :
    Calls Try.prog 42 #[.pointer (some ⟨p, 0, none⟩), .agg #[.int .i64 7, .int .u64 x, .slice ba n0 bc, .slice la ln lc, .int .i64 n, .int .i64 most]] w fun e w' => e = .returned (.bool true) ∧ Stepped 104 w w' p G (putL l (cutF most n0 f) (shortL n0 ++ b)) (cutF most n0 f) := by
  obtain ⟨cs, hcs⟩ : ∃ cs : Array Value, cs = #[.int .i64 7, .int .u64 x, .slice ba n0 bc, .slice la ln lc, .int .i64 n, .int .i64 most] := ⟨_, rfl⟩
  have hB0 : Below w.heap.size w (w.alloc (.cells cs 70)) := (Below.refl _ _).alloc (Nat.le_refl _) _
  have hx0 : (w.alloc (.cells cs 70)).heap[w.heap.size]? = some (.cells cs 70 (0, 0)) := heap_alloc_new w _
  have hsz0 : (w.alloc (.cells cs 70)).heap.size = w.heap.size + 1 := Array.size_push _
  rw [hcs] at hB0 hx0 hsz0
  clear hcs
  have hbl := sb.le; have hbm := sb.max
  have HLb : Hid (b.length = n0) := Lib.hid (by simpa using sb.len)
  have hlts := h.lts
  have hxG : w.heap.size ∉ G := fun hh => by have := hlts _ hh; omega
  have c2 := box_cell hx0 2 (.slice ba n0 bc) rfl
  obtain ⟨L2, hL2⟩ : ∃ L2, L2 = putL l (cutF most n0 f) (shortL n0 ++ b) := ⟨_, rfl⟩
  obtain ⟨F2, hF2⟩ : ∃ F2, F2 = cutF most n0 f := ⟨_, rfl⟩
  rw [← hL2, ← hF2]
  have HLF := Lib.hid (And.intro hL2 hF2)
  clear hL2 hF2
  go_enter Try.func42, Try.ntmps42
  go_wp2_with (first | (at_builtin; refine Stopped.out ?_) | (at_make; refine Stopped.out ?_))
  refine (roomy09 _ (sb.below hB0) (by omega)).mono ?_
  rintro e w1 ⟨v1, rfl, o1, hb01⟩
  have hb1 := bthen hB0 hb01
  obtain ⟨g, d1, rfl, hg, _, hd1⟩ := own_form o1 (by omega)
  have hdm := (own_sl' o1).2.1.max
  have p1 := (own_sl' o1).2.1.preB (m := n0) (by omega)
  rw [roomL_tk b HLb.out] at p1
  have HX1 := Lib.hid (heap_below hx0 hb01)
  have hw1 : w.heap.size ≤ (w.alloc (.cells #[.int .i64 7, .int .u64 x, .slice ba n0 bc, .slice la ln lc, .int .i64 n, .int .i64 most] 70)).heap.size := hB0.size
  have hgG : g ∉ G := fun hh => by have := hlts _ hh; omega
  have h1 := h.below hb1
  have sb1 := sb.below hb1
  have HO1 := Lib.hid o1
  have d0 := box_cell HX1.out 0 (.int .i64 7) rfl
  have d1' := box_cell HX1.out 1 (.int .u64 x) rfl
  have d2 := box_cell HX1.out 2 (.slice ba n0 bc) rfl
  have d5 := box_cell HX1.out 5 (.int .i64 most) rfl
  clear hb01 hx0 c2 o1 hsz0
  go_wp2_with (first | (at_builtin; refine Stopped.out ?_) | (at_make; refine Stopped.out ?_))
  refine (Bytes_any _ h1 p1 (fun ad e _ => by obtain rfl := Option.some.inj e; exact hgG) most (by omega)).mono ?_
  rintro e w2 ⟨rfl, hst⟩
  rw [← HLF.out.1, ← HLF.out.2] at hst
  clear HLF d0 d1' d2 d5 p1 h1
  obtain ⟨G2, h2, hk2, hG2⟩ := hst.out
  have hx2 := hk2.heap HX1.out hxG
  have o2 := hk2.own HO1.out (fun k hk => by obtain rfl := Option.some.inj hk; exact hgG)
  have sb2 := sb1.keep0 hk2 hba
  have hgG2 : g ∉ G2 := fun hg => by
    rcases hG2 g hg with h | h
    · exact hgG h
    · have := (HO1.out.lt g rfl).2; omega
  have hB2 : Keep G w w2 := (Keep.of_below hb1 G).trans hk2
  have hG0 : ∀ y ∈ G2, y ∈ G ∨ w.heap.size ≤ y := fun y hy => (hG2 y hy).imp id (Nat.le_trans hb1.size)
  clear hst hk2 hG2
  have c2 := box_cell hx2 2 (.slice ba n0 bc) rfl
  have HO2 := Lib.hid o2
  clear hx2 o2 HX1
  go_wp2_with (first | (at_builtin; refine Stopped.out ?_) | (at_make; refine Stopped.out ?_))
  refine (roomy09 _ sb2 (by omega)).mono ?_
  rintro e w3 ⟨v3, rfl, o3, hb3⟩
  obtain ⟨A3, d3, rfl, s3, _⟩ := own_sl o3
  have o23 := own_below HO2.out hb3
  have s23 := (own_sl' o23).2.1
  have HO3 := Lib.hid o23
  clear HO2 c2 o3 o23
  go_wp2_with (first | (at_builtin; refine Stopped.out ?_) | (at_make; refine Stopped.out ?_))
  refine (same09 _ s23 s3).mono ?_
  rintro e w4 ⟨rfl, hd⟩
  rw [decide_eq_true rfl]
  have hb4 := bthen hb3 hd.below
  have h4 := h2.below hb4
  have HO4 := Lib.hid (own_below HO3.out hd.below)
  have hB4 : Keep G w w4 := hB2.trans' (Keep.of_below hb4 []) (by simp)
  clear HO3 s23 s3 hd hb3 hb4 h2 hB2 sb2
  go_wp2_with (first | (at_builtin; refine Stopped.out ?_) | (at_make; refine Stopped.out ?_))
  go_loopw [9] (fun i wr => ∃ (k : Nat) (xs : List Value), k ≤ n0 + 64 ∧ i = .int .i64 k ∧ wr.ownsRow w.heap.size 5 1 (.slice (some ⟨g, 0, none⟩) (n0 + 64) d1) (n0 + 64) xs ∧ Ob 104 wr p G2 L2 F2 ∧ Keep G w wr) (fun i _ => n0 + 64 - (intOf i).toNat)
  case atStart => exact ⟨0, _, by omega, rfl, own_mono HO4.out hw1, h4, hB4⟩
  case round =>
    obtain ⟨k, xs, hk, rfl, hst, hob, hkp⟩ := hrel
    by_cases hlt : k < n0 + 64
    · have hk0 : (0 : Int) ≤ (k : Int) := Int.natCast_nonneg _
      have hk1 : (k : Int) < (n0 : Int) + 64 := by omega
      obtain ⟨v0, hc0⟩ := own_cell hst k (by omega)
      have hf0 := hst.frozenAt k
      have HS := Lib.hid (hst.stored k (.int .u8 0)).1
      have k2 : Keep [g] wr (wr.setCell ⟨g, k, none⟩ (.int .u8 0)) := (Keep.refl [g] wr).setCell (.inl (by simp)) _
      have HN := Lib.hid (And.intro (hob.keep k2 (by intro y hy hy2; simp at hy2; exact hgG2 (hy2 ▸ hy))) (hkp.trans' k2 (by intro y hy; simp at hy; exact .inr (hy ▸ (hst.lt g rfl).1))))
      clear hst hob hkp k2
      go_wp2
      first | go_roundw | refine ⟨?rel, ?measure⟩
      case rel => exact ⟨k + 1, _, by omega, by go_num, HS.out, HN.out.1, HN.out.2⟩
      case measure => simp [intOf]; omega
    · obtain rfl : k = n0 + 64 := by omega
      go_wp2
      go_ret
      exact ⟨rfl, G2, hob, hkp, hG0⟩
set_option maxRecDepth 100000 in
set_option maxHeartbeats 1600000 in
theorem write9_8 (w : World) {p : Nat} {G : List Nat} {l : List UInt8} {f : Nat} (h : Ob 104 w p G l f) (x : Nat) {ba la : Option Addr} {n0 bc ln lc : Nat} {b : List UInt8} {ns : List UInt64} (n most : Int)
    (sb : Sl w 1 ba n0 bc (b.map by8)) (sn : Sl w 1 la ln lc (ns.map by64)) (hba : ∀ ad, ba = some ad → 0 < n0 → ad.block ∉ G) (hla : ∀ ad, la = some ad → 0 < ln → ad.block ∉ G) (hx : x < 18446744073709551616) (hbn : n0 ≤ 100000) (hln : ln ≤ 100000) (hl : l.length ≤ 100000000) :
    Calls Try.prog 42 #[.pointer (some ⟨p, 0, none⟩), .agg #[.int .i64 8, .int .u64 x, .slice ba n0 bc, .slice la ln lc, .int .i64 n, .int .i64 most]] w fun e w' => e = .returned (.bool true) ∧ Stepped 104 w w' p G (putL l (cutF most ln f) (shortL ln ++ numsL ns)) (cutF most ln f) := by
  obtain ⟨cs, hcs⟩ : ∃ cs : Array Value, cs = #[.int .i64 8, .int .u64 x, .slice ba n0 bc, .slice la ln lc, .int .i64 n, .int .i64 most] := ⟨_, rfl⟩
  have hB0 : Below w.heap.size w (w.alloc (.cells cs 70)) := (Below.refl _ _).alloc (Nat.le_refl _) _
  have hx0 : (w.alloc (.cells cs 70)).heap[w.heap.size]? = some (.cells cs 70 (0, 0)) := heap_alloc_new w _
  have hsz0 : (w.alloc (.cells cs 70)).heap.size = w.heap.size + 1 := Array.size_push _
  rw [hcs] at hB0 hx0 hsz0
  clear hcs
  have hbl := sb.le; have hbm := sb.max
  have HLb : Hid (b.length = n0) := Lib.hid (by simpa using sb.len)
  have hlts := h.lts
  have hxG : w.heap.size ∉ G := fun hh => by have := hlts _ hh; omega
  have c2 := box_cell hx0 2 (.slice ba n0 bc) rfl
  obtain ⟨L2, hL2⟩ : ∃ L2, L2 = putL l (cutF most ln f) (shortL ln ++ numsL ns) := ⟨_, rfl⟩
  obtain ⟨F2, hF2⟩ : ∃ F2, F2 = cutF most ln f := ⟨_, rfl⟩
  rw [← hL2, ← hF2]
  have HLF := Lib.hid (And.intro hL2 hF2)
  clear hL2 hF2
  go_enter Try.func42, Try.ntmps42
  go_wp2_with (first | (at_builtin; refine Stopped.out ?_) | (at_make; refine Stopped.out ?_))
  refine (roomy09 _ (sb.below hB0) (by omega)).mono ?_
  rintro e w1 ⟨v1, rfl, o1, hb01⟩
  have hb1 := bthen hB0 hb01
  obtain ⟨g, d1, rfl, hg, _, hd1⟩ := own_form o1 (by omega)
  have hdm := (own_sl' o1).2.1.max
  have p1 := (own_sl' o1).2.1.preB (m := n0) (by omega)
  rw [roomL_tk b HLb.out] at p1
  have HX1 := Lib.hid (heap_below hx0 hb01)
  have hw1 : w.heap.size ≤ (w.alloc (.cells #[.int .i64 8, .int .u64 x, .slice ba n0 bc, .slice la ln lc, .int .i64 n, .int .i64 most] 70)).heap.size := hB0.size
  have hgG : g ∉ G := fun hh => by have := hlts _ hh; omega
  have h1 := h.below hb1
  have sb1 := sb.below hb1
  have HO1 := Lib.hid o1
  have d0 := box_cell HX1.out 0 (.int .i64 8) rfl
  have d1' := box_cell HX1.out 1 (.int .u64 x) rfl
  have d2 := box_cell HX1.out 2 (.slice ba n0 bc) rfl
  have d5 := box_cell HX1.out 5 (.int .i64 most) rfl
  clear hb01 hx0 c2 o1 hsz0
  have sn1 := sn.below hb1
  have d3 := box_cell HX1.out 3 (.slice la ln lc) rfl
  go_wp2_with (first | (at_builtin; refine Stopped.out ?_) | (at_make; refine Stopped.out ?_))
  refine Stopped.mk (ap_own E64 rfl (.tmp 68) (.tmp 70) rfl rfl (World.ownsRow_nil w1 w1.heap.size 23 1) rfl sn1 (u64_one ns) (by simp only [maxLen]; omega) (by omega) (Nat.le_refl _) ?_)
  intro v5 w5 o5 hg5 _
  have hb5 : Below w1.heap.size w1 w5 := (Below.refl _ w1).grown hg5 (Nat.le_refl _) (fun k hk => by cases hk)
  rw [List.nil_append, Nat.zero_add] at o5
  obtain ⟨A5, c5, rfl, s5, hA5⟩ := own_sl o5
  have hA5G : ∀ ad, A5 = some ad → ad.block ∉ G := fun ad e hh => by have h6 := (hA5 ad e).1; have h7 := h1.lts _ hh; omega
  have sn5 := sn1.below hb5
  have HX5 := Lib.hid (heap_below HX1.out hb5)
  have e5 := box_cell HX5.out 5 (.int .i64 most) rfl
  clear hg5 d3 o5
  go_wp2_with (first | (at_builtin; refine Stopped.out ?_) | (at_make; refine Stopped.out ?_))
  refine (PutList_any _ (h1.below hb5) s5 hA5G (fun ad e => (hA5 ad e).2) most (by omega)).mono ?_
  rintro e w6 ⟨rfl, hst6⟩
  obtain ⟨G6, h6, hk6, hG6⟩ := hst6.out
  have s6 := s5.keep hk6 hA5G
  have sn6 := sn5.keep0 hk6 hla
  have e3 := box_cell (hk6.heap HX5.out hxG) 3 (.slice la ln lc) rfl
  clear e5 s5 sn5 HX5 h6 hk6 hG6
  go_wp2_with (first | (at_builtin; refine Stopped.out ?_) | (at_make; refine Stopped.out ?_))
  refine (sameNumbers_any _ s6 sn6).mono ?_
  rintro e w2 ⟨rfl, hd6⟩
  rw [decide_eq_true rfl]
  have hst := (hst6.after hb5).more hd6.below
  clear hst6 s6 sn6 e3 sn1 hb5 hd6
  rw [← HLF.out.1, ← HLF.out.2] at hst
  clear HLF d0 d1' d2 d5 p1 h1
  obtain ⟨G2, h2, hk2, hG2⟩ := hst.out
  have hx2 := hk2.heap HX1.out hxG
  have o2 := hk2.own HO1.out (fun k hk => by obtain rfl := Option.some.inj hk; exact hgG)
  have sb2 := sb1.keep0 hk2 hba
  have hgG2 : g ∉ G2 := fun hg => by
    rcases hG2 g hg with h | h
    · exact hgG h
    · have := (HO1.out.lt g rfl).2; omega
  have hB2 : Keep G w w2 := (Keep.of_below hb1 G).trans hk2
  have hG0 : ∀ y ∈ G2, y ∈ G ∨ w.heap.size ≤ y := fun y hy => (hG2 y hy).imp id (Nat.le_trans hb1.size)
  clear hst hk2 hG2
  have c2 := box_cell hx2 2 (.slice ba n0 bc) rfl
  have HO2 := Lib.hid o2
  clear hx2 o2 HX1
  go_wp2_with (first | (at_builtin; refine Stopped.out ?_) | (at_make; refine Stopped.out ?_))
  refine (roomy09 _ sb2 (by omega)).mono ?_
  rintro e w3 ⟨v3, rfl, o3, hb3⟩
  obtain ⟨A3, d3, rfl, s3, _⟩ := own_sl o3
  have o23 := own_below HO2.out hb3
  have s23 := (own_sl' o23).2.1
  have HO3 := Lib.hid o23
  clear HO2 c2 o3 o23
  go_wp2_with (first | (at_builtin; refine Stopped.out ?_) | (at_make; refine Stopped.out ?_))
  refine (same09 _ s23 s3).mono ?_
  rintro e w4 ⟨rfl, hd⟩
  rw [decide_eq_true rfl]
  have hb4 := bthen hb3 hd.below
  have h4 := h2.below hb4
  have HO4 := Lib.hid (own_below HO3.out hd.below)
  have hB4 : Keep G w w4 := hB2.trans' (Keep.of_below hb4 []) (by simp)
  clear HO3 s23 s3 hd hb3 hb4 h2 hB2 sb2
  go_wp2_with (first | (at_builtin; refine Stopped.out ?_) | (at_make; refine Stopped.out ?_))
  go_loopw [9] (fun i wr => ∃ (k : Nat) (xs : List Value), k ≤ n0 + 64 ∧ i = .int .i64 k ∧ wr.ownsRow w.heap.size 5 1 (.slice (some ⟨g, 0, none⟩) (n0 + 64) d1) (n0 + 64) xs ∧ Ob 104 wr p G2 L2 F2 ∧ Keep G w wr) (fun i _ => n0 + 64 - (intOf i).toNat)
  case atStart => exact ⟨0, _, by omega, rfl, own_mono HO4.out hw1, h4, hB4⟩
  case round =>
    obtain ⟨k, xs, hk, rfl, hst, hob, hkp⟩ := hrel
    by_cases hlt : k < n0 + 64
    · have hk0 : (0 : Int) ≤ (k : Int) := Int.natCast_nonneg _
      have hk1 : (k : Int) < (n0 : Int) + 64 := by omega
      obtain ⟨v0, hc0⟩ := own_cell hst k (by omega)
      have hf0 := hst.frozenAt k
      have HS := Lib.hid (hst.stored k (.int .u8 0)).1
      have k2 : Keep [g] wr (wr.setCell ⟨g, k, none⟩ (.int .u8 0)) := (Keep.refl [g] wr).setCell (.inl (by simp)) _
      have HN := Lib.hid (And.intro (hob.keep k2 (by intro y hy hy2; simp at hy2; exact hgG2 (hy2 ▸ hy))) (hkp.trans' k2 (by intro y hy; simp at hy; exact .inr (hy ▸ (hst.lt g rfl).1))))
      clear hst hob hkp k2
      go_wp2
      first | go_roundw | refine ⟨?rel, ?measure⟩
      case rel => exact ⟨k + 1, _, by omega, by go_num, HS.out, HN.out.1, HN.out.2⟩
      case measure => simp [intOf]; omega
    · obtain rfl : k = n0 + 64 := by omega
      go_wp2
      go_ret
      exact ⟨rfl, G2, hob, hkp, hG0⟩
set_option maxRecDepth 100000 in
set_option maxHeartbeats 1600000 in
theorem write9_kd (w : World) {p : Nat} {G : List Nat} {l : List UInt8} {f : Nat} (h : Ob 104 w p G l f) (kd : Int) (hk1 : ¬ kd = 1) (hk2 : ¬ kd = 2) (hk3 : ¬ kd = 3) (hk4 : ¬ kd = 4) (hk5 : ¬ kd = 5) (hk6 : ¬ kd = 6) (hk7 : ¬ kd = 7) (hk8 : ¬ kd = 8) (x : Nat) {ba la : Option Addr} {n0 bc ln lc : Nat} {b : List UInt8} {ns : List UInt64} (n most : Int)
    (sb : Sl w 1 ba n0 bc (b.map by8)) (sn : Sl w 1 la ln lc (ns.map by64)) (hba : ∀ ad, ba = some ad → 0 < n0 → ad.block ∉ G) (hla : ∀ ad, la = some ad → 0 < ln → ad.block ∉ G) (hx : x < 18446744073709551616) (hbn : n0 ≤ 100000) (hln : ln ≤ 100000) (hl : l.length ≤ 100000000) :
    Calls Try.prog 42 #[.pointer (some ⟨p, 0, none⟩), .agg #[.int .i64 kd, .int .u64 x, .slice ba n0 bc, .slice la ln lc, .int .i64 n, .int .i64 most]] w fun e w' => e = .returned (.bool true) ∧ Stepped 104 w w' p G (putL l (f) ([])) (f) := by
  obtain ⟨cs, hcs⟩ : ∃ cs : Array Value, cs = #[.int .i64 kd, .int .u64 x, .slice ba n0 bc, .slice la ln lc, .int .i64 n, .int .i64 most] := ⟨_, rfl⟩
  have hB0 : Below w.heap.size w (w.alloc (.cells cs 70)) := (Below.refl _ _).alloc (Nat.le_refl _) _
  have hx0 : (w.alloc (.cells cs 70)).heap[w.heap.size]? = some (.cells cs 70 (0, 0)) := heap_alloc_new w _
  have hsz0 : (w.alloc (.cells cs 70)).heap.size = w.heap.size + 1 := Array.size_push _
  rw [hcs] at hB0 hx0 hsz0
  clear hcs
  have hbl := sb.le; have hbm := sb.max
  have HLb : Hid (b.length = n0) := Lib.hid (by simpa using sb.len)
  have hlts := h.lts
  have hxG : w.heap.size ∉ G := fun hh => by have := hlts _ hh; omega
  have c2 := box_cell hx0 2 (.slice ba n0 bc) rfl
  obtain ⟨L2, hL2⟩ : ∃ L2, L2 = putL l (f) ([]) := ⟨_, rfl⟩
  obtain ⟨F2, hF2⟩ : ∃ F2, F2 = f := ⟨_, rfl⟩
  rw [← hL2, ← hF2]
  have HLF := Lib.hid (And.intro hL2 hF2)
  clear hL2 hF2
  have q1 : (kd == 1) = false := by simpa using hk1
  have q2 : (kd == 2) = false := by simpa using hk2
  have q3 : (kd == 3) = false := by simpa using hk3
  have q4 : (kd == 4) = false := by simpa using hk4
  have q5 : (kd == 5) = false := by simpa using hk5
  have q6 : (kd == 6) = false := by simpa using hk6
  have q7 : (kd == 7) = false := by simpa using hk7
  have q8 : (kd == 8) = false := by simpa using hk8
  clear hk1 hk2 hk3 hk4 hk5 hk6 hk7 hk8
  go_enter Try.func42, Try.ntmps42
  go_wp2_with (first | (at_builtin; refine Stopped.out ?_) | (at_make; refine Stopped.out ?_))
  refine (roomy09 _ (sb.below hB0) (by omega)).mono ?_
  rintro e w1 ⟨v1, rfl, o1, hb01⟩
  have hb1 := bthen hB0 hb01
  obtain ⟨g, d1, rfl, hg, _, hd1⟩ := own_form o1 (by omega)
  have hdm := (own_sl' o1).2.1.max
  have p1 := (own_sl' o1).2.1.preB (m := n0) (by omega)
  rw [roomL_tk b HLb.out] at p1
  have HX1 := Lib.hid (heap_below hx0 hb01)
  have hw1 : w.heap.size ≤ (w.alloc (.cells #[.int .i64 kd, .int .u64 x, .slice ba n0 bc, .slice la ln lc, .int .i64 n, .int .i64 most] 70)).heap.size := hB0.size
  have hgG : g ∉ G := fun hh => by have := hlts _ hh; omega
  have h1 := h.below hb1
  have sb1 := sb.below hb1
  have HO1 := Lib.hid o1
  have d0 := box_cell HX1.out 0 (.int .i64 kd) rfl
  have d1' := box_cell HX1.out 1 (.int .u64 x) rfl
  have d2 := box_cell HX1.out 2 (.slice ba n0 bc) rfl
  have d5 := box_cell HX1.out 5 (.int .i64 most) rfl
  clear hb01 hx0 c2 o1 hsz0
  have hst : Stepped 104 w1 w1 p G (putL l f []) f := ⟨G, by rw [putL_nil]; exact h1, Keep.refl _ _, fun x hx => .inl hx⟩
  rw [← HLF.out.1, ← HLF.out.2] at hst
  clear HLF p1 h1
  obtain ⟨G2, h2, hk2, hG2⟩ := hst.out
  have hx2 := hk2.heap HX1.out hxG
  have o2 := hk2.own HO1.out (fun k hk => by obtain rfl := Option.some.inj hk; exact hgG)
  have sb2 := sb1.keep0 hk2 hba
  have hgG2 : g ∉ G2 := fun hg => by
    rcases hG2 g hg with h | h
    · exact hgG h
    · have := (HO1.out.lt g rfl).2; omega
  have hB2 : Keep G w w1 := (Keep.of_below hb1 G).trans hk2
  have hG0 : ∀ y ∈ G2, y ∈ G ∨ w.heap.size ≤ y := fun y hy => (hG2 y hy).imp id (Nat.le_trans hb1.size)
  clear hst hk2 hG2
  have c2 := box_cell hx2 2 (.slice ba n0 bc) rfl
  have HO2 := Lib.hid o2
  clear hx2 o2 HX1
  go_wp2_with (first | (at_builtin; refine Stopped.out ?_) | (at_make; refine Stopped.out ?_))
  refine (roomy09 _ sb2 (by omega)).mono ?_
  rintro e w3 ⟨v3, rfl, o3, hb3⟩
  obtain ⟨A3, d3, rfl, s3, _⟩ := own_sl o3
  have o23 := own_below HO2.out hb3
  have s23 := (own_sl' o23).2.1
  have HO3 := Lib.hid o23
  clear HO2 c2 o3 o23
  go_wp2_with (first | (at_builtin; refine Stopped.out ?_) | (at_make; refine Stopped.out ?_))
  refine (same09 _ s23 s3).mono ?_
  rintro e w4 ⟨rfl, hd⟩
  rw [decide_eq_true rfl]
  have hb4 := bthen hb3 hd.below
  have h4 := h2.below hb4
  have HO4 := Lib.hid (own_below HO3.out hd.below)
  have hB4 : Keep G w w4 := hB2.trans' (Keep.of_below hb4 []) (by simp)
  clear HO3 s23 s3 hd hb3 hb4 h2 hB2 sb2
  go_wp2_with (first | (at_builtin; refine Stopped.out ?_) | (at_make; refine Stopped.out ?_))
  go_loopw [9] (fun i wr => ∃ (k : Nat) (xs : List Value), k ≤ n0 + 64 ∧ i = .int .i64 k ∧ wr.ownsRow w.heap.size 5 1 (.slice (some ⟨g, 0, none⟩) (n0 + 64) d1) (n0 + 64) xs ∧ Ob 104 wr p G2 L2 F2 ∧ Keep G w wr) (fun i _ => n0 + 64 - (intOf i).toNat)
  case atStart => exact ⟨0, _, by omega, rfl, own_mono HO4.out hw1, h4, hB4⟩
  case round =>
    obtain ⟨k, xs, hk, rfl, hst, hob, hkp⟩ := hrel
    by_cases hlt : k < n0 + 64
    · have hk0 : (0 : Int) ≤ (k : Int) := Int.natCast_nonneg _
      have hk1 : (k : Int) < (n0 : Int) + 64 := by omega
      obtain ⟨v0, hc0⟩ := own_cell hst k (by omega)
      have hf0 := hst.frozenAt k
      have HS := Lib.hid (hst.stored k (.int .u8 0)).1
      have k2 : Keep [g] wr (wr.setCell ⟨g, k, none⟩ (.int .u8 0)) := (Keep.refl [g] wr).setCell (.inl (by simp)) _
      have HN := Lib.hid (And.intro (hob.keep k2 (by intro y hy hy2; simp at hy2; exact hgG2 (hy2 ▸ hy))) (hkp.trans' k2 (by intro y hy; simp at hy; exact .inr (hy ▸ (hst.lt g rfl).1))))
      clear hst hob hkp k2
      go_wp2
      first | go_roundw | refine ⟨?rel, ?measure⟩
      case rel => exact ⟨k + 1, _, by omega, by go_num, HS.out, HN.out.1, HN.out.2⟩
      case measure => simp [intOf]; omega
    · obtain rfl : k = n0 + 64 := by omega
      go_wp2
      go_ret
      exact ⟨rfl, G2, hob, hkp, hG0⟩
end Go.Proofs.Ytdooabbeolfgfaa
