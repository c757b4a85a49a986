import Derived.Test.YtpjmbhhfpoamnaaJn8
set_option linter.unusedVariables false
set_option linter.unusedSimpArgs false
namespace Go.Proofs.Ytpjmbhhfpoamnaa
open Go.RowKit
theorem Decode_at (w : World) {A : Option Addr} {n c : Nat} {l : List UInt8} (h : Sl w 1 A n c (l.map by8)) (hn : n ≤ 140737488351232) (a : Nat) (ha : a ≤ n) (K P E T : Nat) (p : List UInt8) (hK : K = (wholeD (l.drop a)).1.toNat) (hp : p = (wholeD (l.drop a)).2.1) (hP : P = p.length) (hE : E = a + (wholeD (l.drop a)).2.2.1) (hT : T = (wholeD (l.drop a)).2.2.2) :
    Calls Try.prog 46 #[.slice A n c, .int .i64 a] w fun e w' => ∃ g, e = .returned (.tuple #[.agg #[.int .u8 K, .slice (some ⟨g, 0, none⟩) P P], .int .i64 E, .int .i64 T]) ∧ w'.ownsRow w.heap.size 5 1 (.slice (some ⟨g, 0, none⟩) P P) P (p.map by8) ∧ Below w.heap.size w w' := by
  have hl : l.length = n := by simpa using h.len
  refine (Decode_any w h a hn).mono fun e w' ⟨g, he, ho, hb⟩ => ?_
  have hw : wholeF l a = ((wholeD (l.drop a)).1, (wholeD (l.drop a)).2.1, ((E : Nat) : Int), T) := by
    unfold wholeF
    rw [if_neg (by omega), Int.toNat_natCast, hE, hT]
    simp
  rw [hw] at he ho
  subst hK; subst hP; subst hp
  exact ⟨g, he, ho, hb⟩
/-- the rows of a bank's content, made since w -/
structure CtRows (w w' : World) (sv v : Value) (ct : Ct) : Prop where
  out : ∃ (g0 : Nat) (A : Option Addr) (n c : Nat) (p : List UInt8) (vs : List Value), sv = .slice A n c ∧ (∀ ad, A = some ad → ad.block = g0) ∧ Sl w' 1 A n c (ct.snap.map by8) ∧ w'.ownsRow w.heap.size 5 1 (.slice (some ⟨g0, 0, none⟩) p.length p.length) p.length (p.map by8) ∧
    w'.ownsRow w.heap.size 22 1 v ct.recs.length vs ∧ ∀ (i : Nat) (r : List UInt8), ct.recs[i]? = some r → ∃ gi, vs[i]? = some (.slice (some ⟨gi, 0, none⟩) r.length r.length) ∧ w'.ownsRow w.heap.size 5 1 (.slice (some ⟨gi, 0, none⟩) r.length r.length) r.length (r.map by8)
def ReadP (w : World) (b : List UInt8) (e : Ending) (w' : World) : Prop :=
  ∃ (ep gd : Int) (sv v : Value), e = .returned (.tuple #[.agg #[.int .i64 ep, sv, v, .int .i64 gd], .bool (readB b).isSome]) ∧ Below w.heap.size w w' ∧ (∃ A n c, sv = .slice A n c) ∧ (∃ A n c, v = .slice A n c) ∧ ∀ ct, readB b = some ct → ep = ct.epoch ∧ gd = ct.good ∧ CtRows w w' sv v ct
theorem ReadP.no {w w' : World} {b : List UInt8} (h : readB b = none) (hb : Below w.heap.size w w') : ReadP w b (.returned (.tuple #[.agg #[.int .i64 0, .slice none 0 0, .slice none 0 0, .int .i64 0], .bool false])) w' :=
  ⟨0, 0, _, _, by rw [h]; rfl, hb, ⟨_, _, _, rfl⟩, ⟨_, _, _, rfl⟩, fun ct hc => by rw [h] at hc; cases hc⟩
theorem results_c2r {P : Program} {fn : Func} {p u : Tmp} {ty : TypeId} (h : fn.results = #[.cell p ty, .tmp u]) (tmps : Array Value) (w : World) (g : Nat) (t : TypeId) (cs : Array Value) (fr : Nat × Nat) (d : TypeDesc)
    (hp : tmps.getD p undef = .pointer (some ⟨g, 0, none⟩)) (hg : w.heap[g]? = some (.cells cs t fr))
    (hu : P.underlying ty = some d) (hd : (match d with | .struct _ | .array _ _ => true | _ => false) = true) (hi : (P.info? ty).map (·.size) = some cs.size) :
    (results fn tmps).run P w = .ok (.tuple #[.agg cs, tmps.getD u undef]) w := by
  have hp' : tmps[p]?.getD undef = .pointer (some ⟨g, 0, none⟩) := by simpa using hp
  simp [results, h, hp', asAddr, run_loadVar_row w g t ty cs fr d hg hu hd hi]
theorem set4 {w : World} {g : Nat} {T : TypeId} {u0 u1 u2 u3 : Value} (v0 v1 v2 v3 : Value) (h : w.heap[g]? = some (.cells #[u0, u1, u2, u3] T (0, 0))) :
    ((((w.setCell ⟨g, 0, none⟩ v0).setCell ⟨g, 1, none⟩ v1).setCell ⟨g, 2, none⟩ v2).setCell ⟨g, 3, none⟩ v3).heap[g]? = some (.cells #[v0, v1, v2, v3] T (0, 0)) ∧ Keep [g] w ((((w.setCell ⟨g, 0, none⟩ v0).setCell ⟨g, 1, none⟩ v1).setCell ⟨g, 2, none⟩ v2).setCell ⟨g, 3, none⟩ v3) :=
  ⟨heap_setCell_same _ g 3 _ _ _ (heap_setCell_same _ g 2 _ _ _ (heap_setCell_same _ g 1 _ _ _ (heap_setCell_same _ g 0 _ _ _ h))), ((((Keep.refl [g] w).setCell (p := ⟨g, 0, none⟩) (.inl (by simp)) _).setCell (p := ⟨g, 1, none⟩) (.inl (by simp)) _).setCell (p := ⟨g, 2, none⟩) (.inl (by simp)) _).setCell (p := ⟨g, 3, none⟩) (.inl (by simp)) _⟩
set_option maxRecDepth 100000 in
set_option maxHeartbeats 1600000 in
theorem read_no_e (w : World) {A : Option Addr} {n c : Nat} {l : List UInt8} (h : Sl w 1 A n c (l.map by8)) (hn : n ≤ 140737488351232) (hx : (wholeD l).2.2.1 = 0) :
    Calls Try.prog 103 #[.slice A n c] w (ReadP w l) := by
  have hl : l.length = n := by simpa using h.len
  obtain ⟨W0, hW0⟩ : ∃ W0, W0 = w.alloc (.cells #[.int .i64 0, .slice none 0 0, .slice none 0 0, .int .i64 0] 162) := ⟨_, rfl⟩
  have hb0 : Below w.heap.size w W0 := by rw [hW0]; exact (Below.refl _ w).alloc (Nat.le_refl _) _
  have z0 : W0.heap[w.heap.size]? = some (.cells #[.int .i64 0, .slice none 0 0, .slice none 0 0, .int .i64 0] 162 (0, 0)) := by rw [hW0]; exact heap_alloc_new w _
  obtain ⟨p, hp⟩ : ∃ p, p = (wholeD l).2.1 := ⟨_, rfl⟩
  obtain ⟨K, hK⟩ : ∃ K, K = (wholeD l).1.toNat := ⟨_, rfl⟩
  obtain ⟨P, hP⟩ : ∃ P, P = p.length := ⟨_, rfl⟩
  obtain ⟨E, hE⟩ : ∃ E, E = (wholeD l).2.2.1 := ⟨_, rfl⟩
  obtain ⟨T, hT⟩ : ∃ T, T = (wholeD l).2.2.2 := ⟨_, rfl⟩
  have HD : Hid (Calls Try.prog 46 #[.slice A n c, .int .i64 0] W0 fun e w' => ∃ g, e = .returned (.tuple #[.agg #[.int .u8 K, .slice (some ⟨g, 0, none⟩) P P], .int .i64 E, .int .i64 T]) ∧ w'.ownsRow W0.heap.size 5 1 (.slice (some ⟨g, 0, none⟩) P P) P (p.map by8) ∧ Below W0.heap.size W0 w') := Lib.hid (Decode_at W0 (h.below hb0) hn 0 (Nat.zero_le _) K P E T p hK hp hP (by simpa using hE) hT)
  have HNo : Hid (readB l = none) := Lib.hid (by rw [readB, if_neg (fun hh => hh.1.1 hx)])
  have q1 : ((E : Int) == 0) = true := by rw [hE, hx]; rfl
  clear hl h hp hK hP hE hT
  go_enter Try.func103, Try.ntmps103
  go_wp2_with (rw [← hW0])
  clear hW0
  refine HD.out.mono ?_
  rintro e w1 ⟨g, rfl, o1, hb1⟩
  clear HD
  obtain ⟨W2, hW2⟩ : ∃ W2, W2 = w1.alloc (.cells #[.int .u8 K, .slice (some ⟨g, 0, none⟩) P P] 70) := ⟨_, rfl⟩
  have hb2 : Below w1.heap.size w1 W2 := by rw [hW2]; exact (Below.refl _ w1).alloc (Nat.le_refl _) _
  have z1 : W2.heap[w.heap.size]? = some (.cells #[.int .i64 0, .slice none 0 0, .slice none 0 0, .int .i64 0] 162 (0, 0)) := heap_below (heap_below z0 hb1) hb2
  have zf : W2.heap[w1.heap.size]? = some (.cells #[.int .u8 K, .slice (some ⟨g, 0, none⟩) P P] 70 (0, 0)) := by rw [hW2]; exact heap_alloc_new w1 _
  have zz := set4 (.int .i64 0) (.slice none 0 0) (.slice none 0 0) (.int .i64 0) z1
  have y0 : W2.cell? ⟨w.heap.size, 0, none⟩ = some (.int .i64 0) := box_cell z1 0 _ rfl
  have yf0 := box_free z1 0
  have y1 : W2.cell? ⟨w.heap.size, 1, none⟩ = some (.slice none 0 0) := box_cell z1 1 _ rfl
  have yf1 := box_free z1 1
  have y2 : W2.cell? ⟨w.heap.size, 2, none⟩ = some (.slice none 0 0) := box_cell z1 2 _ rfl
  have yf2 := box_free z1 2
  have y3 : W2.cell? ⟨w.heap.size, 3, none⟩ = some (.int .i64 0) := box_cell z1 3 _ rfl
  have yf3 := box_free z1 3
  have x0 : W2.cell? ⟨w1.heap.size, 0, none⟩ = some (.int .u8 K) := box_cell zf 0 _ rfl
  have x1 : W2.cell? ⟨w1.heap.size, 1, none⟩ = some (.slice (some ⟨g, 0, none⟩) P P) := box_cell zf 1 _ rfl
  have HW2 := Lib.hid hW2
  have HB := Lib.hid (bthen hb0 (bthen hb1 hb2))
  have hsz := hb1.size
  clear z0 z1 zf hW2 hb0 hb1 hb2 o1
  go_wp2_with (rw [← HW2.out])
  refine bodyPost_ret (results_c2r (P := Try.prog) rfl _ _ _ _ _ _ _ (by rfl) zz.1 Try.underlying162 rfl (by kernel_rfl)) rfl ?_
  exact ReadP.no HNo.out (zz.2.below HB.out HB.out.size (by simp))
set_option maxRecDepth 100000 in
set_option maxHeartbeats 1600000 in
theorem read_no_t (w : World) {A : Option Addr} {n c : Nat} {l : List UInt8} (h : Sl w 1 A n c (l.map by8)) (hn : n ≤ 140737488351232) (hx : (wholeD l).2.2.1 ≠ 0) (ht : (wholeD l).2.2.2 ≠ 0) :
    Calls Try.prog 103 #[.slice A n c] w (ReadP w l) := by
  have hl : l.length = n := by simpa using h.len
  obtain ⟨W0, hW0⟩ : ∃ W0, W0 = w.alloc (.cells #[.int .i64 0, .slice none 0 0, .slice none 0 0, .int .i64 0] 162) := ⟨_, rfl⟩
  have hb0 : Below w.heap.size w W0 := by rw [hW0]; exact (Below.refl _ w).alloc (Nat.le_refl _) _
  have z0 : W0.heap[w.heap.size]? = some (.cells #[.int .i64 0, .slice none 0 0, .slice none 0 0, .int .i64 0] 162 (0, 0)) := by rw [hW0]; exact heap_alloc_new w _
  obtain ⟨p, hp⟩ : ∃ p, p = (wholeD l).2.1 := ⟨_, rfl⟩
  obtain ⟨K, hK⟩ : ∃ K, K = (wholeD l).1.toNat := ⟨_, rfl⟩
  obtain ⟨P, hP⟩ : ∃ P, P = p.length := ⟨_, rfl⟩
  obtain ⟨E, hE⟩ : ∃ E, E = (wholeD l).2.2.1 := ⟨_, rfl⟩
  obtain ⟨T, hT⟩ : ∃ T, T = (wholeD l).2.2.2 := ⟨_, rfl⟩
  have HD : Hid (Calls Try.prog 46 #[.slice A n c, .int .i64 0] W0 fun e w' => ∃ g, e = .returned (.tuple #[.agg #[.int .u8 K, .slice (some ⟨g, 0, none⟩) P P], .int .i64 E, .int .i64 T]) ∧ w'.ownsRow W0.heap.size 5 1 (.slice (some ⟨g, 0, none⟩) P P) P (p.map by8) ∧ Below W0.heap.size W0 w') := Lib.hid (Decode_at W0 (h.below hb0) hn 0 (Nat.zero_le _) K P E T p hK hp hP (by simpa using hE) hT)
  have HNo : Hid (readB l = none) := Lib.hid (by rw [readB, if_neg (fun hh => ht hh.1.2.1)])
  have q1 : ((E : Int) == 0) = false := by simp; omega
  have q2 : ((T : Int) != 0) = true := by simp; omega
  clear hl h hp hK hP hE hT
  go_enter Try.func103, Try.ntmps103
  go_wp2_with (rw [← hW0])
  clear hW0
  refine HD.out.mono ?_
  rintro e w1 ⟨g, rfl, o1, hb1⟩
  clear HD
  obtain ⟨W2, hW2⟩ : ∃ W2, W2 = w1.alloc (.cells #[.int .u8 K, .slice (some ⟨g, 0, none⟩) P P] 70) := ⟨_, rfl⟩
  have hb2 : Below w1.heap.size w1 W2 := by rw [hW2]; exact (Below.refl _ w1).alloc (Nat.le_refl _) _
  have z1 : W2.heap[w.heap.size]? = some (.cells #[.int .i64 0, .slice none 0 0, .slice none 0 0, .int .i64 0] 162 (0, 0)) := heap_below (heap_below z0 hb1) hb2
  have zf : W2.heap[w1.heap.size]? = some (.cells #[.int .u8 K, .slice (some ⟨g, 0, none⟩) P P] 70 (0, 0)) := by rw [hW2]; exact heap_alloc_new w1 _
  have zz := set4 (.int .i64 0) (.slice none 0 0) (.slice none 0 0) (.int .i64 0) z1
  have y0 : W2.cell? ⟨w.heap.size, 0, none⟩ = some (.int .i64 0) := box_cell z1 0 _ rfl
  have yf0 := box_free z1 0
  have y1 : W2.cell? ⟨w.heap.size, 1, none⟩ = some (.slice none 0 0) := box_cell z1 1 _ rfl
  have yf1 := box_free z1 1
  have y2 : W2.cell? ⟨w.heap.size, 2, none⟩ = some (.slice none 0 0) := box_cell z1 2 _ rfl
  have yf2 := box_free z1 2
  have y3 : W2.cell? ⟨w.heap.size, 3, none⟩ = some (.int .i64 0) := box_cell z1 3 _ rfl
  have yf3 := box_free z1 3
  have x0 : W2.cell? ⟨w1.heap.size, 0, none⟩ = some (.int .u8 K) := box_cell zf 0 _ rfl
  have x1 : W2.cell? ⟨w1.heap.size, 1, none⟩ = some (.slice (some ⟨g, 0, none⟩) P P) := box_cell zf 1 _ rfl
  have HW2 := Lib.hid hW2
  have HB := Lib.hid (bthen hb0 (bthen hb1 hb2))
  have hsz := hb1.size
  clear z0 z1 zf hW2 hb0 hb1 hb2 o1
  go_wp2_with (rw [← HW2.out])
  refine bodyPost_ret (results_c2r (P := Try.prog) rfl _ _ _ _ _ _ _ (by rfl) zz.1 Try.underlying162 rfl (by kernel_rfl)) rfl ?_
  exact ReadP.no HNo.out (zz.2.below HB.out HB.out.size (by simp))
set_option maxRecDepth 100000 in
set_option maxHeartbeats 1600000 in
theorem read_no_k (w : World) {A : Option Addr} {n c : Nat} {l : List UInt8} (h : Sl w 1 A n c (l.map by8)) (hn : n ≤ 140737488351232) (hx : (wholeD l).2.2.1 ≠ 0) (ht : (wholeD l).2.2.2 = 0) (hk : (wholeD l).1 ≠ 72) :
    Calls Try.prog 103 #[.slice A n c] w (ReadP w l) := by
  have hl : l.length = n := by simpa using h.len
  obtain ⟨W0, hW0⟩ : ∃ W0, W0 = w.alloc (.cells #[.int .i64 0, .slice none 0 0, .slice none 0 0, .int .i64 0] 162) := ⟨_, rfl⟩
  have hb0 : Below w.heap.size w W0 := by rw [hW0]; exact (Below.refl _ w).alloc (Nat.le_refl _) _
  have z0 : W0.heap[w.heap.size]? = some (.cells #[.int .i64 0, .slice none 0 0, .slice none 0 0, .int .i64 0] 162 (0, 0)) := by rw [hW0]; exact heap_alloc_new w _
  obtain ⟨p, hp⟩ : ∃ p, p = (wholeD l).2.1 := ⟨_, rfl⟩
  obtain ⟨K, hK⟩ : ∃ K, K = (wholeD l).1.toNat := ⟨_, rfl⟩
  obtain ⟨P, hP⟩ : ∃ P, P = p.length := ⟨_, rfl⟩
  obtain ⟨E, hE⟩ : ∃ E, E = (wholeD l).2.2.1 := ⟨_, rfl⟩
  obtain ⟨T, hT⟩ : ∃ T, T = (wholeD l).2.2.2 := ⟨_, rfl⟩
  have HD : Hid (Calls Try.prog 46 #[.slice A n c, .int .i64 0] W0 fun e w' => ∃ g, e = .returned (.tuple #[.agg #[.int .u8 K, .slice (some ⟨g, 0, none⟩) P P], .int .i64 E, .int .i64 T]) ∧ w'.ownsRow W0.heap.size 5 1 (.slice (some ⟨g, 0, none⟩) P P) P (p.map by8) ∧ Below W0.heap.size W0 w') := Lib.hid (Decode_at W0 (h.below hb0) hn 0 (Nat.zero_le _) K P E T p hK hp hP (by simpa using hE) hT)
  have HNo : Hid (readB l = none) := Lib.hid (by rw [readB, if_neg (fun hh => hk hh.1.2.2.1)])
  have q1 : ((E : Int) == 0) = false := by simp; omega
  have q2 : ((T : Int) != 0) = false := by simp; omega
  have hk2 : K ≠ 72 := fun e => hk (UInt8.toNat_inj.1 (by rw [← hK, e]; rfl))
  have q3 : ((K : Int) != 72) = true := by simp; omega
  clear hl h hp hK hP hE hT
  go_enter Try.func103, Try.ntmps103
  go_wp2_with (rw [← hW0])
  clear hW0
  refine HD.out.mono ?_
  rintro e w1 ⟨g, rfl, o1, hb1⟩
  clear HD
  obtain ⟨W2, hW2⟩ : ∃ W2, W2 = w1.alloc (.cells #[.int .u8 K, .slice (some ⟨g, 0, none⟩) P P] 70) := ⟨_, rfl⟩
  have hb2 : Below w1.heap.size w1 W2 := by rw [hW2]; exact (Below.refl _ w1).alloc (Nat.le_refl _) _
  have z1 : W2.heap[w.heap.size]? = some (.cells #[.int .i64 0, .slice none 0 0, .slice none 0 0, .int .i64 0] 162 (0, 0)) := heap_below (heap_below z0 hb1) hb2
  have zf : W2.heap[w1.heap.size]? = some (.cells #[.int .u8 K, .slice (some ⟨g, 0, none⟩) P P] 70 (0, 0)) := by rw [hW2]; exact heap_alloc_new w1 _
  have zz := set4 (.int .i64 0) (.slice none 0 0) (.slice none 0 0) (.int .i64 0) z1
  have y0 : W2.cell? ⟨w.heap.size, 0, none⟩ = some (.int .i64 0) := box_cell z1 0 _ rfl
  have yf0 := box_free z1 0
  have y1 : W2.cell? ⟨w.heap.size, 1, none⟩ = some (.slice none 0 0) := box_cell z1 1 _ rfl
  have yf1 := box_free z1 1
  have y2 : W2.cell? ⟨w.heap.size, 2, none⟩ = some (.slice none 0 0) := box_cell z1 2 _ rfl
  have yf2 := box_free z1 2
  have y3 : W2.cell? ⟨w.heap.size, 3, none⟩ = some (.int .i64 0) := box_cell z1 3 _ rfl
  have yf3 := box_free z1 3
  have x0 : W2.cell? ⟨w1.heap.size, 0, none⟩ = some (.int .u8 K) := box_cell zf 0 _ rfl
  have x1 : W2.cell? ⟨w1.heap.size, 1, none⟩ = some (.slice (some ⟨g, 0, none⟩) P P) := box_cell zf 1 _ rfl
  have HW2 := Lib.hid hW2
  have HB := Lib.hid (bthen hb0 (bthen hb1 hb2))
  have hsz := hb1.size
  clear z0 z1 zf hW2 hb0 hb1 hb2 o1
  go_wp2_with (rw [← HW2.out])
  refine bodyPost_ret (results_c2r (P := Try.prog) rfl _ _ _ _ _ _ _ (by rfl) zz.1 Try.underlying162 rfl (by kernel_rfl)) rfl ?_
  exact ReadP.no HNo.out (zz.2.below HB.out HB.out.size (by simp))
set_option maxRecDepth 100000 in
set_option maxHeartbeats 1600000 in
theorem read_no_l (w : World) {A : Option Addr} {n c : Nat} {l : List UInt8} (h : Sl w 1 A n c (l.map by8)) (hn : n ≤ 140737488351232) (hx : (wholeD l).2.2.1 ≠ 0) (ht : (wholeD l).2.2.2 = 0) (hk : (wholeD l).1 = 72) (hp12 : (wholeD l).2.1.length < 12) :
    Calls Try.prog 103 #[.slice A n c] w (ReadP w l) := by
  have hl : l.length = n := by simpa using h.len
  obtain ⟨W0, hW0⟩ : ∃ W0, W0 = w.alloc (.cells #[.int .i64 0, .slice none 0 0, .slice none 0 0, .int .i64 0] 162) := ⟨_, rfl⟩
  have hb0 : Below w.heap.size w W0 := by rw [hW0]; exact (Below.refl _ w).alloc (Nat.le_refl _) _
  have z0 : W0.heap[w.heap.size]? = some (.cells #[.int .i64 0, .slice none 0 0, .slice none 0 0, .int .i64 0] 162 (0, 0)) := by rw [hW0]; exact heap_alloc_new w _
  obtain ⟨p, hp⟩ : ∃ p, p = (wholeD l).2.1 := ⟨_, rfl⟩
  obtain ⟨K, hK⟩ : ∃ K, K = (wholeD l).1.toNat := ⟨_, rfl⟩
  obtain ⟨P, hP⟩ : ∃ P, P = p.length := ⟨_, rfl⟩
  obtain ⟨E, hE⟩ : ∃ E, E = (wholeD l).2.2.1 := ⟨_, rfl⟩
  obtain ⟨T, hT⟩ : ∃ T, T = (wholeD l).2.2.2 := ⟨_, rfl⟩
  have HD : Hid (Calls Try.prog 46 #[.slice A n c, .int .i64 0] W0 fun e w' => ∃ g, e = .returned (.tuple #[.agg #[.int .u8 K, .slice (some ⟨g, 0, none⟩) P P], .int .i64 E, .int .i64 T]) ∧ w'.ownsRow W0.heap.size 5 1 (.slice (some ⟨g, 0, none⟩) P P) P (p.map by8) ∧ Below W0.heap.size W0 w') := Lib.hid (Decode_at W0 (h.below hb0) hn 0 (Nat.zero_le _) K P E T p hK hp hP (by simpa using hE) hT)
  have HNo : Hid (readB l = none) := Lib.hid (by rw [readB, if_neg (fun hh => Nat.not_lt.2 hh.1.2.2.2.1 hp12)])
  have q1 : ((E : Int) == 0) = false := by simp; omega
  have q2 : ((T : Int) != 0) = false := by simp; omega
  have hk2 : K = 72 := by rw [hK, hk]; rfl
  have q3 : ((K : Int) != 72) = false := by simp; omega
  have q4 : (P : Int) < 12 := by rw [hP, hp]; omega
  clear hk2
  clear hl h hp hK hP hE hT
  go_enter Try.func103, Try.ntmps103
  go_wp2_with (rw [← hW0])
  clear hW0
  refine HD.out.mono ?_
  rintro e w1 ⟨g, rfl, o1, hb1⟩
  clear HD
  obtain ⟨W2, hW2⟩ : ∃ W2, W2 = w1.alloc (.cells #[.int .u8 K, .slice (some ⟨g, 0, none⟩) P P] 70) := ⟨_, rfl⟩
  have hb2 : Below w1.heap.size w1 W2 := by rw [hW2]; exact (Below.refl _ w1).alloc (Nat.le_refl _) _
  have z1 : W2.heap[w.heap.size]? = some (.cells #[.int .i64 0, .slice none 0 0, .slice none 0 0, .int .i64 0] 162 (0, 0)) := heap_below (heap_below z0 hb1) hb2
  have zf : W2.heap[w1.heap.size]? = some (.cells #[.int .u8 K, .slice (some ⟨g, 0, none⟩) P P] 70 (0, 0)) := by rw [hW2]; exact heap_alloc_new w1 _
  have zz := set4 (.int .i64 0) (.slice none 0 0) (.slice none 0 0) (.int .i64 0) z1
  have y0 : W2.cell? ⟨w.heap.size, 0, none⟩ = some (.int .i64 0) := box_cell z1 0 _ rfl
  have yf0 := box_free z1 0
  have y1 : W2.cell? ⟨w.heap.size, 1, none⟩ = some (.slice none 0 0) := box_cell z1 1 _ rfl
  have yf1 := box_free z1 1
  have y2 : W2.cell? ⟨w.heap.size, 2, none⟩ = some (.slice none 0 0) := box_cell z1 2 _ rfl
  have yf2 := box_free z1 2
  have y3 : W2.cell? ⟨w.heap.size, 3, none⟩ = some (.int .i64 0) := box_cell z1 3 _ rfl
  have yf3 := box_free z1 3
  have x0 : W2.cell? ⟨w1.heap.size, 0, none⟩ = some (.int .u8 K) := box_cell zf 0 _ rfl
  have x1 : W2.cell? ⟨w1.heap.size, 1, none⟩ = some (.slice (some ⟨g, 0, none⟩) P P) := box_cell zf 1 _ rfl
  have HW2 := Lib.hid hW2
  have HB := Lib.hid (bthen hb0 (bthen hb1 hb2))
  have hsz := hb1.size
  clear z0 z1 zf hW2 hb0 hb1 hb2 o1
  go_wp2_with (rw [← HW2.out])
  refine bodyPost_ret (results_c2r (P := Try.prog) rfl _ _ _ _ _ _ _ (by rfl) zz.1 Try.underlying162 rfl (by kernel_rfl)) rfl ?_
  exact ReadP.no HNo.out (zz.2.below HB.out HB.out.size (by simp))
end Go.Proofs.Ytpjmbhhfpoamnaa
