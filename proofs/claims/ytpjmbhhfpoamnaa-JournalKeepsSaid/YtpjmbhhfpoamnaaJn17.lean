import Derived.Test.YtpjmbhhfpoamnaaJn16
set_option linter.unusedVariables false
set_option linter.unusedSimpArgs false
namespace Go.Proofs.Ytpjmbhhfpoamnaa
open Go.RowKit
theorem CtRows.keep {W w1 w2 : World} {sv v : Value} {c : Ct} {M : List Nat} (h : CtRows W w1 sv v c) (k : Keep M w1 w2) (hM : ∀ x ∈ M, x < W.heap.size) : CtRows W w2 sv v c := by
  obtain ⟨g0, A, n, cp, p, vs, rfl, hA, hS, hp, hrow, hr⟩ := h.out
  have ko : ∀ {T sz n : Nat} {u : Value} {xs : List Value}, w1.ownsRow W.heap.size T sz u n xs → w2.ownsRow W.heap.size T sz u n xs := fun {T sz n u xs} o => k.own o (fun b hb hx => by have h1 := (o.lt b hb).1; have h2 := hM b hx; omega)
  exact ⟨⟨g0, A, n, cp, p, vs, rfl, hA, hS.keep k (fun ad e hx => by rw [hA ad e] at hx; have h1 := (hp.lt g0 rfl).1; have h2 := hM _ hx; omega), ko hp, ko hrow, fun i r hi => let ⟨gi, h1, h2⟩ := hr i r hi; ⟨gi, h1, ko h2⟩⟩⟩
theorem CtRows.base {W W' w1 : World} {sv v : Value} {c : Ct} (h : CtRows W w1 sv v c) (hb : W'.heap.size ≤ W.heap.size) : CtRows W' w1 sv v c := by
  obtain ⟨g0, A, n, cp, p, vs, rfl, hA, hS, hp, hrow, hr⟩ := h.out
  exact ⟨⟨g0, A, n, cp, p, vs, rfl, hA, hS, own_mono hp hb, own_mono hrow hb, fun i r hi => let ⟨gi, h1, h2⟩ := hr i r hi; ⟨gi, h1, own_mono h2 hb⟩⟩⟩
/-- a bank that has been read: its content's cells, headed?, its length -/
structure RV (W wr : World) (b : List UInt8) (a0 a1 a2 a3 h l : Value) : Prop where
  out : ∃ (ep gd : Int) (A : Option Addr) (n c : Nat) (A2 : Option Addr) (n2 c2 : Nat), a0 = .int .i64 ep ∧ a1 = .slice A n c ∧ a2 = .slice A2 n2 c2 ∧ a3 = .int .i64 gd ∧ h = .bool (readB b).isSome ∧ l = .int .i64 b.length ∧ ∀ ct, readB b = some ct → ep = ct.epoch ∧ gd = ct.good ∧ CtRows W wr a1 a2 ct
theorem RV.keep {W w1 w2 : World} {b : List UInt8} {a0 a1 a2 a3 h l : Value} {M : List Nat} (hr : RV W w1 b a0 a1 a2 a3 h l) (k : Keep M w1 w2) (hM : ∀ x ∈ M, x < W.heap.size) : RV W w2 b a0 a1 a2 a3 h l := by
  obtain ⟨ep, gd, A, n, c, A2, n2, c2, h1, h2, h3, h4, h5, h6, h7⟩ := hr.out
  exact ⟨ep, gd, A, n, c, A2, n2, c2, h1, h2, h3, h4, h5, h6, fun ct hct => let ⟨q1, q2, q3⟩ := h7 ct hct; ⟨q1, q2, q3.keep k hM⟩⟩
/-- Open's variables -/
structure OpB (wr : World) (B0 B1 B2 B3 : Nat) (a0 a1 a2 a3 b0 b1 b2 b3 h0 h1 l0 l1 : Value) : Prop where
  z : wr.heap[B0]? = some (.cells #[.int .i64 0, .slice none 0 0, .slice none 0 0, .int .i64 0] 100 (0, 0))
  all : wr.heap[B1]? = some (.cells #[a0, a1, a2, a3, b0, b1, b2, b3] 163 (0, 0))
  hd : wr.heap[B2]? = some (.cells #[h0, h1] 164 (0, 0))
  ln : wr.heap[B3]? = some (.cells #[l0, l1] 165 (0, 0))
theorem OpB.below {wr w' : World} {B0 B1 B2 B3 : Nat} {a0 a1 a2 a3 b0 b1 b2 b3 h0 h1 l0 l1 : Value} (h : OpB wr B0 B1 B2 B3 a0 a1 a2 a3 b0 b1 b2 b3 h0 h1 l0 l1) (k : Below wr.heap.size wr w') : OpB w' B0 B1 B2 B3 a0 a1 a2 a3 b0 b1 b2 b3 h0 h1 l0 l1 :=
  ⟨heap_below h.z k, heap_below h.all k, heap_below h.hd k, heap_below h.ln k⟩
theorem alloc4 (w : World) (o0 o1 o2 o3 : Obj) : ((((w.alloc o0).alloc o1).alloc o2).alloc o3).heap[w.heap.size]? = some o0 ∧ ((((w.alloc o0).alloc o1).alloc o2).alloc o3).heap[w.heap.size + 1]? = some o1 ∧ ((((w.alloc o0).alloc o1).alloc o2).alloc o3).heap[w.heap.size + 1 + 1]? = some o2 ∧ ((((w.alloc o0).alloc o1).alloc o2).alloc o3).heap[w.heap.size + 1 + 1 + 1]? = some o3 := by
  have e0 := heap_alloc_new w o0
  have e1 := heap_alloc_new (w.alloc o0) o1
  have e2 := heap_alloc_new ((w.alloc o0).alloc o1) o2
  have e3 := heap_alloc_new (((w.alloc o0).alloc o1).alloc o2) o3
  have b1 : ∀ (V : World) (o : Obj), Below V.heap.size V (V.alloc o) := fun V o => (Below.refl _ V).alloc (Nat.le_refl _) o
  simp only [World.size_alloc] at e1 e2 e3
  exact ⟨heap_below (heap_below (heap_below e0 (b1 _ _)) (b1 _ _)) (b1 _ _), heap_below (heap_below e1 (b1 _ _)) (b1 _ _), heap_below e2 (b1 _ _), e3⟩
theorem OpB.set0 {wb : World} {B0 B1 B2 B3 : Nat} {a0 a1 a2 a3 b0 b1 b2 b3 h0 h1 l0 l1 : Value} (h : OpB wb B0 B1 B2 B3 a0 a1 a2 a3 b0 b1 b2 b3 h0 h1 l0 l1) (hB : B0 < B1 ∧ B1 < B2 ∧ B2 < B3) (c0 c1 c2 c3 hh ll : Value) :
    OpB ((((((wb.setCell ⟨B1, 0, none⟩ c0).setCell ⟨B1, 1, none⟩ c1).setCell ⟨B1, 2, none⟩ c2).setCell ⟨B1, 3, none⟩ c3).setCell ⟨B2, 0, none⟩ hh).setCell ⟨B3, 0, none⟩ ll) B0 B1 B2 B3 c0 c1 c2 c3 b0 b1 b2 b3 hh h1 ll l1 ∧ Keep [B1, B2, B3] wb ((((((wb.setCell ⟨B1, 0, none⟩ c0).setCell ⟨B1, 1, none⟩ c1).setCell ⟨B1, 2, none⟩ c2).setCell ⟨B1, 3, none⟩ c3).setCell ⟨B2, 0, none⟩ hh).setCell ⟨B3, 0, none⟩ ll) := by
  have k1 := (((((Keep.refl [B1] wb).setCell (p := ⟨B1, 0, none⟩) (.inl (by simp)) c0).setCell (p := ⟨B1, 1, none⟩) (.inl (by simp)) c1).setCell (p := ⟨B1, 2, none⟩) (.inl (by simp)) c2).setCell (p := ⟨B1, 3, none⟩) (.inl (by simp)) c3)
  have z1 := heap_setCell_same _ B1 3 _ _ c3 (heap_setCell_same _ B1 2 _ _ c2 (heap_setCell_same _ B1 1 _ _ c1 (heap_setCell_same _ B1 0 _ _ c0 h.all)))
  obtain ⟨W1, hW1⟩ : ∃ W1, W1 = ((((wb.setCell ⟨B1, 0, none⟩ c0).setCell ⟨B1, 1, none⟩ c1).setCell ⟨B1, 2, none⟩ c2).setCell ⟨B1, 3, none⟩ c3) := ⟨_, rfl⟩
  rw [← hW1] at k1 z1 ⊢
  have k2 : Keep [B2] W1 (W1.setCell ⟨B2, 0, none⟩ hh) := (Keep.refl [B2] W1).setCell (p := ⟨B2, 0, none⟩) (.inl (by simp)) hh
  have z2 := heap_setCell_same W1 B2 0 _ _ hh (k1.heap h.hd (by simp; omega))
  have k3 : Keep [B3] (W1.setCell ⟨B2, 0, none⟩ hh) ((W1.setCell ⟨B2, 0, none⟩ hh).setCell ⟨B3, 0, none⟩ ll) := (Keep.refl [B3] _).setCell (p := ⟨B3, 0, none⟩) (.inl (by simp)) ll
  have z3 := heap_setCell_same (W1.setCell ⟨B2, 0, none⟩ hh) B3 0 _ _ ll (k2.heap (k1.heap h.ln (by simp; omega)) (by simp; omega))
  refine ⟨⟨k3.heap (k2.heap (k1.heap h.z (by simp; omega)) (by simp; omega)) (by simp; omega), k3.heap (k2.heap z1 (by simp; omega)) (by simp; omega), k3.heap z2 (by simp; omega), z3⟩, ?_⟩
  exact ((k1.mono (by intro x hx; simp at hx; simp [hx])).trans (k2.mono (by intro x hx; simp at hx; simp [hx]))).trans (k3.mono (by intro x hx; simp at hx; simp [hx]))
theorem OpB.set1 {wb : World} {B0 B1 B2 B3 : Nat} {a0 a1 a2 a3 b0 b1 b2 b3 h0 h1 l0 l1 : Value} (h : OpB wb B0 B1 B2 B3 a0 a1 a2 a3 b0 b1 b2 b3 h0 h1 l0 l1) (hB : B0 < B1 ∧ B1 < B2 ∧ B2 < B3) (c0 c1 c2 c3 hh ll : Value) :
    OpB ((((((wb.setCell ⟨B1, 4, none⟩ c0).setCell ⟨B1, 5, none⟩ c1).setCell ⟨B1, 6, none⟩ c2).setCell ⟨B1, 7, none⟩ c3).setCell ⟨B2, 1, none⟩ hh).setCell ⟨B3, 1, none⟩ ll) B0 B1 B2 B3 a0 a1 a2 a3 c0 c1 c2 c3 h0 hh l0 ll ∧ Keep [B1, B2, B3] wb ((((((wb.setCell ⟨B1, 4, none⟩ c0).setCell ⟨B1, 5, none⟩ c1).setCell ⟨B1, 6, none⟩ c2).setCell ⟨B1, 7, none⟩ c3).setCell ⟨B2, 1, none⟩ hh).setCell ⟨B3, 1, none⟩ ll) := by
  have k1 := (((((Keep.refl [B1] wb).setCell (p := ⟨B1, 4, none⟩) (.inl (by simp)) c0).setCell (p := ⟨B1, 5, none⟩) (.inl (by simp)) c1).setCell (p := ⟨B1, 6, none⟩) (.inl (by simp)) c2).setCell (p := ⟨B1, 7, none⟩) (.inl (by simp)) c3)
  have z1 := heap_setCell_same _ B1 7 _ _ c3 (heap_setCell_same _ B1 6 _ _ c2 (heap_setCell_same _ B1 5 _ _ c1 (heap_setCell_same _ B1 4 _ _ c0 h.all)))
  obtain ⟨W1, hW1⟩ : ∃ W1, W1 = ((((wb.setCell ⟨B1, 4, none⟩ c0).setCell ⟨B1, 5, none⟩ c1).setCell ⟨B1, 6, none⟩ c2).setCell ⟨B1, 7, none⟩ c3) := ⟨_, rfl⟩
  rw [← hW1] at k1 z1 ⊢
  have k2 : Keep [B2] W1 (W1.setCell ⟨B2, 1, none⟩ hh) := (Keep.refl [B2] W1).setCell (p := ⟨B2, 1, none⟩) (.inl (by simp)) hh
  have z2 := heap_setCell_same W1 B2 1 _ _ hh (k1.heap h.hd (by simp; omega))
  have k3 : Keep [B3] (W1.setCell ⟨B2, 1, none⟩ hh) ((W1.setCell ⟨B2, 1, none⟩ hh).setCell ⟨B3, 1, none⟩ ll) := (Keep.refl [B3] _).setCell (p := ⟨B3, 1, none⟩) (.inl (by simp)) ll
  have z3 := heap_setCell_same (W1.setCell ⟨B2, 1, none⟩ hh) B3 1 _ _ ll (k2.heap (k1.heap h.ln (by simp; omega)) (by simp; omega))
  refine ⟨⟨k3.heap (k2.heap (k1.heap h.z (by simp; omega)) (by simp; omega)) (by simp; omega), k3.heap (k2.heap z1 (by simp; omega)) (by simp; omega), k3.heap z2 (by simp; omega), z3⟩, ?_⟩
  exact ((k1.mono (by intro x hx; simp at hx; simp [hx])).trans (k2.mono (by intro x hx; simp at hx; simp [hx]))).trans (k3.mono (by intro x hx; simp at hx; simp [hx]))
theorem mvF_bank (j : JSt) (s : FSt) (c : Ct) (h : j.bank ≤ 1) : (mvF j s c).1.bank ≤ 1 := by
  unfold mvF
  split
  · exact h
  split
  · exact h
  split
  · exact h
  · show 1 - j.bank ≤ 1; omega
theorem mvF_ok {N : Nat} {s : FSt} (j : JSt) (c : Ct) (h : FOkN N s) (hj : j.bank ≤ 1) : FOkN (N + 2) (mvF j s c).2.1 := by
  have h1 := clrF_ok h (1 - j.bank)
  have h2 := appF_ok h1.1 ((1 - j.bank : Nat) : Int) (mvB c)
  unfold mvF
  split
  · exact h.more (by omega)
  split
  · exact h1.1.more (by omega)
  split
  · exact h2.1
  · exact h2.1
theorem JF.of_step {w wj w5 : World} {q p : Nat} {G : List Nat} {j : JSt} {s : FSt} (h : JStep w w5 q p G j s) (hk : Keep (q :: G) wj w) (hs : wj.heap.size = w.heap.size) (hq : q ∉ G) (h0 : q < wj.heap.size) : ∃ G5, JF wj w5 q p G G5 j s := by
  obtain ⟨G5, f5, j5, k5, g5⟩ := h.out
  refine ⟨G5, f5, j5, fun hx => ?_, hk.trans k5, fun x hx => (g5 x hx).imp id (fun h => by omega), h0⟩
  rcases g5 q hx with h1 | h1
  · exact hq h1
  · omega
theorem JF.opened {w wj w6 w' : World} {q p B0 : Nat} {G G6 : List Nat} {j : JSt} {s : FSt} (J : JF wj w6 q p G G6 j s) (hw : Below w.heap.size w wj) (hq : w.heap.size ≤ q) (k : Keep [B0] w6 w') (hB : B0 = w.heap.size) (hj : B0 < wj.heap.size) (hG : ∀ x ∈ G, x < w.heap.size) : Fl w' p G6 s ∧ Keep G w w' ∧ (∀ x ∈ G6, x ∈ G ∨ w.heap.size ≤ x) ∧ B0 ∉ G6 := by
  have h0 : B0 ∉ G6 := fun hx => by
    rcases J.out _ hx with h | h
    · have := hG _ h; omega
    · omega
  have hs := hw.size
  refine ⟨J.fl.keep k (fun x hx hm => by simp at hm; subst hm; exact h0 hx), ?_, fun x hx => (J.out x hx).imp id (fun h => Nat.le_trans hs h), h0⟩
  refine ((Keep.of_below hw G).trans' J.keep (fun x hx => ?_)).trans' k (fun x hx => .inr (by simp at hx; omega))
  rcases List.mem_cons.1 hx with h | h
  · exact .inr (by omega)
  · exact .inl h
/-- between two rounds of Open's loop -/
structure OpI (W wr : World) (s : FSt) (B0 B1 B2 B3 k : Nat) (a0 a1 a2 a3 b0 b1 b2 b3 h0 h1 l0 l1 : Value) : Prop where
  bx : OpB wr B0 B1 B2 B3 a0 a1 a2 a3 b0 b1 b2 b3 h0 h1 l0 l1
  keep : Keep [B1, B2, B3] W wr
  za : k = 0 → a0 = .int .i64 0 ∧ a1 = .slice none 0 0 ∧ a2 = .slice none 0 0 ∧ a3 = .int .i64 0 ∧ h0 = .bool false ∧ l0 = .int .i64 0
  zb : k ≤ 1 → b0 = .int .i64 0 ∧ b1 = .slice none 0 0 ∧ b2 = .slice none 0 0 ∧ b3 = .int .i64 0 ∧ h1 = .bool false ∧ l1 = .int .i64 0
  ra : 1 ≤ k → RV W wr s.b0 a0 a1 a2 a3 h0 l0
  rb : 2 ≤ k → RV W wr s.b1 b0 b1 b2 b3 h1 l1
theorem results_tct {P : Program} {fn : Func} {p u v : Tmp} {ty : TypeId} (h : fn.results = #[.tmp u, .cell p ty, .tmp v]) (tmps : Array Value) (w : World) (g : Nat) (t : TypeId) (cs : Array Value) (fr : Nat × Nat) (d : TypeDesc)
    (hp : tmps.getD p undef = .pointer (some ⟨g, 0, none⟩)) (hg : w.heap[g]? = some (.cells cs t fr))
    (hu : P.underlying ty = some d) (hd : (match d with | .struct _ | .array _ _ => true | _ => false) = true) (hi : (P.info? ty).map (·.size) = some cs.size) :
    (results fn tmps).run P w = .ok (.tuple #[tmps.getD u undef, .agg cs, tmps.getD v undef]) w := by
  have hp' : tmps[p]?.getD undef = .pointer (some ⟨g, 0, none⟩) := by simpa using hp
  simp [results, h, hp', asAddr, run_loadVar_row w g t ty cs fr d hg hu hd hi]
set_option maxRecDepth 100000 in
set_option maxHeartbeats 1600000 in
theorem Open_down (w : World) {p : Nat} {G : List Nat} {s : FSt} (h : Fl w p G s) (hd : s.down = true) :
    Calls Try.prog 57 #[.pointer (some ⟨p, 0, none⟩)] w (OpenP w p G s) := by
  have mR := mRead p
  obtain ⟨W, hW⟩ : ∃ W, W = ((((w.alloc (.cells #[.int .i64 0, .slice none 0 0, .slice none 0 0, .int .i64 0] 100)).alloc (.cells #[.int .i64 0, .slice none 0 0, .slice none 0 0, .int .i64 0, .int .i64 0, .slice none 0 0, .slice none 0 0, .int .i64 0] 163)).alloc (.cells #[.bool false, .bool false] 164)).alloc (.cells #[.int .i64 0, .int .i64 0] 165)) := ⟨_, rfl⟩
  have hWz : W.heap.size = w.heap.size + 1 + 1 + 1 + 1 := by rw [hW]; simp
  have hWb : Below w.heap.size w W := by rw [hW]; exact ((((Below.refl _ w).alloc (Nat.le_refl _) _).alloc (by simp) _).alloc (by simp; omega) _).alloc (by simp; omega) _
  have hW0 : OpB W w.heap.size (w.heap.size + 1) (w.heap.size + 1 + 1) (w.heap.size + 1 + 1 + 1) (.int .i64 0) (.slice none 0 0) (.slice none 0 0) (.int .i64 0) (.int .i64 0) (.slice none 0 0) (.slice none 0 0) (.int .i64 0) (.bool false) (.bool false) (.int .i64 0) (.int .i64 0) := by
    rw [hW]
    obtain ⟨e0, e1, e2, e3⟩ := alloc4 w (.cells #[.int .i64 0, .slice none 0 0, .slice none 0 0, .int .i64 0] 100) (.cells #[.int .i64 0, .slice none 0 0, .slice none 0 0, .int .i64 0, .int .i64 0, .slice none 0 0, .slice none 0 0, .int .i64 0] 163) (.cells #[.bool false, .bool false] 164) (.cells #[.int .i64 0, .int .i64 0] 165)
    exact ⟨e0, e1, e2, e3⟩
  have HF0 := Lib.hid h
  have HR : Hid (Calls Try.prog 24 #[.pointer (some ⟨p, 0, none⟩), .int .i64 (0 : Int)] W fun e w' => e = .returned (.tuple #[.slice none 0 0, .int .i64 121]) ∧ W = w') := Lib.hid (by
    have h1 := flash_Read_no W (h.below hWb) ((0 : Nat) : Int) (by rw [refused_bank (by omega), hd]; decide)
    rw [refused_bank (by omega), if_pos hd] at h1
    exact h1)
  have HO : Hid (openF s = (none, s, 121)) := Lib.hid (by rw [openF, if_pos hd])
  have HWb := Lib.hid (And.intro hWb hWz)
  have zz := hW0.z
  have t0 : W.cell? ⟨w.heap.size, 0, none⟩ = some (.int .i64 0) := box_cell zz 0 _ rfl
  have tf0 := box_free zz 0
  have t1 : W.cell? ⟨w.heap.size, 1, none⟩ = some (.slice none 0 0) := box_cell zz 1 _ rfl
  have tf1 := box_free zz 1
  have t2 : W.cell? ⟨w.heap.size, 2, none⟩ = some (.slice none 0 0) := box_cell zz 2 _ rfl
  have tf2 := box_free zz 2
  have t3 : W.cell? ⟨w.heap.size, 3, none⟩ = some (.int .i64 0) := box_cell zz 3 _ rfl
  have tf3 := box_free zz 3
  have HZ := Lib.hid zz
  have HW := Lib.hid hW
  clear h hd hW0 zz hW hWb hWz
  go_enter Try.func57, Try.ntmps57
  go_wp2_with fail
  rw [← HW.out]
  go_loopw [19] (fun i wr => i = .int .i64 0 ∧ wr = W) (fun i _ => 2 - (intOf i).toNat)
  case atStart => exact ⟨rfl, rfl⟩
  case round =>
    obtain ⟨rfl, rfl⟩ := hrel
    go_wp2_with fail
    refine HR.out.mono ?_
    rintro e w1 ⟨rfl, rfl⟩
    clear HR
    go_wp2
    have z4 := set4 (.int .i64 0) (.slice none 0 0) (.slice none 0 0) (.int .i64 0) HZ.out
    refine bodyPost_ret (results_tct (P := Try.prog) rfl _ _ _ _ _ _ _ (by rfl) z4.1 Try.underlying100 rfl (by kernel_rfl)) rfl ?_
    refine .inl ⟨by rw [HO.out], by rw [HO.out]; rfl, ?_⟩
    rw [HO.out]
    exact FStep.of_below HF0.out (z4.2.below HWb.out.1 HWb.out.1.size (by simp))
end Go.Proofs.Ytpjmbhhfpoamnaa
