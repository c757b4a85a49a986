import Derived.Test.YtikjhandhgfohaaRefShort
import Derived.Test.YtikjhandhgfohaaStepLaw
import Derived.Test.YtikjhandhgfohaaRdList
import Derived.Deep.RegionHeld3
set_option linter.unusedVariables false
set_option linter.unusedSimpArgs false
namespace Go.Proofs.Ytikjhandhgfohaa
open Go.RowKit
/-! ### the document's reader -/
structure RIn (w : World) (q B : Nat) (l : List UInt8) (a f : Nat) : Prop where
  out : ∃ A c, w.heap[q]? = some (.cells #[.slice A l.length c, .int .i64 a, .int .i64 f] 67 (0, 0)) ∧ Sl w 1 A l.length c (l.map by8) ∧ ∀ ad, A = some ad → 0 < l.length → ad.block < B
  low : B ≤ q
  le : a ≤ l.length
  max : l.length ≤ 140737488351232
theorem RIn.lt {w : World} {q B : Nat} {l : List UInt8} {a f : Nat} (h : RIn w q B l a f) : q < w.heap.size := by
  obtain ⟨A, c, h1, _⟩ := h.out
  exact (Array.getElem?_eq_some_iff.1 h1).1
theorem RIn.keep {M : List Nat} {w w' : World} {q B : Nat} {l : List UInt8} {a f : Nat} (h : RIn w q B l a f) (k : Keep M w w') (hM : ∀ x ∈ M, x ≠ q ∧ B ≤ x) : RIn w' q B l a f := by
  obtain ⟨A, c, h1, s, hA⟩ := h.out
  exact ⟨⟨A, c, k.heap h1 (fun hx => (hM q hx).1 rfl), s.keep0 k (fun ad e h0 hx => by have h2 := hA ad e h0; have h3 := (hM _ hx).2; omega), hA⟩, h.low, h.le, h.max⟩
theorem RIn.below {w w' : World} {q B : Nat} {l : List UInt8} {a f : Nat} (h : RIn w q B l a f) (k : Below w.heap.size w w') : RIn w' q B l a f := h.keep (Keep.of_below k []) (by simp)
theorem RIn.setAt {w : World} {q B : Nat} {l : List UInt8} {a f : Nat} (h : RIn w q B l a f) (b : Nat) (hb : b ≤ l.length) : RIn (w.setCell ⟨q, 1, none⟩ (.int .i64 (b : Int))) q B l b f := by
  obtain ⟨A, c, h1, s, hA⟩ := h.out
  have kk : Keep [q] w (w.setCell ⟨q, 1, none⟩ (.int .i64 (b : Int))) := (Keep.refl [q] w).setCell (.inl (by simp)) _
  exact ⟨⟨A, c, by simpa using heap_setCell_same w q 1 _ _ (.int .i64 (b : Int)) h1, s.keep0 kk (fun ad e h0 hx => by have h2 := hA ad e h0; have h3 := h.low; simp at hx; omega), hA⟩, h.low, hb, h.max⟩
theorem RIn.setF {w : World} {q B : Nat} {l : List UInt8} {a f : Nat} (h : RIn w q B l a f) (g : Nat) : RIn (w.setCell ⟨q, 2, none⟩ (.int .i64 (g : Int))) q B l a g := by
  obtain ⟨A, c, h1, s, hA⟩ := h.out
  have kk : Keep [q] w (w.setCell ⟨q, 2, none⟩ (.int .i64 (g : Int))) := (Keep.refl [q] w).setCell (.inl (by simp)) _
  exact ⟨⟨A, c, by simpa using heap_setCell_same w q 2 _ _ (.int .i64 (g : Int)) h1, s.keep0 kk (fun ad e h0 hx => by have h2 := hA ad e h0; have h3 := h.low; simp at hx; omega), hA⟩, h.low, h.le, h.max⟩
theorem RIn.cells {w : World} {q B : Nat} {l : List UInt8} {a f : Nat} (h : RIn w q B l a f) : ∃ A c, w.cell? ⟨q, 0, none⟩ = some (.slice A l.length c) ∧ w.cell? ⟨q, 1, none⟩ = some (.int .i64 a) ∧ w.cell? ⟨q, 2, none⟩ = some (.int .i64 f) ∧ Sl w 1 A l.length c (l.map by8) ∧ w.frozen? ⟨q, 1, none⟩ = false ∧ w.frozen? ⟨q, 2, none⟩ = false ∧ ∀ ad, A = some ad → 0 < l.length → ad.block < B := by
  obtain ⟨A, c, h1, s, hA⟩ := h.out
  exact ⟨A, c, box_cell h1 0 _ rfl, box_cell h1 1 _ rfl, box_cell h1 2 _ rfl, s, box_free h1 1, box_free h1 2, hA⟩
theorem in_Fail (w : World) {q B : Nat} {l : List UInt8} {a : Nat} (h : RIn w q B l a 0) (g : Nat) :
    Calls Try.prog 53 #[.pointer (some ⟨q, 0, none⟩), .int .i64 g] w fun e w' => e = .returned (.tuple #[]) ∧ RIn w' q B l a g ∧ Keep [q] w w' := by
  obtain ⟨A, c, c0, c1, c2, s, f1, f2, hA⟩ := h.cells
  have HN : Hid (RIn (w.setCell ⟨q, 2, none⟩ (.int .i64 (g : Int))) q B l a g ∧ Keep [q] w (w.setCell ⟨q, 2, none⟩ (.int .i64 (g : Int)))) := Lib.hid ⟨h.setF g, (Keep.refl [q] w).setCell (.inl (by simp)) _⟩
  clear h s hA c0 c1
  go_enter Try.func53, Try.ntmps53
  go_wp2
  go_end0
  exact ⟨rfl, HN.out⟩
theorem in_Done (w : World) {q B : Nat} {l : List UInt8} {a f : Nat} (h : RIn w q B l a f) :
    Calls Try.prog 37 #[.pointer (some ⟨q, 0, none⟩)] w fun e w' => e = .returned (.int .i64 (doneR l a f : Nat)) ∧ Drawn w w' := by
  obtain ⟨A, c, c0, c1, c2, s, _⟩ := h.cells
  have hle := h.le; have hmx := h.max
  obtain ⟨m, hm⟩ : ∃ m, m = l.length := ⟨_, rfl⟩
  rw [← hm] at c0 hle hmx
  by_cases hf : f = 0
  · subst hf
    have i1 : (((0 : Nat) : Int) == 0) = true := rfl
    by_cases hlt : a < m
    · have i2 : (a : Int) < (m : Int) := by omega
      have HR : Hid (doneR l a 0 = 90) := Lib.hid (by unfold doneR; rw [if_pos ⟨rfl, by omega⟩])
      rw [HR.out]
      clear h s hm hlt
      go_enter Try.func37, Try.ntmps37
      go_wp2_with fail
      go_quiet (fail)
      go_wp2
      go_ret
      exact ⟨by first | rfl | simp, by first | exact ⟨⟨_, rfl⟩⟩ | exact ⟨⟨_, World.drewN_drewN ..⟩⟩⟩
    · have i2 : (m : Int) ≤ (a : Int) := by omega
      have HR : Hid (doneR l a 0 = 0) := Lib.hid (by unfold doneR; rw [if_neg (by omega)])
      rw [HR.out]
      clear h s hm hlt
      go_enter Try.func37, Try.ntmps37
      go_wp2_with fail
      go_quiet (fail)
      go_wp2
      go_ret
      exact ⟨by first | rfl | simp, by first | exact ⟨⟨_, rfl⟩⟩ | exact ⟨⟨_, World.drewN_drewN ..⟩⟩⟩
  · have i1 : ((f : Int) == 0) = false := by simp; omega
    have HR : Hid (doneR l a f = f) := Lib.hid (by unfold doneR; rw [if_neg (by omega)])
    rw [HR.out]
    clear h s hm hf
    go_enter Try.func37, Try.ntmps37
    go_wp2_with fail
    go_quiet (fail)
    go_wp2
    go_ret
    exact ⟨rfl, by first | exact ⟨⟨_, rfl⟩⟩ | exact ⟨⟨_, World.drewN_drewN ..⟩⟩⟩
/-- what a read of bytes leaves -/
def InB (w : World) (q B : Nat) (l : List UInt8) (R : List UInt8 × Nat × Nat) (e : Ending) (w' : World) : Prop := ∃ v, e = .returned v ∧ w'.ownsRow w.heap.size 5 1 v R.1.length (R.1.map by8) ∧ RIn w' q B l R.2.1 R.2.2 ∧ Keep [q] w w'
set_option maxRecDepth 100000 in
set_option maxHeartbeats 1600000 in
theorem in_Fixed (w : World) {q B : Nat} {l : List UInt8} {a f : Nat} (h : RIn w q B l a f) (n : Int) (hn : n ≤ 9223372036854775807) :
    Calls Try.prog 35 #[.pointer (some ⟨q, 0, none⟩), .int .i64 n] w (InB w q B l (rdV (numR l a n) (atR l a n.toNat) [] a f)) := by
  obtain ⟨A, c, c0, c1, c2, s, f1, f2, hA⟩ := h.cells
  have hle := h.le; have hmx := h.max; have hql := h.lt
  obtain ⟨m, hm⟩ : ∃ m, m = l.length := ⟨_, rfl⟩
  by_cases hf : f = 0
  · subst hf
    by_cases hno : n < 0 ∨ ((l.length - a : Nat) : Int) < n
    · have HR : Hid (rdV (numR l a n) (atR l a n.toNat) [] a 0 = ([], a, 90)) := Lib.hid (rdV_err (numR_no hno))
      rw [HR.out]
      have HF := Lib.hid (fun t : Nat => in_Fail (w.drewN t) (h.below (below_drewN (Below.refl _ _) t)) 90)
      rw [← hm] at c0 hle hmx hno
      have wq : IntKind.i64.wrap ((m : Int) - (a : Int)) = (m : Int) - (a : Int) := by rw [IntKind.wrap_i64]; omega
      have HL := Lib.hid (And.intro hm (And.intro s hA))
      clear h s hA hm
      by_cases h0 : n < 0
      · have i0 : n < 0 := h0
        clear hno h0
        go_enter Try.func35, Try.ntmps35
        go_wp2_with fail
        go_quiet (fail)
        go_wp2_with fail
        refine (HF.out nq).mono ?_
        rintro e w1 ⟨rfl, hr, hk⟩
        have HN := Lib.hid (And.intro hr ((Keep.refl [q] w).drewN nq |>.trans hk))
        clear hr hk
        go_wp2
        go_ret
        exact ⟨_, rfl, World.ownsRow_nil .., HN.out⟩
      · have i0 : decide (n < 0) = false := decide_eq_false h0
        have i1 : (m : Int) - (a : Int) < n := by omega
        clear hno h0
        go_enter Try.func35, Try.ntmps35
        go_wp2_with fail
        go_quiet (fail)
        go_wp2_with fail
        refine (HF.out nq).mono ?_
        rintro e w1 ⟨rfl, hr, hk⟩
        have HN := Lib.hid (And.intro hr ((Keep.refl [q] w).drewN nq |>.trans hk))
        clear hr hk
        go_wp2
        go_ret
        exact ⟨_, rfl, World.ownsRow_nil .., HN.out⟩
    · obtain ⟨k, rfl⟩ : ∃ k : Nat, n = k := ⟨n.toNat, by omega⟩
      have hk : a + k ≤ l.length := by omega
      have HR : Hid (rdV (numR l a (k : Int)) (atR l a (k : Int).toNat) [] a 0 = (atR l a k, a + k, 0) ∧ (atR l a k).length = k) := Lib.hid ⟨rdV_ok (numR_yes hk), by simp [atR]; omega⟩
      rw [HR.out.1]
      have HW := Lib.hid h
      rw [← hm] at c0 hle hmx hno hk
      have wq : IntKind.i64.wrap ((m : Int) - (a : Int)) = (m : Int) - (a : Int) := by rw [IntKind.wrap_i64]; omega
      have i0 : decide ((k : Int) < 0) = false := decide_eq_false (by omega)
      have i1 : decide ((m : Int) - (a : Int) < (k : Int)) = false := decide_eq_false (by omega)
      have hsc := s.le
      have HL := Lib.hid (And.intro hm (And.intro s hA))
      rw [← hm] at hsc
      clear h s hA hm hno
      go_enter Try.func35, Try.ntmps35
      go_wp2_with fail
      go_quiet (fail)
      go_wp2_with fail
      obtain ⟨W1, hW1⟩ : ∃ W1, W1 = w.drewN nq := ⟨_, rfl⟩
      have H1 : Hid (RIn W1 q B l a 0 ∧ Keep [q] w W1 ∧ Sl W1 1 A m c (l.map by8) ∧ w.heap.size = W1.heap.size) := Lib.hid (by rw [hW1]; exact ⟨HW.out.below (below_drewN (Below.refl _ _) nq), (Keep.refl _ _).drewN nq, by rw [HL.out.1]; exact HL.out.2.1.drewN nq, rfl⟩)
      have d0 : W1.cell? ⟨q, 0, none⟩ = some (.slice A m c) := by rw [hW1]; exact c0
      have d1 : W1.cell? ⟨q, 1, none⟩ = some (.int .i64 a) := by rw [hW1]; exact c1
      rw [← hW1]
      clear c0 c1 c2 f1 f2 hW1
      have hsl := H1.out.2.2.1
      obtain ⟨A', hA', hP⟩ := slice_piece A m c a k hk hsc hsl.nil (fun ad e h0 => (hsl.at_ ad e (by rw [hsl.len]; omega)).1)
      have HP := Lib.hid hP
      clear hP hsl
      have iq0 : IntKind.i64.wrap (a : Int) = a := by rw [IntKind.wrap_i64]; omega
      have iq5 : IntKind.i64.wrap ((a : Int) + k) = (a : Int) + k := by rw [IntKind.wrap_i64]; omega
      have iq1 : (0 : Int) ≤ (a : Int) + k := by omega
      have iq2 : (a : Int) + k ≤ (c : Int) := by omega
      have iq3 : (a : Int) ≤ (a : Int) + k := by omega
      have iq4 : ((a : Int) + k).toNat - a = k := by omega
      have iq6 : (0 : Int) ≤ (a : Int) := by omega
      have iq7 : ((a : Int) + (k : Int)).toNat = a + k := by omega
      have iq8 : a + k - a = k := by omega
      have hmx2 : 0 + k ≤ maxLen := by simp only [maxLen]; omega
      have hby2 : (0 + k) * 1 ≤ 140737488355328 := by omega
      go_region_held3 (fun w' => w'.cell? ⟨q, 0, none⟩ = some (.slice A m c) ∧ w'.cell? ⟨q, 1, none⟩ = some (.int .i64 a)) (first | exact ⟨j0, j1⟩ | exact ⟨d0, d1⟩ | go_keep)
        (first | (refine ap_step EBr (by rfl) _ _ (by rfl) (by rfl) (World.ownsRow_nil W1.drew W1.heap.size _ _) (by rfl) ((HP.out _ _ H1.out.2.2.1).below (w' := W1.drew) ((Below.refl _ W1).drew)) (u8_one _) hmx2 hby2 (Nat.le_refl _) ?_; intro v2 w2 o2 hg2 hnil2; have hb2 : Below W1.heap.size W1 w2 := bthen ((Below.refl _ W1).drew) (below_grown hg2); have j0 := cell_below d0 hb2; have j1 := cell_below d1 hb2))
      all_goals
        have h2 := H1.out.1.below hb2
        obtain ⟨A2, c2, k0, k1, k2, _, g1, g2, _⟩ := h2.cells
        have HN : Hid (RIn (w2.setCell ⟨q, 1, none⟩ (.int .i64 ((a : Int) + k))) q B l (a + k) 0 ∧ Keep [q] w (w2.setCell ⟨q, 1, none⟩ (.int .i64 ((a : Int) + k)))) := Lib.hid (by
          have e1 : ((a + k : Nat) : Int) = (a : Int) + k := by omega
          have h3 := h2.setAt (a + k) (by rw [← HL.out.1]; exact hk)
          rw [e1] at h3
          exact ⟨h3, (H1.out.2.1.trans (Keep.of_below hb2 [q])).setCell (.inl (by simp)) _⟩)
        rw [List.nil_append, Nat.zero_add] at o2
        have hqw : q < W1.heap.size := H1.out.1.lt
        have HO : Hid ((w2.setCell ⟨q, 1, none⟩ (.int .i64 ((a : Int) + k))).ownsRow w.heap.size 5 1 v2 k ((atR l a k).map by8)) := Lib.hid (by
          have kk : Keep [q] w2 (w2.setCell ⟨q, 1, none⟩ (.int .i64 ((a : Int) + k))) := (Keep.refl [q] w2).setCell (.inl (by simp)) _
          rw [H1.out.2.2.2]
          exact kk.own o2 (fun j hj hx => by have := (o2.lt j hj).1; simp at hx; omega))
        clear h2 o2 hg2 hnil2 hb2 d0 d1
        go_wp2
        go_ret
        exact ⟨_, rfl, by rw [HR.out.2]; exact HO.out, HN.out⟩
  · have HR : Hid (rdV (numR l a n) (atR l a n.toNat) [] a f = ([], a, f)) := Lib.hid (rdV_stuck hf)
    rw [HR.out]
    have i1 : ((f : Int) != 0) = true := by simp; omega
    have HW := Lib.hid h
    clear h s hA hm c0 c1
    go_enter Try.func35, Try.ntmps35
    go_wp2
    go_ret
    exact ⟨_, rfl, World.ownsRow_nil .., HW.out, Keep.refl _ _⟩
/-- what a read of a number leaves -/
def InX (w : World) (q B : Nat) (l : List UInt8) (K : Nat → Value) (R : Nat × Nat × Nat) (e : Ending) (w' : World) : Prop := e = .returned (K R.1) ∧ RIn w' q B l R.2.1 R.2.2 ∧ Keep [q] w w'
theorem be_snoc9 (l : List UInt8) (k : Nat) (h : k < l.length) : be (l.take (k + 1)) = be (l.take k) * 256 + bt l k := be_take l k h
set_option maxRecDepth 100000 in
set_option maxHeartbeats 1600000 in
theorem in_number (w : World) {q B : Nat} {l : List UInt8} {a f : Nat} (h : RIn w q B l a f) (n : Nat) (hn : n ≤ 8) :
    Calls Try.prog 52 #[.pointer (some ⟨q, 0, none⟩), .int .i64 n] w (InX w q B l (fun x => .int .u64 (x : Int)) (rdV (numR l a n) (be (atR l a n)) 0 a f)) := by
  have hF := in_Fixed w h (n : Int) (by omega)
  obtain ⟨R, hR⟩ : ∃ R, R = rdV (numR l a (n : Int)) (atR l a (n : Int).toNat) [] a f := ⟨_, rfl⟩
  have hR2 : rdV (numR l a (n : Int)) (be (atR l a n)) 0 a f = (be R.1, R.2.1, R.2.2) := by
    rw [hR]
    unfold rdV
    cases effR (numR l a (n : Int)) f with
    | ok k => simp
    | error e => rfl
  have hRl : R.1.length ≤ 8 := by
    rw [hR]
    unfold rdV
    cases effR (numR l a (n : Int)) f with
    | ok k => simp [atR]; omega
    | error e => simp
  rw [← hR] at hF
  rw [hR2]
  obtain ⟨x, a2, f2⟩ := R
  simp only at hRl ⊢
  have HF := Lib.hid hF
  clear hF hR hR2 h
  go_enter Try.func52, Try.ntmps52
  go_wp2_with (first | (at_builtin; refine Stopped.out ?_) | (at_make; refine Stopped.out ?_))
  refine HF.out.mono ?_
  rintro e w1 ⟨v, rfl, o1, hr, hk⟩
  simp only at o1 hr
  obtain ⟨A, c, rfl, s, _⟩ := own_sl o1
  obtain ⟨m, hm⟩ : ∃ m, m = x.length := ⟨_, rfl⟩
  rw [← hm] at s hRl ⊢
  have hc := s.le; have hcm := s.max
  have HM := Lib.hid hm
  have HN := Lib.hid (And.intro hr hk)
  clear o1 hr hk hm
  go_wp2
  go_loopw [6, 7] (fun xx ii wr => ∃ k : Nat, k ≤ m ∧ ii = .int .i64 k ∧ xx = .int .u64 ((be (x.take k) : Nat) : Int) ∧ w1 = wr) (fun _ ii _ => m - (intOf ii).toNat)
  case atStart => exact ⟨0, Nat.zero_le _, rfl, by simp [be], rfl⟩
  case round =>
    obtain ⟨k, hk, rfl, rfl, rfl⟩ := hrel
    by_cases hlt : k < m
    · obtain ⟨b, off, rfl⟩ := s.form (by omega)
      have g0 := s.byte k hlt
      have k0 : (0 : Int) ≤ (k : Int) := Int.natCast_nonneg _
      have k1 : (k : Int) < (m : Int) := by omega
      have hb := be_snoc9 x k (by rw [← HM.out]; exact hlt)
      have hbl := be_lt (x.take (k + 1))
      have hpow : 256 ^ (x.take (k + 1)).length ≤ 256 ^ 8 := Nat.pow_le_pow_right (by decide) (by simp; omega)
      obtain ⟨y, hy⟩ : ∃ y, y = bt x k := ⟨_, rfl⟩
      obtain ⟨z, hz⟩ : ∃ z, z = be (x.take k) := ⟨_, rfl⟩
      rw [← hy] at g0 hb
      rw [← hz] at hb ⊢
      have hyl : y < 256 := by rw [hy]; exact bt_lt _ _
      have hzz : z * 256 + y < 18446744073709551616 := by omega
      have HB := Lib.hid hb
      have iw1 : IntKind.u64.wrap ((z : Int) * 256) = (z : Int) * 256 := by rw [IntKind.wrap_u64]; omega
      have iw2 : IntKind.u64.wrap (y : Int) = (y : Int) := by rw [IntKind.wrap_u64]; omega
      have iw3 : IntKind.u64.wrap ((z : Int) * 256 + (y : Int)) = (z : Int) * 256 + (y : Int) := by rw [IntKind.wrap_u64]; omega
      clear hy hz hb hbl hpow
      go_wp2
      first | go_roundw | refine ⟨?rel, ?measure⟩
      case rel => exact ⟨k + 1, by omega, by go_num, by rw [HB.out]; first | rfl | (simp; done) | (congr 1; omega), by first | rfl | trivial⟩
      case measure => simp [intOf] <;> omega
    · have hK : be (x.take k) = be x := by rw [List.take_of_length_le (by rw [← HM.out]; omega)]
      rw [hK]
      have k1 : decide ((k : Int) < (m : Int)) = false := decide_eq_false (by omega)
      go_wp2
      go_ret
      exact ⟨rfl, HN.out⟩
set_option maxRecDepth 100000 in
theorem in_Byte (w : World) {q B : Nat} {l : List UInt8} {a f : Nat} (h : RIn w q B l a f) :
    Calls Try.prog 34 #[.pointer (some ⟨q, 0, none⟩)] w (InX w q B l (fun x => .int .u8 (x : Int)) (rdV (numR l a 1) (bt l a) 0 a f)) := by
  have hN := in_number w h 1 (by decide)
  obtain ⟨R, hR⟩ : ∃ R, R = rdV (numR l a 1) (bt l a) 0 a f := ⟨_, rfl⟩
  have hR2 : rdV (numR l a ((1 : Nat) : Int)) (be (atR l a 1)) 0 a f = R := by
    rw [hR]
    by_cases ha : a < l.length
    · have e : be (atR l a 1) = bt l a := by
        have e0 : atR l a 1 = [l[a]] := by unfold atR; rw [List.drop_eq_getElem_cons ha]; rfl
        rw [e0, bt_eq l a ha]
        simp [be]
      rw [e]; rfl
    · have hno : numR l a 1 = .error 90 := numR_no (.inr (by omega))
      have hno2 : numR l a ((1 : Nat) : Int) = .error 90 := hno
      rw [hno, hno2]
      unfold rdV effR
      by_cases hf : f ≠ 0
      · rw [if_pos hf]
      · rw [if_neg hf]
  have hx : R.1 < 256 := by rw [hR]; unfold rdV; split; exact bt_lt _ _; simp
  rw [hR2] at hN
  rw [← hR]
  obtain ⟨x, a2, f2⟩ := R
  simp only at hx
  have HN := Lib.hid hN
  have iw : IntKind.u8.wrap (x : Int) = (x : Int) := by rw [IntKind.wrap_u8]; omega
  clear hN hR hR2 h
  go_enter Try.func34, Try.ntmps34
  go_wp2_with (first | (at_builtin; refine Stopped.out ?_) | (at_make; refine Stopped.out ?_))
  refine HN.out.mono ?_
  rintro e w1 ⟨rfl, hr, hk⟩
  have HX := Lib.hid (And.intro hr hk)
  clear hr hk
  go_wp2
  go_ret
  exact ⟨by first | rfl | simp [iw], HX.out⟩
end Go.Proofs.Ytikjhandhgfohaa
