import Derived.Test.YtpjmbhhfpoamnaaFrRange
import Derived.Test.YtpjmbhhfpoamnaaFrDec
set_option linter.unusedVariables false
set_option linter.unusedSimpArgs false
namespace Go.Proofs.Ytpjmbhhfpoamnaa
open Go.RowKit Go.Shelf
attribute [local go_sem] Oper.semAt_some
/-- what All yields: a place, a frame, and where its payload lies -/
structure Yl where
  at_ : Nat
  k : UInt8
  p : List UInt8
  g : Nat
def Yl.enc (x : Yl) : Array Value := #[.int .i64 x.at_, .agg #[.int .u8 (x.k.toNat : Int), .slice (some ⟨x.g, 0, none⟩) x.p.length x.p.length]]
def Yl.pj (x : Yl) : Nat × UInt8 × List UInt8 := (x.at_, x.k, x.p)
/-- frames with their places -/
def placedF : Nat → List (UInt8 × List UInt8) → List (Nat × UInt8 × List UInt8)
  | _, [] => []
  | a, x :: r => (a, x.1, x.2) :: placedF (a + (x.2.length + 10)) r
theorem placedF_map : ∀ (a : Nat) (ps : List (UInt8 × List UInt8)), (placedF a ps).map (fun x => (x.2.1, x.2.2)) = ps
  | _, [] => rfl
  | a, x :: r => by rw [placedF, List.map_cons, placedF_map]
/-- blocks below B, but these, are as they were -/
structure KpB (B : Nat) (Xs : List Nat) (w w' : World) : Prop where
  os : w'.os = w.os
  tape : w'.tape = w.tape
  output : w'.output = w.output
  size : w.heap.size ≤ w'.heap.size
  block : ∀ k, k < B → k < w.heap.size → k ∉ Xs → w'.heap[k]? = w.heap[k]?
variable {B : Nat} {Xs : List Nat}
theorem KpB.refl (w : World) : KpB B Xs w w := ⟨rfl, rfl, rfl, Nat.le_refl _, fun _ _ _ _ => rfl⟩
theorem KpB.trans {a b c : World} (h : KpB B Xs a b) (k : KpB B Xs b c) : KpB B Xs a c :=
  ⟨k.os.trans h.os, k.tape.trans h.tape, k.output.trans h.output, Nat.le_trans h.size k.size, fun x h1 h2 h3 => (k.block x h1 (Nat.lt_of_lt_of_le h2 h.size) h3).trans (h.block x h1 h2 h3)⟩
theorem KpB.of_below {w w' : World} (h : Below w.heap.size w w') : KpB B Xs w w' := ⟨h.os, h.tape, h.output, h.size, fun k _ h2 _ => h.block k h2⟩
theorem KpB.putObj (w : World) {l : Nat} (o' : Obj) (hB : B ≤ l) : KpB B Xs w (w.putObj l o') := by
  have hg := grownBy_putObj' w l o'
  exact ⟨hg.os, hg.tape, hg.output, hg.size, fun k h1 h2 _ => hg.block k h2 (fun e => by have := Option.some.inj e; omega)⟩
theorem KpB.heap {w w' : World} (h : KpB B Xs w w') {b : Nat} {o : Obj} (hb : w.heap[b]? = some o) (h1 : b < B) (h2 : b ∉ Xs) : w'.heap[b]? = some o :=
  (h.block b h1 (Array.getElem?_eq_some_iff.1 hb).1 h2).trans hb
/-- a list of bytes that the rounds leave -/
def Out (B : Nat) (Xs : List Nat) (A : Option Addr) (n : Nat) : Prop := ∀ ad, A = some ad → 0 < n → ad.block < B ∧ ad.block ∉ Xs
theorem KpB.sl {w w' : World} (h : KpB B Xs w w') {sz : Nat} {A : Option Addr} {n c : Nat} {vs : List Value} (s : Sl w sz A n c vs) (hA : Out B Xs A n) : Sl w' sz A n c vs := by
  by_cases h0 : 0 < n
  · refine ⟨s.len, s.le, s.max, s.nil, fun ad e hp => ⟨(s.at_ ad e hp).1, fun i hi => ?_⟩⟩
    have h1 := (s.at_ ad e hp).2 i hi
    have h2 := cell_lt h1
    have h3 := hA ad e h0
    have h4 := h.block ad.block h3.1 h2 h3.2
    have h5 : w'.cell? ⟨ad.block, ad.off + i, none⟩ = w.cell? ⟨ad.block, ad.off + i, none⟩ := by simp only [World.cell?]; rw [h4]
    exact h5.trans h1
  · obtain rfl : n = 0 := by omega
    exact ⟨s.len, s.le, s.max, s.nil, fun ad e hp => by have := s.len; simp at this; rw [this] at hp; simp at hp⟩
/-- a frame at a place: the next one -/
theorem placed_go (l : List UInt8) (a : Nat) (ha : a < l.length) (ht : (wholeD (l.drop a)).2.2.2 = 0) :
    ∃ k p, wholeF l a = (k, p, ((a + (p.length + 10) : Nat) : Int), 0) ∧ a + (p.length + 10) ≤ l.length ∧ p.length ≤ 262144 ∧
      (scanF (l.drop a)).1 = (k, p) :: (scanF (l.drop (a + (p.length + 10)))).1 ∧ (scanF (l.drop a)).2.1 = (p.length + 10) + (scanF (l.drop (a + (p.length + 10)))).2.1 ∧ (scanF (l.drop a)).2.2 = (scanF (l.drop (a + (p.length + 10)))).2.2 := by
  have hne : l.drop a ≠ [] := fun e => by have := congrArg List.length e; simp at this; omega
  have hb := wholeD_bound _ ht hne
  have hg := scanF_go hne ht
  rw [hb.1, List.drop_drop] at hg
  refine ⟨(wholeD (l.drop a)).1, (wholeD (l.drop a)).2.1, ?_, ?_, hb.2.2, by rw [hg], by rw [hg], by rw [hg]⟩
  · unfold wholeF
    rw [if_neg (by omega), show ((a : Int)).toNat = a by omega, ht, hb.1]
    simp
  · have := hb.2.1
    simp at this
    omega
theorem placed_stop (l : List UInt8) (a : Nat) (ha : a ≤ l.length) (ht : a = l.length ∨ (wholeD (l.drop a)).2.2.2 ≠ 0) :
    (wholeF l a).2.2.2 = (wholeD (l.drop a)).2.2.2 ∧ (scanF (l.drop a)).1 = [] ∧ (scanF (l.drop a)).2.1 = 0 ∧ (scanF (l.drop a)).2.2 = (wholeD (l.drop a)).2.2.2 := by
  refine ⟨?_, ?_⟩
  · unfold wholeF
    rw [if_neg (by omega), show ((a : Int)).toNat = a by omega]
  · by_cases h0 : a = l.length
    · have : l.drop a = [] := List.drop_eq_nil_of_le (by omega)
      rw [this]
      refine ⟨rfl, rfl, rfl⟩
    · have hne : l.drop a ≠ [] := fun e => by have := congrArg List.length e; simp at this; omega
      rw [scanF_stop hne (by rcases ht with h | h; exact absurd h h0; exact h)]
      exact ⟨rfl, rfl, rfl⟩
/-- how long frames are together -/
def sumP (pre : List Yl) : Nat := (pre.map fun x => x.p.length + 10).sum
theorem sumP_snoc (pre : List Yl) (x : Yl) : sumP (pre ++ [x]) = sumP pre + (x.p.length + 10) := by simp [sumP]
theorem sumP_count : ∀ pre : List Yl, 10 * pre.length ≤ sumP pre
  | [] => Nat.le_refl _
  | x :: r => by have := sumP_count r; simp only [sumP, List.map_cons, List.sum_cons, List.length_cons] at this ⊢; omega
/-- what a round is told of the frame that it is handed -/
structure Gd (l : List UInt8) (pre : List Yl) (x : Yl) (W0 W1 : World) : Prop where
  new : W0.heap.size ≤ x.g
  len : x.p.length ≤ 262144
  own : W1.ownsRow W0.heap.size 5 1 (.slice (some ⟨x.g, 0, none⟩) x.p.length x.p.length) x.p.length (x.p.map by8)
  at_ : x.at_ = sumP pre
  fits : sumP pre + (x.p.length + 10) ≤ l.length
  of : ∃ rest, (pre ++ [x]).map Yl.pj ++ rest = placedF 0 (scanF l).1
set_option maxRecDepth 100000 in
set_option maxHeartbeats 2000000 in
/-- All's closure: the frames from the front -/
theorem All1_in (n : Nat) (hn : 1 ≤ n) (L bx B : Nat) (Xs : List Nat) {A : Option Addr} {N c : Nat} {l : List UInt8} (hbx : bx < B ∧ bx ∉ Xs) (hA : Out B Xs A N) (hN : N ≤ 140737488351232) (J Jx : List Yl → World → Prop)
    (hJ : ∀ s V V', J s V → Below V.heap.size V V' → J s V')
    (hY : ∀ pre x W0 W1, J pre W0 → Below W0.heap.size W0 W1 → Gd l pre x W0 W1 → YieldAt Fence.wide (n - 1) Try.prog L x.enc W1 fun e W' =>
      (e = .returned (.bool true) ∧ J (pre ++ [x]) W' ∧ KpB B Xs W1 W') ∨ (e = .returned (.bool false) ∧ Jx (pre ++ [x]) W'))
    (W : World) (hB : B ≤ W.heap.size) (hs : Sl W 1 A N c (l.map by8)) (hb : W.heap[bx]? = some (.cells #[.slice A N c] 22 (0, 0))) (h0 : J [] W) :
    CallsIn Fence.wide n Try.prog 126 #[.func (.yield L) #[] #[], .pointer (some ⟨bx, 0, none⟩)] W fun e W' => (∃ v, e = .returned v) ∧
      ((∃ xs : List Yl, xs.map Yl.pj = placedF 0 (scanF l).1 ∧ J xs W') ∨ (∃ pre : List Yl, True ∧ Jx pre W')) := by
  have hl : l.length = N := by simpa using hs.len
  refine callsIn_of_wp Try.func126 rfl trivial ?_ rfl
  simp only [Try.ntmps126, List.size_toArray, List.length_cons, List.length_nil, Nat.reduceAdd, Nat.reduceSub, Array.replicate_succ, Array.replicate_zero, List.push_toArray, List.append_toArray, List.nil_append, List.cons_append]
  gi_wp2
  gi_loopw [3] (fun i wr => ∃ (a : Nat) (pre : List Yl), a ≤ N ∧ i = .int .i64 a ∧ KpB B Xs W wr ∧ J pre wr ∧ Hid (pre.map Yl.pj ++ placedF a (scanF (l.drop a)).1 = placedF 0 (scanF l).1 ∧ a = sumP pre)) (fun i _ => N - (intOf i).toNat)
  case atStart => exact ⟨0, [], Nat.zero_le _, rfl, KpB.refl _, h0, Lib.hid ⟨rfl, rfl⟩⟩
  case round =>
    obtain ⟨a, pre, ha, rfl, hk, hj, he⟩ := hrel
    have hcb := box_cell (hk.heap hb hbx.1 hbx.2) 0 _ rfl
    have hsr := hk.sl hs hA
    by_cases hlt : a < N
    · by_cases ht : (wholeD (l.drop a)).2.2.2 = 0
      · obtain ⟨k, p, e1, e2, e3, e4, e5, e6⟩ := placed_go l a (by omega) ht
        obtain ⟨nx, hnx⟩ : ∃ nx, nx = a + (p.length + 10) := ⟨_, rfl⟩
        have hw : Calls Try.prog 92 #[.slice A N c, .int .i64 (a : Int)] wr fun e w' => ∃ P pc, e = .returned (.tuple #[.agg #[.int .u8 (k.toNat : Int), .slice P p.length pc], .int .i64 (nx : Int), .int .i64 0]) ∧ Sl w' 1 P p.length pc (p.map by8) ∧ Below wr.heap.size wr w' := by
          have := whole_any wr hsr (a : Int) hN
          rw [e1, ← hnx] at this
          exact this
        have HW := Lib.hid hw
        have HP := Lib.hid (And.intro hlt (And.intro e2 (And.intro e3 (And.intro e4 (And.intro hk (And.intro hj (And.intro hl hnx)))))))
        have Hre : Hid (∀ g, (pre ++ [Yl.mk a k p g]).map Yl.pj ++ placedF nx (scanF (l.drop nx)).1 = placedF 0 (scanF l).1) := Lib.hid (fun g => by
          have h4 := HP.out.2.2.2.1
          rw [← HP.out.2.2.2.2.2.2.2] at h4
          have h5 := he.out.1
          rw [h4] at h5
          rw [← h5, List.map_append, placedF, HP.out.2.2.2.2.2.2.2]
          simp [Yl.pj])
        have i1 : (a : Int) < (N : Int) := by omega
        have hpl : p.length ≤ 140737488351232 := by omega
        clear hw e1 e2 e3 e4 e5 e6 hk hj hsr ht hlt hl h0 hb hs hnx
        gi_wp2_with (first
          | (refine ⟨trivial, ?_⟩; gi_at_call 92; refine (callsIn_wide.2 HW.out).mono ?_; rintro e w3 ⟨P, pc, rfl, s3, hb3⟩; have H3 := Lib.hid (And.intro (s3.alloc (.cells #[.int .u8 (k.toNat : Int), .slice P p.length pc] 70)) (bthen hb3 ((Below.refl _ _).alloc (Nat.le_refl _) (.cells #[.int .u8 (k.toNat : Int), .slice P p.length pc] 70)))); clear s3 hb3)
          | (refine ⟨trivial, ?_⟩; gi_at_call 93; refine (callsIn_wide.2 (fown_any _ H3.out.1 k.toNat hpl)).mono ?_; rintro e w5 ⟨g, rfl, o5, hb5⟩; have hb15 := bthen H3.out.2 hb5; have hg5 := Nat.le_trans H3.out.2.size (o5.lt g rfl).1; obtain ⟨fn, tmps, assign, body, hy, hR⟩ := hY pre ⟨a, k, p, g⟩ wr w5 HP.out.2.2.2.2.2.1 hb15 (Gd.mk hg5 HP.out.2.2.1 (own_mono o5 H3.out.2.size) he.out.2 (by rw [← he.out.2]; exact HP.out.2.1) ⟨placedF nx (scanF (l.drop nx)).1, Hre.out g⟩); dsimp only [Yl.enc] at hy; clear o5 hb5 hg5))
        have hbl := HP.out.2.2.2.2.1.trans (KpB.of_below hb15)
        refine hR.mono ?_
        rintro e W3 (⟨rfl, hJ3, hk3⟩ | ⟨rfl, hJx3⟩)
        · have HQ := Lib.hid (And.intro hJ3 (hbl.trans hk3))
          clear hJ3 hk3 hbl hy hR
          gi_wp2
          go_roundw
          case rel => exact ⟨nx, pre ++ [⟨a, k, p, g⟩], by have h1 := HP.out.2.1; have h2 := HP.out.2.2.2.2.2.2.1; have h3 := HP.out.2.2.2.2.2.2.2; omega, rfl, HQ.out.2, HQ.out.1, Lib.hid ⟨Hre.out g, by rw [sumP_snoc]; have h3 := HP.out.2.2.2.2.2.2.2; have h6 := he.out.2; simp only; omega⟩⟩
          case measure => have h1 := HP.out.1; have h3 := HP.out.2.2.2.2.2.2.2; simp [intOf]; omega
        · have HQ := Lib.hid hJx3
          clear hJx3 hbl hy hR
          gi_wp2
          refine bodyPost_ret (results_none rfl _ _ _) rfl ?_
          exact ⟨⟨_, rfl⟩, .inr ⟨_, trivial, HQ.out⟩⟩
      · have hst := placed_stop l a (by omega) (.inr ht)
        obtain ⟨t, ht'⟩ : ∃ t, t = (wholeD (l.drop a)).2.2.2 := ⟨_, rfl⟩
        rw [← ht'] at hst ht
        have hw := whole_any wr hsr (a : Int) hN
        obtain ⟨⟨k, p, nx, t2⟩, hR2⟩ : ∃ R, R = wholeF l (a : Int) := ⟨_, rfl⟩
        rw [← hR2] at hw hst
        obtain rfl : t2 = t := hst.1
        have HW : Hid (Calls Try.prog 92 #[.slice A N c, .int .i64 (a : Int)] wr fun e w' => ∃ P pc, e = .returned (.tuple #[.agg #[.int .u8 (k.toNat : Int), .slice P p.length pc], .int .i64 nx, .int .i64 (t2 : Int)]) ∧ Below wr.heap.size wr w') := Lib.hid (hw.mono (fun e w' ⟨P, pc, h1, _, h3⟩ => ⟨P, pc, h1, h3⟩))
        have i1 : (a : Int) < (N : Int) := by omega
        have i2 : ((t2 : Int) != 0) = true := by simp; omega
        have hE : pre.map Yl.pj = placedF 0 (scanF l).1 := by
          have h5 := he.out.1
          rw [hst.2.1, placedF, List.append_nil] at h5
          exact h5
        have HP := Lib.hid (And.intro hj hE)
        clear hst ht' ht hw hR2 hk hj hsr hE hlt hl h0 hb hs hY he
        gi_wp2_with (first
          | (refine ⟨trivial, ?_⟩; gi_at_call 92; refine (callsIn_wide.2 HW.out).mono ?_; rintro e w3 ⟨P, pc, rfl, hb3⟩; have H3 := Lib.hid (bthen hb3 ((Below.refl _ _).alloc (Nat.le_refl _) (.cells #[.int .u8 (k.toNat : Int), .slice P p.length pc] 70))); clear hb3))
        refine ⟨trivial, ?_⟩
        gi_wp2
        refine ⟨fun _ h => (by cases h), ?_⟩
        gi_wp2
        refine bodyPost_ret (results_none rfl _ _ _) rfl ?_
        exact ⟨⟨_, rfl⟩, .inl ⟨pre, HP.out.2, hJ _ _ _ HP.out.1 H3.out⟩⟩
    · obtain rfl : a = N := by omega
      have hst := placed_stop l a (by omega) (.inl (by omega))
      have hE : pre.map Yl.pj = placedF 0 (scanF l).1 := by
        have h5 := he.out.1
        rw [hst.2.1, placedF, List.append_nil] at h5
        exact h5
      have HP := Lib.hid (And.intro hj hE)
      clear hst hE hk hj hsr hb hs hY he h0
      gi_wp2
      go_end0
      exact ⟨⟨_, rfl⟩, .inl ⟨pre, HP.out.2, HP.out.1⟩⟩
end Go.Proofs.Ytpjmbhhfpoamnaa
