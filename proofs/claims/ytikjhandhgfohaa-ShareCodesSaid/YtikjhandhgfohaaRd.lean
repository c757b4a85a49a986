import Derived.Test.YtikjhandhgfohaaChecked
import Derived.Test.YtikjhandhgfohaaAp2
import Derived.Test.YtikjhandhgfohaaPiece
import Derived.Test.YtikjhandhgfohaaBits2
import Derived.Deep.RegionHeld3
import Derived.Recover
import Derived.Defers
set_option linter.unusedVariables false
set_option linter.unusedSimpArgs false
namespace Go.Proofs.Ytikjhandhgfohaa
open Go.RowKit
/-! ### the reader: its block, its bytes -/
structure Rd (w : World) (p : Nat) (G : List Nat) (l : List UInt8) (at_ f : Nat) : Prop where
  out : ∃ v, w.heap[p]? = some (.cells #[v, .int .i64 at_, .int .i64 f] 77 (0, 0)) ∧ w.ownsRow 0 5 1 v l.length (l.map by8) ∧ ∀ k, v.ownBlock = some k → k ≠ p ∧ k ∈ G
  mem : p ∈ G
  lts : ∀ x ∈ G, x < w.heap.size
  le : at_ ≤ l.length
  max : l.length ≤ 140737488351232
theorem Rd.keep {M : List Nat} {w w' : World} {p : Nat} {G : List Nat} {l : List UInt8} {a f : Nat} (h : Rd w p G l a f) (k : Keep M w w') (hM : ∀ x ∈ G, x ∉ M) : Rd w' p G l a f := by
  obtain ⟨v, hb, ho, hv⟩ := h.out
  exact ⟨⟨v, k.heap hb (hM _ h.mem), k.own ho (fun j hj => hM _ (hv j hj).2), hv⟩, h.mem, fun x hx => Nat.lt_of_lt_of_le (h.lts x hx) k.size, h.le, h.max⟩
theorem Rd.below {w w' : World} {p : Nat} {G : List Nat} {l : List UInt8} {a f : Nat} (h : Rd w p G l a f) (k : Below w.heap.size w w') : Rd w' p G l a f := h.keep (Keep.of_below k []) (by simp)
/-- another place -/
theorem Rd.setAt {w : World} {p : Nat} {G : List Nat} {l : List UInt8} {a f : Nat} (h : Rd w p G l a f) (b : Nat) (hb : b ≤ l.length) : Rd (w.setCell ⟨p, 1, none⟩ (.int .i64 (b : Int))) p G l b f := by
  obtain ⟨v, hblk, ho, hv⟩ := h.out
  have kk : Keep [p] w (w.setCell ⟨p, 1, none⟩ (.int .i64 (b : Int))) := (Keep.refl [p] w).setCell (.inl (by simp)) _
  refine ⟨⟨v, ?_, kk.own ho (fun k hk => by have := (hv k hk).1; simpa using this), hv⟩, h.mem, fun x hx => Nat.lt_of_lt_of_le (h.lts x hx) kk.size, hb, h.max⟩
  have := heap_setCell_same w p 1 _ _ (.int .i64 (b : Int)) hblk
  simpa using this
theorem Rd.setFault {w : World} {p : Nat} {G : List Nat} {l : List UInt8} {a f : Nat} (h : Rd w p G l a f) (g : Nat) : Rd (w.setCell ⟨p, 2, none⟩ (.int .i64 (g : Int))) p G l a g := by
  obtain ⟨v, hblk, ho, hv⟩ := h.out
  have kk : Keep [p] w (w.setCell ⟨p, 2, none⟩ (.int .i64 (g : Int))) := (Keep.refl [p] w).setCell (.inl (by simp)) _
  refine ⟨⟨v, ?_, kk.own ho (fun k hk => by have := (hv k hk).1; simpa using this), hv⟩, h.mem, fun x hx => Nat.lt_of_lt_of_le (h.lts x hx) kk.size, h.le, h.max⟩
  have := heap_setCell_same w p 2 _ _ (.int .i64 (g : Int)) hblk
  simpa using this
theorem Rd.cells {w : World} {p : Nat} {G : List Nat} {l : List UInt8} {a f : Nat} (h : Rd w p G l a f) : ∃ A c, w.cell? ⟨p, 0, none⟩ = some (.slice A l.length c) ∧ w.cell? ⟨p, 1, none⟩ = some (.int .i64 a) ∧ w.cell? ⟨p, 2, none⟩ = some (.int .i64 f) ∧ Sl w 1 A l.length c (l.map by8) ∧ w.frozen? ⟨p, 1, none⟩ = false ∧ w.frozen? ⟨p, 2, none⟩ = false ∧ (∀ ad, A = some ad → ad.block ≠ p ∧ ad.block ∈ G) := by
  obtain ⟨v, hblk, ho, hv⟩ := h.out
  obtain ⟨A, c, rfl, s, _⟩ := own_sl ho
  exact ⟨A, c, box_cell hblk 0 _ rfl, box_cell hblk 1 _ rfl, box_cell hblk 2 _ rfl, s, box_free hblk 1, box_free hblk 2, fun ad e => hv ad.block (by rw [e]; rfl)⟩
/-- how a read gives up -/
def gave (e : Nat) : Ending := .panicked [{ v := .iface 86 (.agg #[.int .i64 e]), recovered := false }]
theorem Rd_Left (w : World) {p : Nat} {G : List Nat} {l : List UInt8} {a f : Nat} (h : Rd w p G l a f) :
    Calls Try.prog 51 #[.pointer (some ⟨p, 0, none⟩)] w fun e w' => e = .returned (.int .i64 (l.length - a : Nat)) ∧ Drawn w w' := by
  obtain ⟨A, c, c0, c1, c2, s, _⟩ := h.cells
  have hle := h.le; have hmx := h.max
  obtain ⟨n, hn⟩ : ∃ n, n = l.length := ⟨_, rfl⟩
  rw [← hn] at hle hmx c0 s ⊢
  have hsub : ((n - a : Nat) : Int) = (n : Int) - a := by omega
  clear hn s c2
  rw [hsub]
  clear hsub
  go_enter Try.func51, Try.ntmps51
  go_wp2_with fail
  go_quiet (fail)
  go_wp2
  go_ret
  exact ⟨by simp, (by first | exact ⟨⟨_, rfl⟩⟩ | exact ⟨⟨_, World.drewN_drewN ..⟩⟩)⟩
def doneR (l : List UInt8) (a f : Nat) : Nat := if f = 0 ∧ a < l.length then 90 else f
theorem Rd_Done (w : World) {p : Nat} {G : List Nat} {l : List UInt8} {a f : Nat} (h : Rd w p G l a f) :
    Calls Try.prog 32 #[.pointer (some ⟨p, 0, none⟩)] w fun e w' => e = .returned (.int .i64 (doneR l a f : Nat)) ∧ Drawn w w' := by
  obtain ⟨A, c, c0, c1, c2, s, _⟩ := h.cells
  have hle := h.le
  by_cases hf : f = 0
  · subst hf
    have HL := Lib.hid (Rd_Left w h)
    obtain ⟨m, hm⟩ : ∃ m, m = l.length - a := ⟨_, rfl⟩
    rw [← hm] at HL
    by_cases hz : 0 < m
    · have HR : Hid (doneR l a 0 = 90) := Lib.hid (by rw [doneR, if_pos ⟨rfl, by omega⟩])
      have i1 : (0 : Int) < (m : Int) := by omega
      clear hm hz hle s c0 c1
      go_enter Try.func32, Try.ntmps32
      go_wp2_with (first | (at_builtin; refine Stopped.out ?_) | (at_make; refine Stopped.out ?_))
      refine HL.out.mono ?_
      rintro e w1 ⟨rfl, hd⟩
      have c3 := cell_below c2 hd.below
      go_wp2
      go_ret
      exact ⟨by (rw [HR.out]) <;> rfl, hd⟩
    · have HR : Hid (doneR l a 0 = 0) := Lib.hid (by rw [doneR, if_neg (by omega)])
      obtain rfl : m = 0 := by omega
      clear hm hz hle s c0 c1
      go_enter Try.func32, Try.ntmps32
      go_wp2_with (first | (at_builtin; refine Stopped.out ?_) | (at_make; refine Stopped.out ?_))
      refine HL.out.mono ?_
      rintro e w1 ⟨rfl, hd⟩
      have c3 := cell_below c2 hd.below
      go_wp2
      go_ret
      exact ⟨by (rw [HR.out]) <;> rfl, hd⟩
  · have HR : Hid (doneR l a f = f) := Lib.hid (by rw [doneR, if_neg (by omega)])
    have i1 : ((f : Int) == 0) = false := by simp; omega
    clear hf hle s c0 c1
    go_enter Try.func32, Try.ntmps32
    go_wp2
    go_ret
    exact ⟨by (rw [HR.out]) <;> rfl, Drawn.refl _⟩
set_option maxRecDepth 100000 in
theorem take_no (w : World) {p : Nat} {G : List Nat} {l : List UInt8} {a f : Nat} (h : Rd w p G l a f) (n : Int) (hn : n < 0 ∨ ((l.length - a : Nat) : Int) < n) (hn2 : n ≤ 9223372036854775807) :
    Calls Try.prog 46 #[.pointer (some ⟨p, 0, none⟩), .int .i64 n] w fun e w' => e = gave 90 ∧ Drawn w w' := by
  obtain ⟨A, c, c0, c1, c2, s, _⟩ := h.cells
  have hle := h.le; have hmx := h.max
  obtain ⟨m, hm⟩ : ∃ m, m = l.length := ⟨_, rfl⟩
  rw [← hm] at hle hmx c0 s hn
  clear hm s c2
  by_cases h0 : n < 0
  · have i0 : n < 0 := h0
    clear hn h0
    go_enter Try.func46, Try.ntmps46
    go_wp2_with fail
    go_quiet (fail)
    go_wp2
    exact ⟨rfl, rfl, (by first | exact ⟨⟨_, rfl⟩⟩ | exact ⟨⟨_, World.drewN_drewN ..⟩⟩)⟩
  · have i0 : decide (n < 0) = false := decide_eq_false h0
    have i1 : (m : Int) - (a : Int) < n := by omega
    clear hn h0
    go_enter Try.func46, Try.ntmps46
    go_wp2_with fail
    go_quiet (fail)
    go_wp2
    exact ⟨rfl, rfl, (by first | exact ⟨⟨_, rfl⟩⟩ | exact ⟨⟨_, World.drewN_drewN ..⟩⟩)⟩
theorem EBr : ElemT Try.prog 23 5 (.int .u8 0) 1 1 := ⟨Try.underlying23, by kernel_rfl, rfl, by decide⟩
theorem lit_drew (w : World) (base : Nat) (h : base ≤ w.heap.size) : (w.alloc (.cells #[] 5)).drew.ownsRow base 5 1 (.slice (some ⟨w.heap.size, 0, none⟩) 0 0) 0 [] := by
  have := World.ownsRow_lit (base := base) (e := 5) (size := 1) w #[] 0 h (by decide) rfl
  exact this
set_option maxRecDepth 100000 in
set_option maxHeartbeats 800000 in
theorem take_yes (w : World) {p : Nat} {G : List Nat} {l : List UInt8} {a f : Nat} (h : Rd w p G l a f) (n : Nat) (hn : a + n ≤ l.length) :
    Calls Try.prog 46 #[.pointer (some ⟨p, 0, none⟩), .int .i64 n] w fun e w' => ∃ v, e = .returned v ∧ w'.ownsRow w.heap.size 5 1 v n (((l.drop a).take n).map by8) ∧ Rd w' p G l (a + n) f ∧ Keep [p] w w' := by
  have hset := h.setAt (a + n) hn
  obtain ⟨A, c, c0, c1, c2, s, f1, f2, hA⟩ := h.cells
  have hle := h.le; have hmx := h.max; have hsc := s.le
  have hm := h.mem; have hlts := h.lts
  obtain ⟨v, hb, _, _⟩ := h.out
  have hb2 := heap_setCell_same w p 1 _ _ (.int .i64 ((a + n : Nat) : Int)) hb
  have d0 : (w.setCell ⟨p, 1, none⟩ (.int .i64 ((a + n : Nat) : Int))).cell? ⟨p, 0, none⟩ = some (.slice A l.length c) := by
    have e0 := box_cell hb 0 v rfl
    rw [e0] at c0
    obtain rfl := Option.some.inj c0
    exact box_cell hb2 0 _ rfl
  have d1 : (w.setCell ⟨p, 1, none⟩ (.int .i64 ((a + n : Nat) : Int))).cell? ⟨p, 1, none⟩ = some (.int .i64 ((a + n : Nat) : Int)) := box_cell hb2 1 _ rfl
  have HS := Lib.hid hset
  have hpl : p < w.heap.size := hlts p hm
  have hb2s : Keep [p] w (w.setCell ⟨p, 1, none⟩ (.int .i64 ((a + n : Nat) : Int))) := (Keep.refl [p] w).setCell (.inl (by simp)) _
  have hs2 := s.keep hb2s (fun ad e hx => (hA ad e).1 (by simpa using hx))
  have e1 : ((a + n : Nat) : Int) = (a : Int) + n := by omega
  rw [e1] at d0 d1 hs2 HS hb2s
  obtain ⟨m, hm2⟩ : ∃ m, m = l.length := ⟨_, rfl⟩
  have HM := Lib.hid hm2
  rw [← hm2] at hle hmx c0 s hn hsc d0 hs2
  have HK := Lib.hid (And.intro hb2s (And.intro hs2 hA))
  have i0 : decide ((n : Int) < 0) = false := decide_eq_false (by omega)
  have i1 : decide ((m : Int) - (a : Int) < n) = false := decide_eq_false (by omega)
  clear hb hb2 hset s hs2 hb2s hA hm2 e1 c2 f2 hm hlts
  go_enter Try.func46, Try.ntmps46
  go_wp2_with fail
  go_quiet (fail)
  go_wp2_with fail
  have HX := Lib.hid (And.intro (HS.out.below (below_drewN (Below.refl _ _) nq)) (And.intro (HK.out.1.drewN nq) (HK.out.2.1.drewN nq)))
  have d0' : ((w.drewN nq).setCell ⟨p, 1, none⟩ (.int .i64 ((a : Int) + n))).cell? ⟨p, 0, none⟩ = some (.slice A m c) := d0
  have d1' : ((w.drewN nq).setCell ⟨p, 1, none⟩ (.int .i64 ((a : Int) + n))).cell? ⟨p, 1, none⟩ = some (.int .i64 ((a : Int) + n)) := d1
  have hW1 : ∃ W1, W1 = (w.drewN nq).setCell ⟨p, 1, none⟩ (.int .i64 ((a : Int) + n)) := ⟨_, rfl⟩
  obtain ⟨W1, hW1⟩ := hW1
  have HX' : Hid (Rd W1 p G l (a + n) f ∧ Keep [p] w W1 ∧ Sl W1 1 A m c (l.map by8)) := Lib.hid (by rw [hW1]; exact HX.out)
  rw [← hW1] at d0' d1' ⊢
  clear hW1 HX HS d0 d1 c0 c1 f1
  have hsl := HX'.out.2.2
  obtain ⟨A', hA', hP⟩ := slice_piece A m c a n hn hsc hsl.nil (fun ad e h0 => (hsl.at_ ad e (by rw [hsl.len]; omega)).1)
  have HP := Lib.hid hP
  clear hP hsl
  have iq0 : IntKind.i64.wrap (a : Int) = a := by rw [IntKind.wrap_i64]; omega
  have iq1 : (0 : Int) ≤ (a : Int) + n := by omega
  have iq2 : (a : Int) + n ≤ (c : Int) := by omega
  have iq3 : (a : Int) ≤ (a : Int) + n := by omega
  have iq4 : ((a : Int) + n).toNat - a = n := by omega
  go_region_held3 (fun w' => w'.cell? ⟨p, 0, none⟩ = some (.slice A m c) ∧ w'.cell? ⟨p, 1, none⟩ = some (.int .i64 ((a : Int) + n))) (first | exact ⟨j0, j1⟩ | exact ⟨cell_ald d0' _, cell_ald d1' _⟩ | go_keep)
    (first | (refine ap_step EBr (by rfl) _ _ (by rfl) (by rfl) (lit_drew W1 _ (Nat.le_refl _)) (by rfl) ((HP.out _ _ HX'.out.2.2).below (w' := (W1.alloc (.cells #[] 5)).drew) (((Below.refl _ W1).alloc (Nat.le_refl _) _).drew)) (u8_one _) (by simp only [maxLen]; omega) (by omega) (by simp) ?_; intro v2 w2 o2 hg2 hnil2; have hb2 : Below W1.heap.size W1 w2 := ((((Below.refl _ W1).alloc (Nat.le_refl _) _).drew).grown hg2 (by simp) (fun k hk => (Option.some.inj hk) ▸ Nat.le_refl _)); have j0 := cell_below d0' hb2; have j1 := cell_below d1' hb2))
  all_goals
    go_wp2
    go_ret
    refine ⟨v2, rfl, ?_, HX'.out.1.below hb2, HX'.out.2.1.trans (Keep.of_below hb2 [p])⟩
    rw [List.nil_append, Nat.zero_add] at o2
    exact own_mono o2 HX'.out.2.1.size
end Go.Proofs.Ytikjhandhgfohaa
