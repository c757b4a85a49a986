import Derived.Test.YtdooabbeolfgfaaRefIn3
import Derived.Test.YtdooabbeolfgfaaRead9
set_option linter.unusedVariables false
set_option linter.unusedSimpArgs false
namespace Go.Proofs.Ytdooabbeolfgfaa
open Go.RowKit
/-- how a step of the document's reader is told -/
def FoundPost (w : World) (p B : Nat) (l : List UInt8) (R : Gt × Nat × Nat) (e : Ending) (w' : World) : Prop :=
  ∃ vb vl, e = .returned (.agg #[.int .u64 (R.1.x : Int), vb, vl, .int .i64 (R.1.n : Int)]) ∧ w'.ownsRow w.heap.size 5 1 vb R.1.b.length (R.1.b.map by8) ∧ w'.ownsRow w.heap.size 23 1 vl R.1.ns.length (R.1.ns.map by64) ∧ RIn w' p B l R.2.1 R.2.2 ∧ Keep [p] w w'
theorem found_end {w w4 w9 : World} {p B : Nat} {l : List UInt8} {a f : Nat} {s : Array Value} (hp : p < w.heap.size) (hB : B ≤ p) (hr : RIn w4 p B l a f) (k4 : Keep [p] (W3 w s) w4) (k9 : Keep [w.heap.size + 1, w.heap.size + 2] w4 w9) :
    RIn w9 p B l a f ∧ Keep [p] w w9 :=
  ⟨hr.keep k9 (fun y hy => by simp at hy; omega), ((Keep.of_below (W3_below w s) [p]).trans k4).trans' k9 (fun x hx => .inr (by simp at hx; omega))⟩
section
variable (w : World) {p : Nat} {B : Nat} {l : List UInt8} {a f : Nat} (h : RIn w p B l a f) (x0 : Nat) {ba la : Option Addr} {n0 bc ln lc : Nat} (n most : Int)
set_option maxRecDepth 100000 in
set_option maxHeartbeats 1600000 in
include h in
theorem found9_1 : Calls Try.prog 52 #[.pointer (some ⟨p, 0, none⟩), .agg #[.int .i64 1, .int .u64 x0, .slice ba n0 bc, .slice la ln lc, .int .i64 n, .int .i64 most]] w (FoundPost w p B l (stepR l a f 1 n most)) := by
  have hG := Lib.hid (And.intro h.lt h.low)
  have hB3 := W3_below w #[.int .i64 1, .int .u64 x0, .slice ba n0 bc, .slice la ln lc, .int .i64 n, .int .i64 most]
  have h3 := h.below hB3
  have e1 := W3_1 w #[.int .i64 1, .int .u64 x0, .slice ba n0 bc, .slice la ln lc, .int .i64 n, .int .i64 most]
  have e2 := W3_2 w #[.int .i64 1, .int .u64 x0, .slice ba n0 bc, .slice la ln lc, .int .i64 n, .int .i64 most]
  have e0 := W3_s w #[.int .i64 1, .int .u64 x0, .slice ba n0 bc, .slice la ln lc, .int .i64 n, .int .i64 most]
  have hz := W3_size w #[.int .i64 1, .int .u64 x0, .slice ba n0 bc, .slice la ln lc, .int .i64 n, .int .i64 most]
  have HU := Lib.hid (in_Byte (W3 w #[.int .i64 1, .int .u64 x0, .slice ba n0 bc, .slice la ln lc, .int .i64 n, .int .i64 most]) h3)
  obtain ⟨R, hR⟩ : ∃ R, R = rdV (numR l a 1) (bt l a) 0 a f := ⟨_, rfl⟩
  have HS : Hid (stepR l a f 1 n most = (Gt.ofX R.1, R.2.1, R.2.2)) := Lib.hid (by rw [hR, ← rdV_ofX]; simp [stepR])
  have hx : R.1 < 256 := by rw [hR]; exact rdV_lt (bt_lt _ _)
  rw [← hR] at HU
  obtain ⟨x, a2, f2⟩ := R
  simp only at HU HS hx
  have iw : IntKind.u64.wrap (x : Int) = (x : Int) := by rw [IntKind.wrap_u64]; omega
  have HB := Lib.hid (And.intro e1 e2)
  have g0 : (W3 w #[.int .i64 1, .int .u64 x0, .slice ba n0 bc, .slice la ln lc, .int .i64 n, .int .i64 most]).cell? ⟨w.heap.size, 0, none⟩ = some (.int .i64 1) := box_cell e0 0 _ rfl
  clear hR hB3 h3 e0 e1 e2 h
  unfold W3 at g0
  unfold W3 at HU
  go_enter Try.func52, Try.ntmps52
  go_wp2_with (first | (at_builtin; refine Stopped.out ?_) | (at_make; refine Stopped.out ?_))
  refine HU.out.mono ?_
  rintro e w4 ⟨rfl, hr4, k4⟩
  have hpl := hG.out.1
  have d1 := k4.heap HB.out.1 (by simp; omega)
  have d2 := k4.heap HB.out.2 (by simp; omega)
  have c10 : w4.cell? ⟨w.heap.size + 1, 0, none⟩ = some (.int .u64 0) := box_cell d1 0 _ rfl
  have f10 := box_free d1 0
  have c11 : w4.cell? ⟨w.heap.size + 1, 1, none⟩ = some (.slice none 0 0) := box_cell d1 1 _ rfl
  have f11 := box_free d1 1
  have c12 : w4.cell? ⟨w.heap.size + 1, 2, none⟩ = some (.slice none 0 0) := box_cell d1 2 _ rfl
  have f12 := box_free d1 2
  have c13 : w4.cell? ⟨w.heap.size + 1, 3, none⟩ = some (.int .i64 0) := box_cell d1 3 _ rfl
  have f13 := box_free d1 3
  have c20 : w4.cell? ⟨w.heap.size + 2, 0, none⟩ = some (.int .u64 0) := box_cell d2 0 _ rfl
  have f20 := box_free d2 0
  have c21 : w4.cell? ⟨w.heap.size + 2, 1, none⟩ = some (.slice none 0 0) := box_cell d2 1 _ rfl
  have f21 := box_free d2 1
  have c22 : w4.cell? ⟨w.heap.size + 2, 2, none⟩ = some (.slice none 0 0) := box_cell d2 2 _ rfl
  have f22 := box_free d2 2
  have c23 : w4.cell? ⟨w.heap.size + 2, 3, none⟩ = some (.int .i64 0) := box_cell d2 3 _ rfl
  have f23 := box_free d2 3
  have HD := Lib.hid (And.intro d1 (And.intro d2 (And.intro hr4 (show Keep [p] (W3 w #[.int .i64 1, .int .u64 x0, .slice ba n0 bc, .slice la ln lc, .int .i64 n, .int .i64 most]) w4 from k4))))
  clear d1 d2 hr4 k4 g0 HB HU
  go_wp2
  have d1' := ((Keep.refl [w.heap.size + 2] w4).setCell (p := ⟨w.heap.size + 2, 0, none⟩) (.inl (by simp)) (.int .u64 (x : Int))).heap HD.out.1 (by simp)
  have d3 := set4 _ (w.heap.size + 1) d1' (.int .u64 (x : Int)) (.slice none 0 0) (.slice none 0 0) (.int .i64 0)
  have k9 : Keep [w.heap.size + 1, w.heap.size + 2] w4 (((((w4.setCell ⟨w.heap.size + 2, 0, none⟩ (.int .u64 (x : Int))).setCell ⟨w.heap.size + 1, 0, none⟩ (.int .u64 (x : Int))).setCell ⟨w.heap.size + 1, 1, none⟩ (.slice none 0 0)).setCell ⟨w.heap.size + 1, 2, none⟩ (.slice none 0 0)).setCell ⟨w.heap.size + 1, 3, none⟩ (.int .i64 0)) :=
    (((((Keep.refl _ w4).setCell (p := ⟨w.heap.size + 2, 0, none⟩) (.inl (by simp)) _).setCell (p := ⟨w.heap.size + 1, 0, none⟩) (.inl (by simp)) _).setCell (p := ⟨w.heap.size + 1, 1, none⟩) (.inl (by simp)) _).setCell (p := ⟨w.heap.size + 1, 2, none⟩) (.inl (by simp)) _).setCell (p := ⟨w.heap.size + 1, 3, none⟩) (.inl (by simp)) _
  have hE := found_end hG.out.1 hG.out.2 HD.out.2.2.1 HD.out.2.2.2 k9
  refine bodyPost_ret (results_cell_row (P := Try.prog) rfl _ _ _ _ _ _ _ (by rfl) d3 Try.underlying85 rfl (by kernel_rfl)) rfl ?_
  rw [HS.out]
  exact ⟨_, _, by simp [Gt.ofX, Gt.ofB, Gt.no], World.ownsRow_nil .., World.ownsRow_nil .., hE.1, hE.2⟩
set_option maxRecDepth 100000 in
set_option maxHeartbeats 1600000 in
include h in
theorem found9_2 : Calls Try.prog 52 #[.pointer (some ⟨p, 0, none⟩), .agg #[.int .i64 2, .int .u64 x0, .slice ba n0 bc, .slice la ln lc, .int .i64 n, .int .i64 most]] w (FoundPost w p B l (stepR l a f 2 n most)) := by
  have hG := Lib.hid (And.intro h.lt h.low)
  have hB3 := W3_below w #[.int .i64 2, .int .u64 x0, .slice ba n0 bc, .slice la ln lc, .int .i64 n, .int .i64 most]
  have h3 := h.below hB3
  have e1 := W3_1 w #[.int .i64 2, .int .u64 x0, .slice ba n0 bc, .slice la ln lc, .int .i64 n, .int .i64 most]
  have e2 := W3_2 w #[.int .i64 2, .int .u64 x0, .slice ba n0 bc, .slice la ln lc, .int .i64 n, .int .i64 most]
  have e0 := W3_s w #[.int .i64 2, .int .u64 x0, .slice ba n0 bc, .slice la ln lc, .int .i64 n, .int .i64 most]
  have hz := W3_size w #[.int .i64 2, .int .u64 x0, .slice ba n0 bc, .slice la ln lc, .int .i64 n, .int .i64 most]
  have HU := Lib.hid (in_U32 (W3 w #[.int .i64 2, .int .u64 x0, .slice ba n0 bc, .slice la ln lc, .int .i64 n, .int .i64 most]) h3)
  obtain ⟨R, hR⟩ : ∃ R, R = rdV (numR l a 4) (be (atR l a 4)) 0 a f := ⟨_, rfl⟩
  have HS : Hid (stepR l a f 2 n most = (Gt.ofX R.1, R.2.1, R.2.2)) := Lib.hid (by rw [hR, ← rdV_ofX]; simp [stepR])
  have hx : R.1 < 4294967296 := by rw [hR]; exact rdV_lt (by have h1 := be_lt (atR l a 4); have h2 : 256 ^ (atR l a 4).length ≤ 256 ^ 4 := Nat.pow_le_pow_right (by decide) (by simp [atR]; omega); omega)
  rw [← hR] at HU
  obtain ⟨x, a2, f2⟩ := R
  simp only at HU HS hx
  have iw : IntKind.u64.wrap (x : Int) = (x : Int) := by rw [IntKind.wrap_u64]; omega
  have HB := Lib.hid (And.intro e1 e2)
  have g0 : (W3 w #[.int .i64 2, .int .u64 x0, .slice ba n0 bc, .slice la ln lc, .int .i64 n, .int .i64 most]).cell? ⟨w.heap.size, 0, none⟩ = some (.int .i64 2) := box_cell e0 0 _ rfl
  clear hR hB3 h3 e0 e1 e2 h
  unfold W3 at g0
  unfold W3 at HU
  go_enter Try.func52, Try.ntmps52
  go_wp2_with (first | (at_builtin; refine Stopped.out ?_) | (at_make; refine Stopped.out ?_))
  refine HU.out.mono ?_
  rintro e w4 ⟨rfl, hr4, k4⟩
  have hpl := hG.out.1
  have d1 := k4.heap HB.out.1 (by simp; omega)
  have d2 := k4.heap HB.out.2 (by simp; omega)
  have c10 : w4.cell? ⟨w.heap.size + 1, 0, none⟩ = some (.int .u64 0) := box_cell d1 0 _ rfl
  have f10 := box_free d1 0
  have c11 : w4.cell? ⟨w.heap.size + 1, 1, none⟩ = some (.slice none 0 0) := box_cell d1 1 _ rfl
  have f11 := box_free d1 1
  have c12 : w4.cell? ⟨w.heap.size + 1, 2, none⟩ = some (.slice none 0 0) := box_cell d1 2 _ rfl
  have f12 := box_free d1 2
  have c13 : w4.cell? ⟨w.heap.size + 1, 3, none⟩ = some (.int .i64 0) := box_cell d1 3 _ rfl
  have f13 := box_free d1 3
  have c20 : w4.cell? ⟨w.heap.size + 2, 0, none⟩ = some (.int .u64 0) := box_cell d2 0 _ rfl
  have f20 := box_free d2 0
  have c21 : w4.cell? ⟨w.heap.size + 2, 1, none⟩ = some (.slice none 0 0) := box_cell d2 1 _ rfl
  have f21 := box_free d2 1
  have c22 : w4.cell? ⟨w.heap.size + 2, 2, none⟩ = some (.slice none 0 0) := box_cell d2 2 _ rfl
  have f22 := box_free d2 2
  have c23 : w4.cell? ⟨w.heap.size + 2, 3, none⟩ = some (.int .i64 0) := box_cell d2 3 _ rfl
  have f23 := box_free d2 3
  have HD := Lib.hid (And.intro d1 (And.intro d2 (And.intro hr4 (show Keep [p] (W3 w #[.int .i64 2, .int .u64 x0, .slice ba n0 bc, .slice la ln lc, .int .i64 n, .int .i64 most]) w4 from k4))))
  clear d1 d2 hr4 k4 g0 HB HU
  go_wp2
  have d1' := ((Keep.refl [w.heap.size + 2] w4).setCell (p := ⟨w.heap.size + 2, 0, none⟩) (.inl (by simp)) (.int .u64 (x : Int))).heap HD.out.1 (by simp)
  have d3 := set4 _ (w.heap.size + 1) d1' (.int .u64 (x : Int)) (.slice none 0 0) (.slice none 0 0) (.int .i64 0)
  have k9 : Keep [w.heap.size + 1, w.heap.size + 2] w4 (((((w4.setCell ⟨w.heap.size + 2, 0, none⟩ (.int .u64 (x : Int))).setCell ⟨w.heap.size + 1, 0, none⟩ (.int .u64 (x : Int))).setCell ⟨w.heap.size + 1, 1, none⟩ (.slice none 0 0)).setCell ⟨w.heap.size + 1, 2, none⟩ (.slice none 0 0)).setCell ⟨w.heap.size + 1, 3, none⟩ (.int .i64 0)) :=
    (((((Keep.refl _ w4).setCell (p := ⟨w.heap.size + 2, 0, none⟩) (.inl (by simp)) _).setCell (p := ⟨w.heap.size + 1, 0, none⟩) (.inl (by simp)) _).setCell (p := ⟨w.heap.size + 1, 1, none⟩) (.inl (by simp)) _).setCell (p := ⟨w.heap.size + 1, 2, none⟩) (.inl (by simp)) _).setCell (p := ⟨w.heap.size + 1, 3, none⟩) (.inl (by simp)) _
  have hE := found_end hG.out.1 hG.out.2 HD.out.2.2.1 HD.out.2.2.2 k9
  refine bodyPost_ret (results_cell_row (P := Try.prog) rfl _ _ _ _ _ _ _ (by rfl) d3 Try.underlying85 rfl (by kernel_rfl)) rfl ?_
  rw [HS.out]
  exact ⟨_, _, by simp [Gt.ofX, Gt.ofB, Gt.no], World.ownsRow_nil .., World.ownsRow_nil .., hE.1, hE.2⟩
set_option maxRecDepth 100000 in
set_option maxHeartbeats 1600000 in
include h in
theorem found9_3 : Calls Try.prog 52 #[.pointer (some ⟨p, 0, none⟩), .agg #[.int .i64 3, .int .u64 x0, .slice ba n0 bc, .slice la ln lc, .int .i64 n, .int .i64 most]] w (FoundPost w p B l (stepR l a f 3 n most)) := by
  have hG := Lib.hid (And.intro h.lt h.low)
  have hB3 := W3_below w #[.int .i64 3, .int .u64 x0, .slice ba n0 bc, .slice la ln lc, .int .i64 n, .int .i64 most]
  have h3 := h.below hB3
  have e1 := W3_1 w #[.int .i64 3, .int .u64 x0, .slice ba n0 bc, .slice la ln lc, .int .i64 n, .int .i64 most]
  have e2 := W3_2 w #[.int .i64 3, .int .u64 x0, .slice ba n0 bc, .slice la ln lc, .int .i64 n, .int .i64 most]
  have e0 := W3_s w #[.int .i64 3, .int .u64 x0, .slice ba n0 bc, .slice la ln lc, .int .i64 n, .int .i64 most]
  have hz := W3_size w #[.int .i64 3, .int .u64 x0, .slice ba n0 bc, .slice la ln lc, .int .i64 n, .int .i64 most]
  have HU := Lib.hid (in_U64 (W3 w #[.int .i64 3, .int .u64 x0, .slice ba n0 bc, .slice la ln lc, .int .i64 n, .int .i64 most]) h3)
  obtain ⟨R, hR⟩ : ∃ R, R = rdV (numR l a 8) (be (atR l a 8)) 0 a f := ⟨_, rfl⟩
  have HS : Hid (stepR l a f 3 n most = (Gt.ofX R.1, R.2.1, R.2.2)) := Lib.hid (by rw [hR, ← rdV_ofX]; simp [stepR])
  have hx : R.1 < 18446744073709551616 := by rw [hR]; exact rdV_lt (by have h1 := be_lt (atR l a 8); have h2 : 256 ^ (atR l a 8).length ≤ 256 ^ 8 := Nat.pow_le_pow_right (by decide) (by simp [atR]; omega); omega)
  rw [← hR] at HU
  obtain ⟨x, a2, f2⟩ := R
  simp only at HU HS hx
  have iw : IntKind.u64.wrap (x : Int) = (x : Int) := by rw [IntKind.wrap_u64]; omega
  have HB := Lib.hid (And.intro e1 e2)
  have g0 : (W3 w #[.int .i64 3, .int .u64 x0, .slice ba n0 bc, .slice la ln lc, .int .i64 n, .int .i64 most]).cell? ⟨w.heap.size, 0, none⟩ = some (.int .i64 3) := box_cell e0 0 _ rfl
  clear hR hB3 h3 e0 e1 e2 h
  unfold W3 at g0
  unfold W3 at HU
  go_enter Try.func52, Try.ntmps52
  go_wp2_with (first | (at_builtin; refine Stopped.out ?_) | (at_make; refine Stopped.out ?_))
  refine HU.out.mono ?_
  rintro e w4 ⟨rfl, hr4, k4⟩
  have hpl := hG.out.1
  have d1 := k4.heap HB.out.1 (by simp; omega)
  have d2 := k4.heap HB.out.2 (by simp; omega)
  have c10 : w4.cell? ⟨w.heap.size + 1, 0, none⟩ = some (.int .u64 0) := box_cell d1 0 _ rfl
  have f10 := box_free d1 0
  have c11 : w4.cell? ⟨w.heap.size + 1, 1, none⟩ = some (.slice none 0 0) := box_cell d1 1 _ rfl
  have f11 := box_free d1 1
  have c12 : w4.cell? ⟨w.heap.size + 1, 2, none⟩ = some (.slice none 0 0) := box_cell d1 2 _ rfl
  have f12 := box_free d1 2
  have c13 : w4.cell? ⟨w.heap.size + 1, 3, none⟩ = some (.int .i64 0) := box_cell d1 3 _ rfl
  have f13 := box_free d1 3
  have c20 : w4.cell? ⟨w.heap.size + 2, 0, none⟩ = some (.int .u64 0) := box_cell d2 0 _ rfl
  have f20 := box_free d2 0
  have c21 : w4.cell? ⟨w.heap.size + 2, 1, none⟩ = some (.slice none 0 0) := box_cell d2 1 _ rfl
  have f21 := box_free d2 1
  have c22 : w4.cell? ⟨w.heap.size + 2, 2, none⟩ = some (.slice none 0 0) := box_cell d2 2 _ rfl
  have f22 := box_free d2 2
  have c23 : w4.cell? ⟨w.heap.size + 2, 3, none⟩ = some (.int .i64 0) := box_cell d2 3 _ rfl
  have f23 := box_free d2 3
  have HD := Lib.hid (And.intro d1 (And.intro d2 (And.intro hr4 (show Keep [p] (W3 w #[.int .i64 3, .int .u64 x0, .slice ba n0 bc, .slice la ln lc, .int .i64 n, .int .i64 most]) w4 from k4))))
  clear d1 d2 hr4 k4 g0 HB HU
  go_wp2
  have d1' := ((Keep.refl [w.heap.size + 2] w4).setCell (p := ⟨w.heap.size + 2, 0, none⟩) (.inl (by simp)) (.int .u64 (x : Int))).heap HD.out.1 (by simp)
  have d3 := set4 _ (w.heap.size + 1) d1' (.int .u64 (x : Int)) (.slice none 0 0) (.slice none 0 0) (.int .i64 0)
  have k9 : Keep [w.heap.size + 1, w.heap.size + 2] w4 (((((w4.setCell ⟨w.heap.size + 2, 0, none⟩ (.int .u64 (x : Int))).setCell ⟨w.heap.size + 1, 0, none⟩ (.int .u64 (x : Int))).setCell ⟨w.heap.size + 1, 1, none⟩ (.slice none 0 0)).setCell ⟨w.heap.size + 1, 2, none⟩ (.slice none 0 0)).setCell ⟨w.heap.size + 1, 3, none⟩ (.int .i64 0)) :=
    (((((Keep.refl _ w4).setCell (p := ⟨w.heap.size + 2, 0, none⟩) (.inl (by simp)) _).setCell (p := ⟨w.heap.size + 1, 0, none⟩) (.inl (by simp)) _).setCell (p := ⟨w.heap.size + 1, 1, none⟩) (.inl (by simp)) _).setCell (p := ⟨w.heap.size + 1, 2, none⟩) (.inl (by simp)) _).setCell (p := ⟨w.heap.size + 1, 3, none⟩) (.inl (by simp)) _
  have hE := found_end hG.out.1 hG.out.2 HD.out.2.2.1 HD.out.2.2.2 k9
  refine bodyPost_ret (results_cell_row (P := Try.prog) rfl _ _ _ _ _ _ _ (by rfl) d3 Try.underlying85 rfl (by kernel_rfl)) rfl ?_
  rw [HS.out]
  exact ⟨_, _, by simp [Gt.ofX, Gt.ofB, Gt.no], World.ownsRow_nil .., World.ownsRow_nil .., hE.1, hE.2⟩
set_option maxRecDepth 100000 in
set_option maxHeartbeats 1600000 in
include h in
theorem found9_4 : Calls Try.prog 52 #[.pointer (some ⟨p, 0, none⟩), .agg #[.int .i64 4, .int .u64 x0, .slice ba n0 bc, .slice la ln lc, .int .i64 n, .int .i64 most]] w (FoundPost w p B l (stepR l a f 4 n most)) := by
  have hG := Lib.hid (And.intro h.lt h.low)
  have hB3 := W3_below w #[.int .i64 4, .int .u64 x0, .slice ba n0 bc, .slice la ln lc, .int .i64 n, .int .i64 most]
  have h3 := h.below hB3
  have e1 := W3_1 w #[.int .i64 4, .int .u64 x0, .slice ba n0 bc, .slice la ln lc, .int .i64 n, .int .i64 most]
  have e2 := W3_2 w #[.int .i64 4, .int .u64 x0, .slice ba n0 bc, .slice la ln lc, .int .i64 n, .int .i64 most]
  have e0 := W3_s w #[.int .i64 4, .int .u64 x0, .slice ba n0 bc, .slice la ln lc, .int .i64 n, .int .i64 most]
  have hz := W3_size w #[.int .i64 4, .int .u64 x0, .slice ba n0 bc, .slice la ln lc, .int .i64 n, .int .i64 most]
  have HU := Lib.hid (in_Uint (W3 w #[.int .i64 4, .int .u64 x0, .slice ba n0 bc, .slice la ln lc, .int .i64 n, .int .i64 most]) h3)
  obtain ⟨R, hR⟩ : ∃ R, R = rdV (shR l a) (shV l a) 0 a f := ⟨_, rfl⟩
  have HS : Hid (stepR l a f 4 n most = (Gt.ofX R.1, R.2.1, R.2.2)) := Lib.hid (by rw [hR, ← rdV_ofX]; simp [stepR])
  have hx : R.1 < 18446744073709551616 := by rw [hR]; exact rdV_lt (shV_lt _ _)
  rw [← hR] at HU
  obtain ⟨x, a2, f2⟩ := R
  simp only at HU HS hx
  have iw : IntKind.u64.wrap (x : Int) = (x : Int) := by rw [IntKind.wrap_u64]; omega
  have HB := Lib.hid (And.intro e1 e2)
  have g0 : (W3 w #[.int .i64 4, .int .u64 x0, .slice ba n0 bc, .slice la ln lc, .int .i64 n, .int .i64 most]).cell? ⟨w.heap.size, 0, none⟩ = some (.int .i64 4) := box_cell e0 0 _ rfl
  clear hR hB3 h3 e0 e1 e2 h
  unfold W3 at g0
  unfold W3 at HU
  go_enter Try.func52, Try.ntmps52
  go_wp2_with (first | (at_builtin; refine Stopped.out ?_) | (at_make; refine Stopped.out ?_))
  refine HU.out.mono ?_
  rintro e w4 ⟨rfl, hr4, k4⟩
  have hpl := hG.out.1
  have d1 := k4.heap HB.out.1 (by simp; omega)
  have d2 := k4.heap HB.out.2 (by simp; omega)
  have c10 : w4.cell? ⟨w.heap.size + 1, 0, none⟩ = some (.int .u64 0) := box_cell d1 0 _ rfl
  have f10 := box_free d1 0
  have c11 : w4.cell? ⟨w.heap.size + 1, 1, none⟩ = some (.slice none 0 0) := box_cell d1 1 _ rfl
  have f11 := box_free d1 1
  have c12 : w4.cell? ⟨w.heap.size + 1, 2, none⟩ = some (.slice none 0 0) := box_cell d1 2 _ rfl
  have f12 := box_free d1 2
  have c13 : w4.cell? ⟨w.heap.size + 1, 3, none⟩ = some (.int .i64 0) := box_cell d1 3 _ rfl
  have f13 := box_free d1 3
  have c20 : w4.cell? ⟨w.heap.size + 2, 0, none⟩ = some (.int .u64 0) := box_cell d2 0 _ rfl
  have f20 := box_free d2 0
  have c21 : w4.cell? ⟨w.heap.size + 2, 1, none⟩ = some (.slice none 0 0) := box_cell d2 1 _ rfl
  have f21 := box_free d2 1
  have c22 : w4.cell? ⟨w.heap.size + 2, 2, none⟩ = some (.slice none 0 0) := box_cell d2 2 _ rfl
  have f22 := box_free d2 2
  have c23 : w4.cell? ⟨w.heap.size + 2, 3, none⟩ = some (.int .i64 0) := box_cell d2 3 _ rfl
  have f23 := box_free d2 3
  have HD := Lib.hid (And.intro d1 (And.intro d2 (And.intro hr4 (show Keep [p] (W3 w #[.int .i64 4, .int .u64 x0, .slice ba n0 bc, .slice la ln lc, .int .i64 n, .int .i64 most]) w4 from k4))))
  clear d1 d2 hr4 k4 g0 HB HU
  go_wp2
  have d1' := ((Keep.refl [w.heap.size + 2] w4).setCell (p := ⟨w.heap.size + 2, 0, none⟩) (.inl (by simp)) (.int .u64 (x : Int))).heap HD.out.1 (by simp)
  have d3 := set4 _ (w.heap.size + 1) d1' (.int .u64 (x : Int)) (.slice none 0 0) (.slice none 0 0) (.int .i64 0)
  have k9 : Keep [w.heap.size + 1, w.heap.size + 2] w4 (((((w4.setCell ⟨w.heap.size + 2, 0, none⟩ (.int .u64 (x : Int))).setCell ⟨w.heap.size + 1, 0, none⟩ (.int .u64 (x : Int))).setCell ⟨w.heap.size + 1, 1, none⟩ (.slice none 0 0)).setCell ⟨w.heap.size + 1, 2, none⟩ (.slice none 0 0)).setCell ⟨w.heap.size + 1, 3, none⟩ (.int .i64 0)) :=
    (((((Keep.refl _ w4).setCell (p := ⟨w.heap.size + 2, 0, none⟩) (.inl (by simp)) _).setCell (p := ⟨w.heap.size + 1, 0, none⟩) (.inl (by simp)) _).setCell (p := ⟨w.heap.size + 1, 1, none⟩) (.inl (by simp)) _).setCell (p := ⟨w.heap.size + 1, 2, none⟩) (.inl (by simp)) _).setCell (p := ⟨w.heap.size + 1, 3, none⟩) (.inl (by simp)) _
  have hE := found_end hG.out.1 hG.out.2 HD.out.2.2.1 HD.out.2.2.2 k9
  refine bodyPost_ret (results_cell_row (P := Try.prog) rfl _ _ _ _ _ _ _ (by rfl) d3 Try.underlying85 rfl (by kernel_rfl)) rfl ?_
  rw [HS.out]
  exact ⟨_, _, by simp [Gt.ofX, Gt.ofB, Gt.no], World.ownsRow_nil .., World.ownsRow_nil .., hE.1, hE.2⟩
set_option maxRecDepth 100000 in
set_option maxHeartbeats 1600000 in
include h in
theorem found9_5 : Calls Try.prog 52 #[.pointer (some ⟨p, 0, none⟩), .agg #[.int .i64 5, .int .u64 x0, .slice ba n0 bc, .slice la ln lc, .int .i64 n, .int .i64 most]] w (FoundPost w p B l (stepR l a f 5 n most)) := by
  have hG := Lib.hid (And.intro h.lt h.low)
  have hB3 := W3_below w #[.int .i64 5, .int .u64 x0, .slice ba n0 bc, .slice la ln lc, .int .i64 n, .int .i64 most]
  have h3 := h.below hB3
  have e1 := W3_1 w #[.int .i64 5, .int .u64 x0, .slice ba n0 bc, .slice la ln lc, .int .i64 n, .int .i64 most]
  have e2 := W3_2 w #[.int .i64 5, .int .u64 x0, .slice ba n0 bc, .slice la ln lc, .int .i64 n, .int .i64 most]
  have e0 := W3_s w #[.int .i64 5, .int .u64 x0, .slice ba n0 bc, .slice la ln lc, .int .i64 n, .int .i64 most]
  have hz := W3_size w #[.int .i64 5, .int .u64 x0, .slice ba n0 bc, .slice la ln lc, .int .i64 n, .int .i64 most]
  have HU := Lib.hid (in_Bool (W3 w #[.int .i64 5, .int .u64 x0, .slice ba n0 bc, .slice la ln lc, .int .i64 n, .int .i64 most]) h3)
  obtain ⟨R, hR⟩ : ∃ R, R = rdV (boolR l a) (bt l a) 0 a f := ⟨_, rfl⟩
  have HS : Hid (stepR l a f 5 n most = (Gt.ofX R.1, R.2.1, R.2.2)) := Lib.hid (by rw [hR, ← rdV_ofX]; simp [stepR])
  have hx : R.1 = 0 ∨ R.1 = 1 := by
    rw [hR]
    unfold rdV effR
    by_cases hf : f ≠ 0
    · rw [if_pos hf]; exact .inl rfl
    · rw [if_neg hf]
      unfold boolR
      by_cases hb : a < l.length ∧ bt l a ≤ 1
      · rw [if_pos hb]; simp only; omega
      · rw [if_neg hb]; exact .inl rfl
  rw [← hR] at HU
  obtain ⟨x, a2, f2⟩ := R
  simp only at HU HS hx
  have HB := Lib.hid (And.intro e1 e2)
  have g0 : (W3 w #[.int .i64 5, .int .u64 x0, .slice ba n0 bc, .slice la ln lc, .int .i64 n, .int .i64 most]).cell? ⟨w.heap.size, 0, none⟩ = some (.int .i64 5) := box_cell e0 0 _ rfl
  clear hR hB3 h3 e0 e1 e2 h
  unfold W3 at g0
  unfold W3 at HU
  go_enter Try.func52, Try.ntmps52
  go_wp2_with (first | (at_builtin; refine Stopped.out ?_) | (at_make; refine Stopped.out ?_))
  refine HU.out.mono ?_
  rintro e w4 ⟨rfl, hr4, k4⟩
  have hpl := hG.out.1
  have d1 := k4.heap HB.out.1 (by simp; omega)
  have d2 := k4.heap HB.out.2 (by simp; omega)
  have c10 : w4.cell? ⟨w.heap.size + 1, 0, none⟩ = some (.int .u64 0) := box_cell d1 0 _ rfl
  have f10 := box_free d1 0
  have c11 : w4.cell? ⟨w.heap.size + 1, 1, none⟩ = some (.slice none 0 0) := box_cell d1 1 _ rfl
  have f11 := box_free d1 1
  have c12 : w4.cell? ⟨w.heap.size + 1, 2, none⟩ = some (.slice none 0 0) := box_cell d1 2 _ rfl
  have f12 := box_free d1 2
  have c13 : w4.cell? ⟨w.heap.size + 1, 3, none⟩ = some (.int .i64 0) := box_cell d1 3 _ rfl
  have f13 := box_free d1 3
  have c20 : w4.cell? ⟨w.heap.size + 2, 0, none⟩ = some (.int .u64 0) := box_cell d2 0 _ rfl
  have f20 := box_free d2 0
  have c21 : w4.cell? ⟨w.heap.size + 2, 1, none⟩ = some (.slice none 0 0) := box_cell d2 1 _ rfl
  have f21 := box_free d2 1
  have c22 : w4.cell? ⟨w.heap.size + 2, 2, none⟩ = some (.slice none 0 0) := box_cell d2 2 _ rfl
  have f22 := box_free d2 2
  have c23 : w4.cell? ⟨w.heap.size + 2, 3, none⟩ = some (.int .i64 0) := box_cell d2 3 _ rfl
  have f23 := box_free d2 3
  have HD := Lib.hid (And.intro d1 (And.intro d2 (And.intro hr4 (show Keep [p] (W3 w #[.int .i64 5, .int .u64 x0, .slice ba n0 bc, .slice la ln lc, .int .i64 n, .int .i64 most]) w4 from k4))))
  have HFl := Lib.hid (flag_any w4 (decide (x = 1)))
  have HX : Hid ((.int .u64 (if decide (x = 1) = true then 1 else 0) : Value) = .int .u64 (x : Int)) := Lib.hid (by rcases hx with rfl | rfl <;> rfl)
  clear d1 d2 hr4 k4 g0 HB HU hx
  go_wp2_with (first | (at_builtin; refine Stopped.out ?_) | (at_make; refine Stopped.out ?_))
  refine HFl.out.mono ?_
  rintro e w5 ⟨rfl, rfl⟩
  rw [HX.out]
  go_wp2
  have d1' := ((Keep.refl [w.heap.size + 2] w4).setCell (p := ⟨w.heap.size + 2, 0, none⟩) (.inl (by simp)) (.int .u64 (x : Int))).heap HD.out.1 (by simp)
  have d3 := set4 _ (w.heap.size + 1) d1' (.int .u64 (x : Int)) (.slice none 0 0) (.slice none 0 0) (.int .i64 0)
  have k9 : Keep [w.heap.size + 1, w.heap.size + 2] w4 (((((w4.setCell ⟨w.heap.size + 2, 0, none⟩ (.int .u64 (x : Int))).setCell ⟨w.heap.size + 1, 0, none⟩ (.int .u64 (x : Int))).setCell ⟨w.heap.size + 1, 1, none⟩ (.slice none 0 0)).setCell ⟨w.heap.size + 1, 2, none⟩ (.slice none 0 0)).setCell ⟨w.heap.size + 1, 3, none⟩ (.int .i64 0)) :=
    (((((Keep.refl _ w4).setCell (p := ⟨w.heap.size + 2, 0, none⟩) (.inl (by simp)) _).setCell (p := ⟨w.heap.size + 1, 0, none⟩) (.inl (by simp)) _).setCell (p := ⟨w.heap.size + 1, 1, none⟩) (.inl (by simp)) _).setCell (p := ⟨w.heap.size + 1, 2, none⟩) (.inl (by simp)) _).setCell (p := ⟨w.heap.size + 1, 3, none⟩) (.inl (by simp)) _
  have hE := found_end hG.out.1 hG.out.2 HD.out.2.2.1 HD.out.2.2.2 k9
  refine bodyPost_ret (results_cell_row (P := Try.prog) rfl _ _ _ _ _ _ _ (by rfl) d3 Try.underlying85 rfl (by kernel_rfl)) rfl ?_
  rw [HS.out]
  exact ⟨_, _, by simp [Gt.ofX, Gt.ofB, Gt.no], World.ownsRow_nil .., World.ownsRow_nil .., hE.1, hE.2⟩
set_option maxRecDepth 100000 in
set_option maxHeartbeats 1600000 in
include h in
theorem found9_6 (hm : n ≤ 9223372036854775807) : Calls Try.prog 52 #[.pointer (some ⟨p, 0, none⟩), .agg #[.int .i64 6, .int .u64 x0, .slice ba n0 bc, .slice la ln lc, .int .i64 n, .int .i64 most]] w (FoundPost w p B l (stepR l a f 6 n most)) := by
  have hG := Lib.hid (And.intro h.lt h.low)
  have hB3 := W3_below w #[.int .i64 6, .int .u64 x0, .slice ba n0 bc, .slice la ln lc, .int .i64 n, .int .i64 most]
  have h3 := h.below hB3
  have e1 := W3_1 w #[.int .i64 6, .int .u64 x0, .slice ba n0 bc, .slice la ln lc, .int .i64 n, .int .i64 most]
  have e2 := W3_2 w #[.int .i64 6, .int .u64 x0, .slice ba n0 bc, .slice la ln lc, .int .i64 n, .int .i64 most]
  have e0 := W3_s w #[.int .i64 6, .int .u64 x0, .slice ba n0 bc, .slice la ln lc, .int .i64 n, .int .i64 most]
  have hz := W3_size w #[.int .i64 6, .int .u64 x0, .slice ba n0 bc, .slice la ln lc, .int .i64 n, .int .i64 most]
  have HU := Lib.hid (in_Fixed (W3 w #[.int .i64 6, .int .u64 x0, .slice ba n0 bc, .slice la ln lc, .int .i64 n, .int .i64 most]) h3 n hm)
  obtain ⟨R, hR⟩ : ∃ R, R = rdV (numR l a n) (atR l a n.toNat) [] a f := ⟨_, rfl⟩
  have HS : Hid (stepR l a f 6 n most = (Gt.ofB R.1, R.2.1, R.2.2)) := Lib.hid (by rw [hR, ← rdV_ofB]; simp [stepR])
  rw [← hR] at HU
  obtain ⟨x, a2, f2⟩ := R
  simp only at HU HS
  have HB := Lib.hid (And.intro e1 e2)
  have g0 : (W3 w #[.int .i64 6, .int .u64 x0, .slice ba n0 bc, .slice la ln lc, .int .i64 n, .int .i64 most]).cell? ⟨w.heap.size, 0, none⟩ = some (.int .i64 6) := box_cell e0 0 _ rfl
  have gq : (W3 w #[.int .i64 6, .int .u64 x0, .slice ba n0 bc, .slice la ln lc, .int .i64 n, .int .i64 most]).cell? ⟨w.heap.size, 4, none⟩ = some (.int .i64 n) := box_cell e0 4 _ rfl
  clear hR hB3 h3 e0 e1 e2 h
  unfold W3 at g0 gq
  unfold W3 at HU
  go_enter Try.func52, Try.ntmps52
  go_wp2_with (first | (at_builtin; refine Stopped.out ?_) | (at_make; refine Stopped.out ?_))
  refine HU.out.mono ?_
  rintro e w4 ⟨v4, rfl, o4, hr4, k4⟩
  have hpl := hG.out.1
  have d1 := k4.heap HB.out.1 (by simp; omega)
  have d2 := k4.heap HB.out.2 (by simp; omega)
  have c10 : w4.cell? ⟨w.heap.size + 1, 0, none⟩ = some (.int .u64 0) := box_cell d1 0 _ rfl
  have f10 := box_free d1 0
  have c11 : w4.cell? ⟨w.heap.size + 1, 1, none⟩ = some (.slice none 0 0) := box_cell d1 1 _ rfl
  have f11 := box_free d1 1
  have c12 : w4.cell? ⟨w.heap.size + 1, 2, none⟩ = some (.slice none 0 0) := box_cell d1 2 _ rfl
  have f12 := box_free d1 2
  have c13 : w4.cell? ⟨w.heap.size + 1, 3, none⟩ = some (.int .i64 0) := box_cell d1 3 _ rfl
  have f13 := box_free d1 3
  have c20 : w4.cell? ⟨w.heap.size + 2, 0, none⟩ = some (.int .u64 0) := box_cell d2 0 _ rfl
  have f20 := box_free d2 0
  have c21 : w4.cell? ⟨w.heap.size + 2, 1, none⟩ = some (.slice none 0 0) := box_cell d2 1 _ rfl
  have f21 := box_free d2 1
  have c22 : w4.cell? ⟨w.heap.size + 2, 2, none⟩ = some (.slice none 0 0) := box_cell d2 2 _ rfl
  have f22 := box_free d2 2
  have c23 : w4.cell? ⟨w.heap.size + 2, 3, none⟩ = some (.int .i64 0) := box_cell d2 3 _ rfl
  have f23 := box_free d2 3
  have ho4 : w4.ownsRow (w.heap.size + 3) 5 1 v4 x.length (x.map by8) := by have := o4; simpa using this
  have HD := Lib.hid (And.intro d1 (And.intro d2 (And.intro hr4 (show Keep [p] (W3 w #[.int .i64 6, .int .u64 x0, .slice ba n0 bc, .slice la ln lc, .int .i64 n, .int .i64 most]) w4 from k4))))
  have HO := Lib.hid ho4
  obtain ⟨A4, c4, rfl, _, _⟩ := own_sl ho4
  clear d1 d2 hr4 k4 g0 gq HB HU o4 ho4
  go_wp2
  have d1' := ((Keep.refl [w.heap.size + 2] w4).setCell (p := ⟨w.heap.size + 2, 1, none⟩) (.inl (by simp)) (.slice A4 x.length c4)).heap HD.out.1 (by simp)
  have d3 := set4 _ (w.heap.size + 1) d1' (.int .u64 0) (.slice A4 x.length c4) (.slice none 0 0) (.int .i64 0)
  have k9 : Keep [w.heap.size + 1, w.heap.size + 2] w4 (((((w4.setCell ⟨w.heap.size + 2, 1, none⟩ (.slice A4 x.length c4)).setCell ⟨w.heap.size + 1, 0, none⟩ (.int .u64 0)).setCell ⟨w.heap.size + 1, 1, none⟩ (.slice A4 x.length c4)).setCell ⟨w.heap.size + 1, 2, none⟩ (.slice none 0 0)).setCell ⟨w.heap.size + 1, 3, none⟩ (.int .i64 0)) :=
    (((((Keep.refl _ w4).setCell (p := ⟨w.heap.size + 2, 1, none⟩) (.inl (by simp)) _).setCell (p := ⟨w.heap.size + 1, 0, none⟩) (.inl (by simp)) _).setCell (p := ⟨w.heap.size + 1, 1, none⟩) (.inl (by simp)) _).setCell (p := ⟨w.heap.size + 1, 2, none⟩) (.inl (by simp)) _).setCell (p := ⟨w.heap.size + 1, 3, none⟩) (.inl (by simp)) _
  have hE := found_end hG.out.1 hG.out.2 HD.out.2.2.1 HD.out.2.2.2 k9
  refine bodyPost_ret (results_cell_row (P := Try.prog) rfl _ _ _ _ _ _ _ (by rfl) d3 Try.underlying85 rfl (by kernel_rfl)) rfl ?_
  rw [HS.out]
  exact ⟨_, _, by simp [Gt.ofX, Gt.ofB, Gt.no], own_mono (k9.own HO.out (fun j hj hx => by have := (HO.out.lt j hj).1; simp at hx; omega)) (by omega), World.ownsRow_nil .., hE.1, hE.2⟩
set_option maxRecDepth 100000 in
set_option maxHeartbeats 1600000 in
include h in
theorem found9_7 (hm : most ≤ 9223372036854775807) : Calls Try.prog 52 #[.pointer (some ⟨p, 0, none⟩), .agg #[.int .i64 7, .int .u64 x0, .slice ba n0 bc, .slice la ln lc, .int .i64 n, .int .i64 most]] w (FoundPost w p B l (stepR l a f 7 n most)) := by
  have hG := Lib.hid (And.intro h.lt h.low)
  have hB3 := W3_below w #[.int .i64 7, .int .u64 x0, .slice ba n0 bc, .slice la ln lc, .int .i64 n, .int .i64 most]
  have h3 := h.below hB3
  have e1 := W3_1 w #[.int .i64 7, .int .u64 x0, .slice ba n0 bc, .slice la ln lc, .int .i64 n, .int .i64 most]
  have e2 := W3_2 w #[.int .i64 7, .int .u64 x0, .slice ba n0 bc, .slice la ln lc, .int .i64 n, .int .i64 most]
  have e0 := W3_s w #[.int .i64 7, .int .u64 x0, .slice ba n0 bc, .slice la ln lc, .int .i64 n, .int .i64 most]
  have hz := W3_size w #[.int .i64 7, .int .u64 x0, .slice ba n0 bc, .slice la ln lc, .int .i64 n, .int .i64 most]
  have HU := Lib.hid (in_Bytes (W3 w #[.int .i64 7, .int .u64 x0, .slice ba n0 bc, .slice la ln lc, .int .i64 n, .int .i64 most]) h3 most hm)
  obtain ⟨R, hR⟩ : ∃ R, R = rdV (bytR l a most) (bytV l a most) [] a f := ⟨_, rfl⟩
  have HS : Hid (stepR l a f 7 n most = (Gt.ofB R.1, R.2.1, R.2.2)) := Lib.hid (by rw [hR, ← rdV_ofB]; simp [stepR])
  rw [← hR] at HU
  obtain ⟨x, a2, f2⟩ := R
  simp only at HU HS
  have HB := Lib.hid (And.intro e1 e2)
  have g0 : (W3 w #[.int .i64 7, .int .u64 x0, .slice ba n0 bc, .slice la ln lc, .int .i64 n, .int .i64 most]).cell? ⟨w.heap.size, 0, none⟩ = some (.int .i64 7) := box_cell e0 0 _ rfl
  have gq : (W3 w #[.int .i64 7, .int .u64 x0, .slice ba n0 bc, .slice la ln lc, .int .i64 n, .int .i64 most]).cell? ⟨w.heap.size, 5, none⟩ = some (.int .i64 most) := box_cell e0 5 _ rfl
  clear hR hB3 h3 e0 e1 e2 h
  unfold W3 at g0 gq
  unfold W3 at HU
  go_enter Try.func52, Try.ntmps52
  go_wp2_with (first | (at_builtin; refine Stopped.out ?_) | (at_make; refine Stopped.out ?_))
  refine HU.out.mono ?_
  rintro e w4 ⟨v4, rfl, o4, hr4, k4⟩
  have hpl := hG.out.1
  have d1 := k4.heap HB.out.1 (by simp; omega)
  have d2 := k4.heap HB.out.2 (by simp; omega)
  have c10 : w4.cell? ⟨w.heap.size + 1, 0, none⟩ = some (.int .u64 0) := box_cell d1 0 _ rfl
  have f10 := box_free d1 0
  have c11 : w4.cell? ⟨w.heap.size + 1, 1, none⟩ = some (.slice none 0 0) := box_cell d1 1 _ rfl
  have f11 := box_free d1 1
  have c12 : w4.cell? ⟨w.heap.size + 1, 2, none⟩ = some (.slice none 0 0) := box_cell d1 2 _ rfl
  have f12 := box_free d1 2
  have c13 : w4.cell? ⟨w.heap.size + 1, 3, none⟩ = some (.int .i64 0) := box_cell d1 3 _ rfl
  have f13 := box_free d1 3
  have c20 : w4.cell? ⟨w.heap.size + 2, 0, none⟩ = some (.int .u64 0) := box_cell d2 0 _ rfl
  have f20 := box_free d2 0
  have c21 : w4.cell? ⟨w.heap.size + 2, 1, none⟩ = some (.slice none 0 0) := box_cell d2 1 _ rfl
  have f21 := box_free d2 1
  have c22 : w4.cell? ⟨w.heap.size + 2, 2, none⟩ = some (.slice none 0 0) := box_cell d2 2 _ rfl
  have f22 := box_free d2 2
  have c23 : w4.cell? ⟨w.heap.size + 2, 3, none⟩ = some (.int .i64 0) := box_cell d2 3 _ rfl
  have f23 := box_free d2 3
  have ho4 : w4.ownsRow (w.heap.size + 3) 5 1 v4 x.length (x.map by8) := by have := o4; simpa using this
  have HD := Lib.hid (And.intro d1 (And.intro d2 (And.intro hr4 (show Keep [p] (W3 w #[.int .i64 7, .int .u64 x0, .slice ba n0 bc, .slice la ln lc, .int .i64 n, .int .i64 most]) w4 from k4))))
  have HO := Lib.hid ho4
  obtain ⟨A4, c4, rfl, _, _⟩ := own_sl ho4
  clear d1 d2 hr4 k4 g0 gq HB HU o4 ho4
  go_wp2
  have d1' := ((Keep.refl [w.heap.size + 2] w4).setCell (p := ⟨w.heap.size + 2, 1, none⟩) (.inl (by simp)) (.slice A4 x.length c4)).heap HD.out.1 (by simp)
  have d3 := set4 _ (w.heap.size + 1) d1' (.int .u64 0) (.slice A4 x.length c4) (.slice none 0 0) (.int .i64 0)
  have k9 : Keep [w.heap.size + 1, w.heap.size + 2] w4 (((((w4.setCell ⟨w.heap.size + 2, 1, none⟩ (.slice A4 x.length c4)).setCell ⟨w.heap.size + 1, 0, none⟩ (.int .u64 0)).setCell ⟨w.heap.size + 1, 1, none⟩ (.slice A4 x.length c4)).setCell ⟨w.heap.size + 1, 2, none⟩ (.slice none 0 0)).setCell ⟨w.heap.size + 1, 3, none⟩ (.int .i64 0)) :=
    (((((Keep.refl _ w4).setCell (p := ⟨w.heap.size + 2, 1, none⟩) (.inl (by simp)) _).setCell (p := ⟨w.heap.size + 1, 0, none⟩) (.inl (by simp)) _).setCell (p := ⟨w.heap.size + 1, 1, none⟩) (.inl (by simp)) _).setCell (p := ⟨w.heap.size + 1, 2, none⟩) (.inl (by simp)) _).setCell (p := ⟨w.heap.size + 1, 3, none⟩) (.inl (by simp)) _
  have hE := found_end hG.out.1 hG.out.2 HD.out.2.2.1 HD.out.2.2.2 k9
  refine bodyPost_ret (results_cell_row (P := Try.prog) rfl _ _ _ _ _ _ _ (by rfl) d3 Try.underlying85 rfl (by kernel_rfl)) rfl ?_
  rw [HS.out]
  exact ⟨_, _, by simp [Gt.ofX, Gt.ofB, Gt.no], own_mono (k9.own HO.out (fun j hj hx => by have := (HO.out.lt j hj).1; simp at hx; omega)) (by omega), World.ownsRow_nil .., hE.1, hE.2⟩
set_option maxRecDepth 100000 in
set_option maxHeartbeats 1600000 in
include h in
theorem found9_8 (hm : most ≤ 9223372036854775807) (hl : l.length ≤ 100000000) : Calls Try.prog 52 #[.pointer (some ⟨p, 0, none⟩), .agg #[.int .i64 8, .int .u64 x0, .slice ba n0 bc, .slice la ln lc, .int .i64 n, .int .i64 most]] w (FoundPost w p B l (stepR l a f 8 n most)) := by
  have hG := Lib.hid (And.intro h.lt h.low)
  have hB3 := W3_below w #[.int .i64 8, .int .u64 x0, .slice ba n0 bc, .slice la ln lc, .int .i64 n, .int .i64 most]
  have h3 := h.below hB3
  have e1 := W3_1 w #[.int .i64 8, .int .u64 x0, .slice ba n0 bc, .slice la ln lc, .int .i64 n, .int .i64 most]
  have e2 := W3_2 w #[.int .i64 8, .int .u64 x0, .slice ba n0 bc, .slice la ln lc, .int .i64 n, .int .i64 most]
  have e0 := W3_s w #[.int .i64 8, .int .u64 x0, .slice ba n0 bc, .slice la ln lc, .int .i64 n, .int .i64 most]
  have hz := W3_size w #[.int .i64 8, .int .u64 x0, .slice ba n0 bc, .slice la ln lc, .int .i64 n, .int .i64 most]
  have HU := Lib.hid (in_list (W3 w #[.int .i64 8, .int .u64 x0, .slice ba n0 bc, .slice la ln lc, .int .i64 n, .int .i64 most]) h3 most hm hl)
  obtain ⟨R, hR⟩ : ∃ R, R = stepR l a f 8 n most := ⟨_, rfl⟩
  have hR0 : stepR l a f 8 0 most = R := by rw [hR]; simp [stepR]
  have HZ : Hid (R.1.x = 0 ∧ R.1.b = [] ∧ R.1.n = 0) := Lib.hid (by rw [hR]; simp [stepR])
  have HS := Lib.hid hR.symm
  rw [hR0] at HU
  obtain ⟨⟨xx, xb, x, xn⟩, a2, f2⟩ := R
  simp only at HU HS HZ
  have HB := Lib.hid (And.intro e1 e2)
  have g0 : (W3 w #[.int .i64 8, .int .u64 x0, .slice ba n0 bc, .slice la ln lc, .int .i64 n, .int .i64 most]).cell? ⟨w.heap.size, 0, none⟩ = some (.int .i64 8) := box_cell e0 0 _ rfl
  have gq : (W3 w #[.int .i64 8, .int .u64 x0, .slice ba n0 bc, .slice la ln lc, .int .i64 n, .int .i64 most]).cell? ⟨w.heap.size, 5, none⟩ = some (.int .i64 most) := box_cell e0 5 _ rfl
  clear hR hR0 hB3 h3 e0 e1 e2 h
  unfold W3 at g0 gq
  unfold W3 at HU
  go_enter Try.func52, Try.ntmps52
  go_wp2_with (first | (at_builtin; refine Stopped.out ?_) | (at_make; refine Stopped.out ?_))
  refine HU.out.mono ?_
  rintro e w4 ⟨v4, rfl, o4, hr4, k4⟩
  have hpl := hG.out.1
  have d1 := k4.heap HB.out.1 (by simp; omega)
  have d2 := k4.heap HB.out.2 (by simp; omega)
  have c10 : w4.cell? ⟨w.heap.size + 1, 0, none⟩ = some (.int .u64 0) := box_cell d1 0 _ rfl
  have f10 := box_free d1 0
  have c11 : w4.cell? ⟨w.heap.size + 1, 1, none⟩ = some (.slice none 0 0) := box_cell d1 1 _ rfl
  have f11 := box_free d1 1
  have c12 : w4.cell? ⟨w.heap.size + 1, 2, none⟩ = some (.slice none 0 0) := box_cell d1 2 _ rfl
  have f12 := box_free d1 2
  have c13 : w4.cell? ⟨w.heap.size + 1, 3, none⟩ = some (.int .i64 0) := box_cell d1 3 _ rfl
  have f13 := box_free d1 3
  have c20 : w4.cell? ⟨w.heap.size + 2, 0, none⟩ = some (.int .u64 0) := box_cell d2 0 _ rfl
  have f20 := box_free d2 0
  have c21 : w4.cell? ⟨w.heap.size + 2, 1, none⟩ = some (.slice none 0 0) := box_cell d2 1 _ rfl
  have f21 := box_free d2 1
  have c22 : w4.cell? ⟨w.heap.size + 2, 2, none⟩ = some (.slice none 0 0) := box_cell d2 2 _ rfl
  have f22 := box_free d2 2
  have c23 : w4.cell? ⟨w.heap.size + 2, 3, none⟩ = some (.int .i64 0) := box_cell d2 3 _ rfl
  have f23 := box_free d2 3
  have ho4 : w4.ownsRow (w.heap.size + 3) 23 1 v4 x.length (x.map by64) := by simpa using o4
  have HD := Lib.hid (And.intro d1 (And.intro d2 (And.intro hr4 (show Keep [p] (W3 w #[.int .i64 8, .int .u64 x0, .slice ba n0 bc, .slice la ln lc, .int .i64 n, .int .i64 most]) w4 from k4))))
  have HO := Lib.hid ho4
  obtain ⟨A4, c4, rfl, _, _⟩ := own_sl ho4
  clear d1 d2 hr4 k4 g0 gq HB HU o4 ho4
  go_wp2
  have d1' := ((Keep.refl [w.heap.size + 2] w4).setCell (p := ⟨w.heap.size + 2, 2, none⟩) (.inl (by simp)) (.slice A4 x.length c4)).heap HD.out.1 (by simp)
  have d3 := set4 _ (w.heap.size + 1) d1' (.int .u64 0) (.slice none 0 0) (.slice A4 x.length c4) (.int .i64 0)
  have k9 : Keep [w.heap.size + 1, w.heap.size + 2] w4 (((((w4.setCell ⟨w.heap.size + 2, 2, none⟩ (.slice A4 x.length c4)).setCell ⟨w.heap.size + 1, 0, none⟩ (.int .u64 0)).setCell ⟨w.heap.size + 1, 1, none⟩ (.slice none 0 0)).setCell ⟨w.heap.size + 1, 2, none⟩ (.slice A4 x.length c4)).setCell ⟨w.heap.size + 1, 3, none⟩ (.int .i64 0)) :=
    (((((Keep.refl _ w4).setCell (p := ⟨w.heap.size + 2, 2, none⟩) (.inl (by simp)) _).setCell (p := ⟨w.heap.size + 1, 0, none⟩) (.inl (by simp)) _).setCell (p := ⟨w.heap.size + 1, 1, none⟩) (.inl (by simp)) _).setCell (p := ⟨w.heap.size + 1, 2, none⟩) (.inl (by simp)) _).setCell (p := ⟨w.heap.size + 1, 3, none⟩) (.inl (by simp)) _
  have hE := found_end hG.out.1 hG.out.2 HD.out.2.2.1 HD.out.2.2.2 k9
  refine bodyPost_ret (results_cell_row (P := Try.prog) rfl _ _ _ _ _ _ _ (by rfl) d3 Try.underlying85 rfl (by kernel_rfl)) rfl ?_
  rw [HS.out]
  exact ⟨.slice none 0 0, .slice A4 x.length c4, by simp [HZ.out.1, HZ.out.2.2], by rw [HZ.out.2.1]; exact World.ownsRow_nil .., own_mono (k9.own HO.out (fun j hj hx => by have := (HO.out.lt j hj).1; simp at hx; omega)) (by omega), hE.1, hE.2⟩
set_option maxRecDepth 100000 in
set_option maxHeartbeats 1600000 in
include h in
theorem found9_9 : Calls Try.prog 52 #[.pointer (some ⟨p, 0, none⟩), .agg #[.int .i64 9, .int .u64 x0, .slice ba n0 bc, .slice la ln lc, .int .i64 n, .int .i64 most]] w (FoundPost w p B l (stepR l a f 9 n most)) := by
  have hG := Lib.hid (And.intro h.lt h.low)
  have hB3 := W3_below w #[.int .i64 9, .int .u64 x0, .slice ba n0 bc, .slice la ln lc, .int .i64 n, .int .i64 most]
  have h3 := h.below hB3
  have e1 := W3_1 w #[.int .i64 9, .int .u64 x0, .slice ba n0 bc, .slice la ln lc, .int .i64 n, .int .i64 most]
  have e2 := W3_2 w #[.int .i64 9, .int .u64 x0, .slice ba n0 bc, .slice la ln lc, .int .i64 n, .int .i64 most]
  have e0 := W3_s w #[.int .i64 9, .int .u64 x0, .slice ba n0 bc, .slice la ln lc, .int .i64 n, .int .i64 most]
  have hz := W3_size w #[.int .i64 9, .int .u64 x0, .slice ba n0 bc, .slice la ln lc, .int .i64 n, .int .i64 most]
  have HU := Lib.hid (in_Left (W3 w #[.int .i64 9, .int .u64 x0, .slice ba n0 bc, .slice la ln lc, .int .i64 n, .int .i64 most]) h3)
  obtain ⟨x, hx⟩ : ∃ x, x = l.length - a := ⟨_, rfl⟩
  have HS : Hid (stepR l a f 9 n most = (⟨0, [], [], x⟩, a, f)) := Lib.hid (by rw [hx]; simp [stepR])
  rw [← hx] at HU
  have HB := Lib.hid (And.intro e1 e2)
  have H3 := Lib.hid h3
  have g0 : (W3 w #[.int .i64 9, .int .u64 x0, .slice ba n0 bc, .slice la ln lc, .int .i64 n, .int .i64 most]).cell? ⟨w.heap.size, 0, none⟩ = some (.int .i64 9) := box_cell e0 0 _ rfl
  clear hx hB3 h3 e0 e1 e2 h
  unfold W3 at g0
  unfold W3 at HU
  go_enter Try.func52, Try.ntmps52
  go_wp2_with (first | (at_builtin; refine Stopped.out ?_) | (at_make; refine Stopped.out ?_))
  refine HU.out.mono ?_
  rintro e w4 ⟨rfl, hd4⟩
  have k4 : Keep [p] (W3 w #[.int .i64 9, .int .u64 x0, .slice ba n0 bc, .slice la ln lc, .int .i64 n, .int .i64 most]) w4 := hd4.keep [p]
  have hr4 := H3.out.keep (hd4.keep []) (by simp)
  have hpl := hG.out.1
  have d1 := k4.heap HB.out.1 (by simp; omega)
  have d2 := k4.heap HB.out.2 (by simp; omega)
  have c10 : w4.cell? ⟨w.heap.size + 1, 0, none⟩ = some (.int .u64 0) := box_cell d1 0 _ rfl
  have f10 := box_free d1 0
  have c11 : w4.cell? ⟨w.heap.size + 1, 1, none⟩ = some (.slice none 0 0) := box_cell d1 1 _ rfl
  have f11 := box_free d1 1
  have c12 : w4.cell? ⟨w.heap.size + 1, 2, none⟩ = some (.slice none 0 0) := box_cell d1 2 _ rfl
  have f12 := box_free d1 2
  have c13 : w4.cell? ⟨w.heap.size + 1, 3, none⟩ = some (.int .i64 0) := box_cell d1 3 _ rfl
  have f13 := box_free d1 3
  have c20 : w4.cell? ⟨w.heap.size + 2, 0, none⟩ = some (.int .u64 0) := box_cell d2 0 _ rfl
  have f20 := box_free d2 0
  have c21 : w4.cell? ⟨w.heap.size + 2, 1, none⟩ = some (.slice none 0 0) := box_cell d2 1 _ rfl
  have f21 := box_free d2 1
  have c22 : w4.cell? ⟨w.heap.size + 2, 2, none⟩ = some (.slice none 0 0) := box_cell d2 2 _ rfl
  have f22 := box_free d2 2
  have c23 : w4.cell? ⟨w.heap.size + 2, 3, none⟩ = some (.int .i64 0) := box_cell d2 3 _ rfl
  have f23 := box_free d2 3
  have HD := Lib.hid (And.intro d1 (And.intro d2 (And.intro hr4 (show Keep [p] (W3 w #[.int .i64 9, .int .u64 x0, .slice ba n0 bc, .slice la ln lc, .int .i64 n, .int .i64 most]) w4 from k4))))
  clear d1 d2 hr4 k4 g0 HB HU hd4 H3
  go_wp2
  have d1' := ((Keep.refl [w.heap.size + 2] w4).setCell (p := ⟨w.heap.size + 2, 3, none⟩) (.inl (by simp)) (.int .i64 (x : Int))).heap HD.out.1 (by simp)
  have d3 := set4 _ (w.heap.size + 1) d1' (.int .u64 0) (.slice none 0 0) (.slice none 0 0) (.int .i64 (x : Int))
  have k9 : Keep [w.heap.size + 1, w.heap.size + 2] w4 (((((w4.setCell ⟨w.heap.size + 2, 3, none⟩ (.int .i64 (x : Int))).setCell ⟨w.heap.size + 1, 0, none⟩ (.int .u64 0)).setCell ⟨w.heap.size + 1, 1, none⟩ (.slice none 0 0)).setCell ⟨w.heap.size + 1, 2, none⟩ (.slice none 0 0)).setCell ⟨w.heap.size + 1, 3, none⟩ (.int .i64 (x : Int))) :=
    (((((Keep.refl _ w4).setCell (p := ⟨w.heap.size + 2, 3, none⟩) (.inl (by simp)) _).setCell (p := ⟨w.heap.size + 1, 0, none⟩) (.inl (by simp)) _).setCell (p := ⟨w.heap.size + 1, 1, none⟩) (.inl (by simp)) _).setCell (p := ⟨w.heap.size + 1, 2, none⟩) (.inl (by simp)) _).setCell (p := ⟨w.heap.size + 1, 3, none⟩) (.inl (by simp)) _
  have hE := found_end hG.out.1 hG.out.2 HD.out.2.2.1 HD.out.2.2.2 k9
  refine bodyPost_ret (results_cell_row (P := Try.prog) rfl _ _ _ _ _ _ _ (by rfl) d3 Try.underlying85 rfl (by kernel_rfl)) rfl ?_
  rw [HS.out]
  exact ⟨_, _, by simp [Gt.ofX, Gt.ofB, Gt.no], World.ownsRow_nil .., World.ownsRow_nil .., hE.1, hE.2⟩
set_option maxRecDepth 100000 in
set_option maxHeartbeats 1600000 in
include h in
theorem found9_no (kd : Int) (hk : ¬ (1 ≤ kd ∧ kd ≤ 9)) : Calls Try.prog 52 #[.pointer (some ⟨p, 0, none⟩), .agg #[.int .i64 kd, .int .u64 x0, .slice ba n0 bc, .slice la ln lc, .int .i64 n, .int .i64 most]] w (FoundPost w p B l (stepR l a f kd n most)) := by
  have hG := Lib.hid (And.intro h.lt h.low)
  have hB3 := W3_below w #[.int .i64 kd, .int .u64 x0, .slice ba n0 bc, .slice la ln lc, .int .i64 n, .int .i64 most]
  have h3 := h.below hB3
  have d1 := W3_1 w #[.int .i64 kd, .int .u64 x0, .slice ba n0 bc, .slice la ln lc, .int .i64 n, .int .i64 most]
  have d2 := W3_2 w #[.int .i64 kd, .int .u64 x0, .slice ba n0 bc, .slice la ln lc, .int .i64 n, .int .i64 most]
  have e0 := W3_s w #[.int .i64 kd, .int .u64 x0, .slice ba n0 bc, .slice la ln lc, .int .i64 n, .int .i64 most]
  have hpl := hG.out.1
  have HS : Hid (stepR l a f kd n most = (Gt.no, a, f)) := Lib.hid (by
    unfold stepR
    rw [if_neg (by omega), if_neg (by omega), if_neg (by omega), if_neg (by omega), if_neg (by omega), if_neg (by omega), if_neg (by omega), if_neg (by omega), if_neg (by omega)])
  have j1 : (kd == 1) = false := by simp; omega
  have j2 : (kd == 2) = false := by simp; omega
  have j3 : (kd == 3) = false := by simp; omega
  have j4 : (kd == 4) = false := by simp; omega
  have j5 : (kd == 5) = false := by simp; omega
  have j6 : (kd == 6) = false := by simp; omega
  have j7 : (kd == 7) = false := by simp; omega
  have j8 : (kd == 8) = false := by simp; omega
  have j9 : (kd == 9) = false := by simp; omega
  have g0 : (W3 w #[.int .i64 kd, .int .u64 x0, .slice ba n0 bc, .slice la ln lc, .int .i64 n, .int .i64 most]).cell? ⟨w.heap.size, 0, none⟩ = some (.int .i64 kd) := box_cell e0 0 _ rfl
  obtain ⟨w4, hw4⟩ : ∃ w4, w4 = W3 w #[.int .i64 kd, .int .u64 x0, .slice ba n0 bc, .slice la ln lc, .int .i64 n, .int .i64 most] := ⟨_, rfl⟩
  rw [← hw4] at d1 d2 g0 h3
  have c10 : w4.cell? ⟨w.heap.size + 1, 0, none⟩ = some (.int .u64 0) := box_cell d1 0 _ rfl
  have f10 := box_free d1 0
  have c11 : w4.cell? ⟨w.heap.size + 1, 1, none⟩ = some (.slice none 0 0) := box_cell d1 1 _ rfl
  have f11 := box_free d1 1
  have c12 : w4.cell? ⟨w.heap.size + 1, 2, none⟩ = some (.slice none 0 0) := box_cell d1 2 _ rfl
  have f12 := box_free d1 2
  have c13 : w4.cell? ⟨w.heap.size + 1, 3, none⟩ = some (.int .i64 0) := box_cell d1 3 _ rfl
  have f13 := box_free d1 3
  have c20 : w4.cell? ⟨w.heap.size + 2, 0, none⟩ = some (.int .u64 0) := box_cell d2 0 _ rfl
  have f20 := box_free d2 0
  have c21 : w4.cell? ⟨w.heap.size + 2, 1, none⟩ = some (.slice none 0 0) := box_cell d2 1 _ rfl
  have f21 := box_free d2 1
  have c22 : w4.cell? ⟨w.heap.size + 2, 2, none⟩ = some (.slice none 0 0) := box_cell d2 2 _ rfl
  have f22 := box_free d2 2
  have c23 : w4.cell? ⟨w.heap.size + 2, 3, none⟩ = some (.int .i64 0) := box_cell d2 3 _ rfl
  have f23 := box_free d2 3
  have HD := Lib.hid (And.intro d1 (And.intro d2 (And.intro h3 hw4)))
  have HWE : (((w.alloc (.cells #[.int .i64 kd, .int .u64 x0, .slice ba n0 bc, .slice la ln lc, .int .i64 n, .int .i64 most] 70)).alloc (.cells #[.int .u64 0, .slice none 0 0, .slice none 0 0, .int .i64 0] 85)).alloc (.cells #[.int .u64 0, .slice none 0 0, .slice none 0 0, .int .i64 0] 85)) = w4 := by rw [hw4]; rfl
  clear d1 d2 h3 e0 hw4 hB3 h hk
  go_enter Try.func52, Try.ntmps52
  go_wp2_with (rw [HWE])
  have hw4 := HD.out.2.2.2
  have d3 := set4 _ (w.heap.size + 1) HD.out.1 (.int .u64 0) (.slice none 0 0) (.slice none 0 0) (.int .i64 0)
  have k9 : Keep [w.heap.size + 1, w.heap.size + 2] w4 ((((w4.setCell ⟨w.heap.size + 1, 0, none⟩ (.int .u64 0)).setCell ⟨w.heap.size + 1, 1, none⟩ (.slice none 0 0)).setCell ⟨w.heap.size + 1, 2, none⟩ (.slice none 0 0)).setCell ⟨w.heap.size + 1, 3, none⟩ (.int .i64 0)) :=
    ((((Keep.refl _ w4).setCell (p := ⟨w.heap.size + 1, 0, none⟩) (.inl (by simp)) _).setCell (p := ⟨w.heap.size + 1, 1, none⟩) (.inl (by simp)) _).setCell (p := ⟨w.heap.size + 1, 2, none⟩) (.inl (by simp)) _).setCell (p := ⟨w.heap.size + 1, 3, none⟩) (.inl (by simp)) _
  have hk4 : Keep [p] (W3 w #[.int .i64 kd, .int .u64 x0, .slice ba n0 bc, .slice la ln lc, .int .i64 n, .int .i64 most]) w4 := hw4 ▸ Keep.refl _ _
  have hE := found_end hG.out.1 hG.out.2 HD.out.2.2.1 hk4 k9
  refine bodyPost_ret (results_cell_row (P := Try.prog) rfl _ _ _ _ _ _ _ (by rfl) d3 Try.underlying85 rfl (by kernel_rfl)) rfl ?_
  rw [HS.out]
  exact ⟨.slice none 0 0, .slice none 0 0, by simp [Gt.no], World.ownsRow_nil .., World.ownsRow_nil .., hE.1, hE.2⟩
end
/-- found, whatever the step -/
theorem found9 (w : World) {p : Nat} {B : Nat} {l : List UInt8} {a f : Nat} (h : RIn w p B l a f) (kd : Int) (x0 : Nat) {ba la : Option Addr} {n0 bc ln lc : Nat} (n most : Int) (hn : n ≤ 9223372036854775807) (hm : most ≤ 9223372036854775807) (hl : l.length ≤ 100000000) :
    Calls Try.prog 52 #[.pointer (some ⟨p, 0, none⟩), .agg #[.int .i64 kd, .int .u64 x0, .slice ba n0 bc, .slice la ln lc, .int .i64 n, .int .i64 most]] w (FoundPost w p B l (stepR l a f kd n most)) := by
  by_cases hk : 1 ≤ kd ∧ kd ≤ 9
  · have hc : kd = 1 ∨ kd = 2 ∨ kd = 3 ∨ kd = 4 ∨ kd = 5 ∨ kd = 6 ∨ kd = 7 ∨ kd = 8 ∨ kd = 9 := by omega
    rcases hc with rfl | rfl | rfl | rfl | rfl | rfl | rfl | rfl | rfl
    · exact found9_1 w h x0 n most
    · exact found9_2 w h x0 n most
    · exact found9_3 w h x0 n most
    · exact found9_4 w h x0 n most
    · exact found9_5 w h x0 n most
    · exact found9_6 w h x0 n most hn
    · exact found9_7 w h x0 n most hm
    · exact found9_8 w h x0 n most hm hl
    · exact found9_9 w h x0 n most
  · exact found9_no w h x0 n most kd hk
end Go.Proofs.Ytdooabbeolfgfaa
