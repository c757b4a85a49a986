import Derived.Test.YtdooabbeolfgfaaRead9
import Derived.Test.YtdooabbeolfgfaaStepOne
import Derived.Test.YtdooabbeolfgfaaWWrites
set_option linter.unusedVariables false
set_option linter.unusedSimpArgs false
namespace Go.Proofs.Ytdooabbeolfgfaa
open Go.RowKit
/-! ### slices of steps in memory of their own -/
theorem EStep : ElemT Try.prog 60 70 (.agg #[.int .i64 0, .int .u64 0, .slice none 0 0, .slice none 0 0, .int .i64 0, .int .i64 0]) 6 80 := ⟨Try.underlying60, by kernel_rfl, rfl, by decide⟩
/-- a row of steps in w; their bytes and numbers as they stand in w0 -/
structure StsO (w0 w : World) (B : Nat) (v : Value) (ss : List St9) : Prop where
  out : ∃ vs, w.ownsRow B 70 6 v ss.length vs ∧ ∀ (i : Nat) s, ss[i]? = some s → ∃ cs, StRd w0 cs s ∧ ∀ j u, cs[j]? = some u → vs[i * 6 + j]? = some u
theorem StsO.nil (w0 w : World) (B : Nat) : StsO w0 w B (.slice none 0 0) [] := ⟨[], World.ownsRow_nil .., fun i s h => by simp at h⟩
theorem StsO.sts {w0 w : World} {B : Nat} {v : Value} {ss : List St9} (h : StsO w0 w B v ss) (k : Below w0.heap.size w0 w) : ∃ A c vs, v = .slice A ss.length c ∧ Sts w A ss.length c vs ss := by
  obtain ⟨vs, o, hr⟩ := h.out
  obtain ⟨A, c, rfl, s, _⟩ := own_sl o
  exact ⟨A, c, vs, rfl, s, rfl, fun i x hx => by
    obtain ⟨cs, h1, h2⟩ := hr i x hx
    exact ⟨cs, h1.below k, h2⟩⟩
theorem StsO.below {w0 w w' : World} {B : Nat} {v : Value} {ss : List St9} (h : StsO w0 w B v ss) (k : Below w.heap.size w w') : StsO w0 w' B v ss := by
  obtain ⟨vs, o, hr⟩ := h.out
  exact ⟨vs, own_below o k, hr⟩
theorem own_len {w : World} {B T sz n : Nat} {v : Value} {xs : List Value} (o : w.ownsRow B T sz v n xs) : xs.length = n * sz := o.1
theorem rows_snoc {w0 : World} {vs : List Value} {ss : List St9} (hr : ∀ (i : Nat) s, ss[i]? = some s → ∃ cs, StRd w0 cs s ∧ ∀ j u, cs[j]? = some u → vs[i * 6 + j]? = some u) (hl : vs.length = ss.length * 6) {cs : List Value} {s : St9} (h : StRd w0 cs s) :
    ∀ (i : Nat) x, (ss ++ [s])[i]? = some x → ∃ cs2, StRd w0 cs2 x ∧ ∀ j u, cs2[j]? = some u → (vs ++ cs)[i * 6 + j]? = some u := by
  intro i x hx
  rw [List.getElem?_append] at hx
  split at hx
  · rename_i hlt
    obtain ⟨cs2, h1, h2⟩ := hr i x hx
    refine ⟨cs2, h1, fun j u hj => ?_⟩
    have := h2 j u hj
    rw [List.getElem?_append_left (List.getElem?_eq_some_iff.1 this).1]
    exact this
  · rename_i hlt
    have hq : i - ss.length = 0 := by
      cases hq : i - ss.length with
      | zero => rfl
      | succ q => rw [hq] at hx; simp at hx
    rw [hq] at hx
    obtain rfl := Option.some.inj hx
    obtain rfl : i = ss.length := by omega
    refine ⟨cs, h, fun j u hj => ?_⟩
    rw [List.getElem?_append_right (by omega), hl, Nat.add_sub_cancel_left]
    exact hj
/-- is it told? -/
def tellOK (s : St9) : Bool := decide (1 ≤ s.kd) && decide (s.kd ≤ 8) && (decide (s.kd ≠ 6) || decide (0 < s.b.length))
def tellF (ss : List St9) : List St9 := ss.filter tellOK
def fit1 (s : St9) : St9 :=
  let m1 : Int := if s.most < (s.b.length : Int) then (s.b.length : Int) else s.most
  { s with n := (s.b.length : Int), most := if m1 < (s.ns.length : Int) then (s.ns.length : Int) else m1 }
def fitF (ss : List St9) : List St9 := ss.map fit1
theorem tellF_take (ss : List St9) (k : Nat) (h : k < ss.length) : tellF (ss.take (k + 1)) = tellF (ss.take k) ++ (if tellOK ss[k] then [ss[k]] else []) := by
  unfold tellF
  rw [List.take_succ_eq_append_getElem h, List.filter_append]
  congr 1
  by_cases hk : tellOK ss[k] = true
  · simp [hk]
  · simp [hk]
theorem fitF_take (ss : List St9) (k : Nat) (h : k < ss.length) : fitF (ss.take (k + 1)) = fitF (ss.take k) ++ [fit1 ss[k]] := by
  unfold fitF
  rw [List.take_succ_eq_append_getElem h, List.map_append]
  rfl
set_option maxRecDepth 100000 in
set_option maxHeartbeats 3200000 in
theorem telling_any (w : World) {A : Option Addr} {n c : Nat} {vs : List Value} {ss : List St9} (h : Sts w A n c vs ss) (hn : n ≤ 1000) :
    Calls Try.prog 57 #[.slice A n c] w fun e w' => ∃ v, e = .returned v ∧ StsO w w' w.heap.size v (tellF ss) ∧ Below w.heap.size w w' := by
  have hl := Lib.hid h.len
  have m1 := h.sl.le; have m2 := h.sl.max
  go_enter Try.func57, Try.ntmps57
  go_wp2
  go_loopw [3, 4] (fun vo ii wr => ∃ (k : Nat), k ≤ n ∧ ii = .int .i64 k ∧ StsO w wr w.heap.size vo (tellF (ss.take k)) ∧ Below w.heap.size w wr) (fun _ ii _ => n - (intOf ii).toNat)
  case atStart => exact ⟨0, Nat.zero_le _, rfl, by simpa [tellF] using StsO.nil w w w.heap.size, Below.refl _ _⟩
  case round =>
    obtain ⟨k, hk, rfl, ho, hb⟩ := hrel
    by_cases hlt : k < n
    · obtain ⟨b, off, rfl⟩ := h.sl.form (by omega)
      have hkl : k < ss.length := by rw [hl.out]; exact hlt
      obtain ⟨cs, hrd, hcs⟩ := h.at_ k ss[k] (List.getElem?_eq_getElem hkl)
      obtain ⟨ba, bn, bc, la, ln, lc, rfl, s1, s2, h3, h4⟩ := hrd.form
      have g : ∀ j v, ([Value.int .i64 ss[k].kd, .int .u64 ss[k].x, .slice ba bn bc, .slice la ln lc, .int .i64 ss[k].n, .int .i64 ss[k].most] : List Value)[j]? = some v → wr.cell? ⟨b, off + k * 6 + j, none⟩ = some v := fun j v hj => by
        have h5 := hcs j v hj
        obtain ⟨h6, h7⟩ := List.getElem?_eq_some_iff.1 h5
        have h8 := h.sl.cell (k * 6 + j) h6
        rw [h7, ← Nat.add_assoc] at h8
        exact cell_below h8 hb
      have hbl : ss[k].b.length = bn := by simpa using s1.len
      have HT := Lib.hid (tellF_take ss k hkl)
      have HR := Lib.hid hrd
      obtain ⟨s, hs⟩ : ∃ s, s = ss[k] := ⟨_, rfl⟩
      rw [← hs] at g hbl HT HR
      have g0 := g 0 _ rfl; have g1 := g 1 _ rfl; have g2 := g 2 _ rfl; have g3 := g 3 _ rfl; have g4 := g 4 _ rfl; have g5 := g 5 _ rfl
      rw [Nat.add_zero] at g0
      have k0 : (0 : Int) ≤ (k : Int) := Int.natCast_nonneg _
      have k1 : (k : Int) < (n : Int) := by omega
      have HO := Lib.hid (And.intro ho hb)
      have hlen : (tellF (ss.take k)).length ≤ k := by
        unfold tellF
        exact Nat.le_trans (List.length_filter_le _ _) (by simp; omega)
      obtain ⟨kd, x, bb, ns, nn, mo⟩ := s
      simp only at g0 g1 g2 g3 g4 g5 hbl
      have HK : Hid (tellOK ⟨kd, x, bb, ns, nn, mo⟩ = (decide (1 ≤ kd) && decide (kd ≤ 8) && (decide (kd ≠ 6) || decide (0 < bn)))) := Lib.hid (by unfold tellOK; simp only; rw [hbl])
      clear g hcs hrd ho hb s1 s2 hs hkl
      by_cases q1 : kd < 1
      · have i1 : decide ((1 : Int) ≤ kd) = false := decide_eq_false (by omega)
        have HF : Hid (tellF (ss.take (k + 1)) = tellF (ss.take k)) := Lib.hid (by rw [HT.out, HK.out]; simp; try omega)
        go_wp2
        first | go_roundw | refine ⟨?rel, ?measure⟩
        case rel => exact ⟨k + 1, by omega, by go_num, by rw [HF.out]; exact HO.out.1.below ((Below.refl _ _).alloc (Nat.le_refl _) _), bthen HO.out.2 ((Below.refl _ _).alloc (Nat.le_refl _) _)⟩
        case measure => simp [intOf]; omega
      by_cases q2 : 8 < kd
      · have i1 : (1 : Int) ≤ kd := by omega
        have i2 : decide (kd ≤ 8) = false := decide_eq_false (by omega)
        have HF : Hid (tellF (ss.take (k + 1)) = tellF (ss.take k)) := Lib.hid (by rw [HT.out, HK.out]; simp; try omega)
        go_wp2
        first | go_roundw | refine ⟨?rel, ?measure⟩
        case rel => exact ⟨k + 1, by omega, by go_num, by rw [HF.out]; exact HO.out.1.below ((Below.refl _ _).alloc (Nat.le_refl _) _), bthen HO.out.2 ((Below.refl _ _).alloc (Nat.le_refl _) _)⟩
        case measure => simp [intOf]; omega
      have i1 : (1 : Int) ≤ kd := by omega
      have i2 : kd ≤ 8 := by omega
      by_cases q3 : kd = 6
      · subst q3
        by_cases q4 : bn = 0
        · have i4 : decide ((0 : Int) < (bn : Int)) = false := decide_eq_false (by omega)
          have HF : Hid (tellF (ss.take (k + 1)) = tellF (ss.take k)) := Lib.hid (by rw [HT.out, HK.out]; simp; try omega)
          go_wp2
          first | go_roundw | refine ⟨?rel, ?measure⟩
          case rel => exact ⟨k + 1, by omega, by go_num, by rw [HF.out]; exact HO.out.1.below ((Below.refl _ _).alloc (Nat.le_refl _) _), bthen HO.out.2 ((Below.refl _ _).alloc (Nat.le_refl _) _)⟩
          case measure => simp [intOf]; omega
        · have i4 : (0 : Int) < (bn : Int) := by omega
          have HF : Hid (tellF (ss.take (k + 1)) = tellF (ss.take k) ++ [⟨6, x, bb, ns, nn, mo⟩]) := Lib.hid (by rw [HT.out, HK.out]; simp; omega)
          obtain ⟨xs, o, hr⟩ := HO.out.1.out
          have H1 : Below wr.heap.size wr (wr.alloc (.cells #[.int .i64 6, .int .u64 (x : Int), .slice ba bn bc, .slice la ln lc, .int .i64 nn, .int .i64 mo] 70)) := (Below.refl _ _).alloc (Nat.le_refl _) _
          have H2 : Below wr.heap.size wr ((wr.alloc (.cells #[.int .i64 6, .int .u64 (x : Int), .slice ba bn bc, .slice la ln lc, .int .i64 nn, .int .i64 mo] 70)).alloc (.cells #[.int .i64 6, .int .u64 (x : Int), .slice ba bn bc, .slice la ln lc, .int .i64 nn, .int .i64 mo] 70)) := H1.alloc (by simp) _
          have HH := Lib.hid (And.intro (own_below o H2) (And.intro hr (And.intro (own_len o) (And.intro (bthen HO.out.2 H2) o))))
          have HSN : Hid (Sl ((wr.alloc (.cells #[.int .i64 6, .int .u64 (x : Int), .slice ba bn bc, .slice la ln lc, .int .i64 nn, .int .i64 mo] 70)).alloc (.cells #[.int .i64 6, .int .u64 (x : Int), .slice ba bn bc, .slice la ln lc, .int .i64 nn, .int .i64 mo] 70)) 6 (some ⟨wr.heap.size + 1, 0, none⟩) 1 1 [.int .i64 6, .int .u64 (x : Int), .slice ba bn bc, .slice la ln lc, .int .i64 nn, .int .i64 mo]) := Lib.hid (by have := Sl.fresh (wr.alloc (.cells #[.int .i64 6, .int .u64 (x : Int), .slice ba bn bc, .slice la ln lc, .int .i64 nn, .int .i64 mo] 70)) [.int .i64 6, .int .u64 (x : Int), .slice ba bn bc, .slice la ln lc, .int .i64 nn, .int .i64 mo] 70 1 6 rfl (by decide); rwa [World.size_alloc] at this)
          clear o hr H1 H2
          go_wp2_with (first | (at_builtin; refine Stopped.out ?_) | (at_make; refine Stopped.out ?_))
          refine Stopped.mk (ap_own EStep rfl (.tmp 35) (.tmp 37) rfl rfl HH.out.1 rfl HSN.out (by simp [Value.oneCell']) (by simp only [maxLen]; omega) (by omega) HH.out.2.2.2.1.size ?_)
          intro v5 w5 o5 hg5 _
          have hb5 := HH.out.2.2.2.1.grown hg5 HH.out.2.2.2.1.size (fun j e => (HH.out.1.lt j e).1)
          have HN : Hid (StsO w w5 w.heap.size v5 (tellF (ss.take (k + 1))) ∧ Below w.heap.size w w5) := Lib.hid ⟨⟨_, by rw [HF.out]; simpa using o5, by rw [HF.out]; exact rows_snoc HH.out.2.1 HH.out.2.2.1 HR.out⟩, hb5⟩
          clear o5 hg5 hb5 HH
          go_wp2
          first | go_roundw | refine ⟨?rel, ?measure⟩
          case rel => exact ⟨k + 1, by omega, by go_num, HN.out⟩
          case measure => simp [intOf]; omega
      · have i3 : (kd != 6) = true := by simp; exact q3
        have HF : Hid (tellF (ss.take (k + 1)) = tellF (ss.take k) ++ [⟨kd, x, bb, ns, nn, mo⟩]) := Lib.hid (by rw [HT.out, HK.out]; simp; omega)
        obtain ⟨xs, o, hr⟩ := HO.out.1.out
        have H1 : Below wr.heap.size wr (wr.alloc (.cells #[.int .i64 kd, .int .u64 (x : Int), .slice ba bn bc, .slice la ln lc, .int .i64 nn, .int .i64 mo] 70)) := (Below.refl _ _).alloc (Nat.le_refl _) _
        have H2 : Below wr.heap.size wr ((wr.alloc (.cells #[.int .i64 kd, .int .u64 (x : Int), .slice ba bn bc, .slice la ln lc, .int .i64 nn, .int .i64 mo] 70)).alloc (.cells #[.int .i64 kd, .int .u64 (x : Int), .slice ba bn bc, .slice la ln lc, .int .i64 nn, .int .i64 mo] 70)) := H1.alloc (by simp) _
        have HH := Lib.hid (And.intro (own_below o H2) (And.intro hr (And.intro (own_len o) (And.intro (bthen HO.out.2 H2) o))))
        have HSN : Hid (Sl ((wr.alloc (.cells #[.int .i64 kd, .int .u64 (x : Int), .slice ba bn bc, .slice la ln lc, .int .i64 nn, .int .i64 mo] 70)).alloc (.cells #[.int .i64 kd, .int .u64 (x : Int), .slice ba bn bc, .slice la ln lc, .int .i64 nn, .int .i64 mo] 70)) 6 (some ⟨wr.heap.size + 1, 0, none⟩) 1 1 [.int .i64 kd, .int .u64 (x : Int), .slice ba bn bc, .slice la ln lc, .int .i64 nn, .int .i64 mo]) := Lib.hid (by have := Sl.fresh (wr.alloc (.cells #[.int .i64 kd, .int .u64 (x : Int), .slice ba bn bc, .slice la ln lc, .int .i64 nn, .int .i64 mo] 70)) [.int .i64 kd, .int .u64 (x : Int), .slice ba bn bc, .slice la ln lc, .int .i64 nn, .int .i64 mo] 70 1 6 rfl (by decide); rwa [World.size_alloc] at this)
        clear o hr H1 H2
        go_wp2_with (first | (at_builtin; refine Stopped.out ?_) | (at_make; refine Stopped.out ?_))
        refine Stopped.mk (ap_own EStep rfl (.tmp 35) (.tmp 37) rfl rfl HH.out.1 rfl HSN.out (by simp [Value.oneCell']) (by simp only [maxLen]; omega) (by omega) HH.out.2.2.2.1.size ?_)
        intro v5 w5 o5 hg5 _
        have hb5 := HH.out.2.2.2.1.grown hg5 HH.out.2.2.2.1.size (fun j e => (HH.out.1.lt j e).1)
        have HN : Hid (StsO w w5 w.heap.size v5 (tellF (ss.take (k + 1))) ∧ Below w.heap.size w w5) := Lib.hid ⟨⟨_, by rw [HF.out]; simpa using o5, by rw [HF.out]; exact rows_snoc HH.out.2.1 HH.out.2.2.1 HR.out⟩, hb5⟩
        clear o5 hg5 hb5 HH
        go_wp2
        first | go_roundw | refine ⟨?rel, ?measure⟩
        case rel => exact ⟨k + 1, by omega, by go_num, HN.out⟩
        case measure => simp [intOf]; omega
    · have HN : Hid (StsO w wr w.heap.size u3 (tellF ss) ∧ Below w.heap.size w wr) := Lib.hid ⟨by rw [List.take_of_length_le (by rw [hl.out]; omega)] at ho; exact ho, hb⟩
      have k1 : decide ((k : Int) < (n : Int)) = false := decide_eq_false (by omega)
      clear ho hb
      go_wp2
      go_ret
      exact ⟨_, rfl, HN.out⟩
end Go.Proofs.Ytdooabbeolfgfaa
