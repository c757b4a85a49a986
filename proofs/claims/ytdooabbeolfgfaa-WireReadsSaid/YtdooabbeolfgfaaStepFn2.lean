import Derived.Test.YtdooabbeolfgfaaStepFit
import Derived.Test.YtdooabbeolfgfaaSame
set_option linter.unusedVariables false
set_option linter.unusedSimpArgs false
namespace Go.Proofs.Ytdooabbeolfgfaa
open Go.RowKit
/-! ### the bytes of steps -/
def wstep (q : List UInt8 × Nat) (s : St9) : List UInt8 × Nat := (putL q.1 (stepF s.kd s.b s.ns s.most q.2) s.bytes, stepF s.kd s.b s.ns s.most q.2)
def runW (ss : List St9) : List UInt8 × Nat := ss.foldl wstep ([], 0)
theorem runW_take (ss : List St9) (k : Nat) (h : k < ss.length) : runW (ss.take (k + 1)) = wstep (runW (ss.take k)) ss[k] := by
  unfold runW
  rw [List.take_succ_eq_append_getElem h, List.foldl_append]
  rfl
/-- steps that can be written -/
structure Smalls (ss : List St9) : Prop where
  b : ∀ s ∈ ss, s.b.length ≤ 100000 ∧ s.ns.length ≤ 100000 ∧ s.x < 18446744073709551616
  z : size9 ss ≤ 10000000
  n : ss.length ≤ 1000
theorem runW_len {ss : List St9} (h : Smalls ss) : ∀ k, k ≤ ss.length → (runW (ss.take k)).1.length ≤ 20 * k + size9 (ss.take k) := by
  intro k
  induction k with
  | zero => intro _; simp [runW]
  | succ k ih =>
    intro hk
    have hkl : k < ss.length := by omega
    have h1 := ih (by omega)
    have h2 := h.b ss[k] (List.getElem_mem hkl)
    rw [runW_take ss k hkl, size9_take ss k hkl]
    unfold wstep
    simp only
    have h3 := putL_len (runW (ss.take k)).1 ss[k].bytes (stepF ss[k].kd ss[k].b ss[k].ns ss[k].most (runW (ss.take k)).2)
    have h4 := stepB_len ss[k].kd ss[k].x ss[k].b ss[k].ns h2.2.2 (by omega) (by omega)
    unfold St9.bytes at h3 ⊢
    omega
theorem Smalls.len {ss : List St9} (h : Smalls ss) (k : Nat) (hk : k ≤ ss.length) : (runW (ss.take k)).1.length ≤ 11000000 := by
  have h1 := runW_len h k hk
  have h2 := size9_take_le ss k
  have h3 := h.z; have h4 := h.n
  omega
set_option maxRecDepth 100000 in
set_option maxHeartbeats 3200000 in
theorem written_any (w : World) {A : Option Addr} {n c : Nat} {vs : List Value} {ss : List St9} (h : Sts w A n c vs ss) (hs : Smalls ss) :
    Calls Try.prog 58 #[.slice A n c] w fun e w' => ∃ v, e = .returned (.tuple #[v, .bool (decide ((runW ss).2 = 0))]) ∧ w'.ownsRow w.heap.size 5 1 v (doneL (runW ss).1 (runW ss).2).length ((doneL (runW ss).1 (runW ss).2).map by8) ∧ Below w.heap.size w w' := by
  have hl := Lib.hid h.len
  have m1 := h.sl.le; have m2 := h.sl.max
  go_enter Try.func58, Try.ntmps58
  go_wp2_with (first | (at_builtin; refine Stopped.out ?_) | (at_make; refine Stopped.out ?_))
  refine (NewWriter_any w).mono ?_
  rintro e w1 ⟨rfl, hob, hb1⟩
  have H1 := Lib.hid (And.intro hob hb1)
  clear hob hb1
  go_wp2
  go_loopw [5] (fun ii wr => ∃ (k : Nat) (G : List Nat) (l : List UInt8) (f : Nat), k ≤ n ∧ ii = .int .i64 k ∧ Ob 104 wr w.heap.size G l f ∧ (∀ x ∈ G, w.heap.size ≤ x) ∧ Below w.heap.size w wr ∧ Hid ((l, f) = runW (ss.take k))) (fun ii _ => n - (intOf ii).toNat)
  case atStart => exact ⟨0, [w.heap.size], [], 0, Nat.zero_le _, rfl, H1.out.1, by simp, H1.out.2, Lib.hid (by simp [runW])⟩
  case round =>
    obtain ⟨k, G, l, f, hk, rfl, hob, hG, hb, hq⟩ := hrel
    by_cases hlt : k < n
    · obtain ⟨b, off, rfl⟩ := h.sl.form (by omega)
      have hkl : k < ss.length := by rw [hl.out]; exact hlt
      obtain ⟨cs, hrd, hcs⟩ := h.at_ k ss[k] (List.getElem?_eq_getElem hkl)
      obtain ⟨ba, bn, bc, la, ln, lc, rfl, s1, s2, h3, h4⟩ := hrd.form
      have g : ∀ j v, ([Value.int .i64 ss[k].kd, .int .u64 ss[k].x, .slice ba bn bc, .slice la ln lc, .int .i64 ss[k].n, .int .i64 ss[k].most] : List Value)[j]? = some v → wr.cell? ⟨b, off + k * 6 + j, none⟩ = some v := fun j v hj => by
        have h5 := hcs j v hj
        obtain ⟨h6, h7⟩ := List.getElem?_eq_some_iff.1 h5
        have h8 := h.sl.cell (k * 6 + j) h6
        rw [h7, ← Nat.add_assoc] at h8
        exact cell_below h8 hb
      have hbl : ss[k].b.length = bn := by simpa using s1.len
      have hnl : ss[k].ns.length = ln := by simpa using s2.len
      have hsm := hs.b ss[k] (List.getElem_mem hkl)
      have hll := hs.len k (by omega)
      rw [← hq.out] at hll
      have hq2 := runW_take ss k hkl
      rw [← hq.out] at hq2
      have low : ∀ {sz m d : Nat} {X : Option Addr} {us : List Value}, 0 < sz → Sl w sz X m d us → ∀ ad, X = some ad → 0 < m → ad.block ∉ G := fun hz s ad e h0 hx => by
        have h5 := s.len
        have h6 := cell_lt ((s.at_ ad e (by rw [h5]; exact Nat.mul_pos h0 hz)).2 0 (by rw [h5]; exact Nat.mul_pos h0 hz))
        have h7 := hG _ hx
        simp at h6
        omega
      have hw := write9 wr hob ss[k].kd ss[k].x ss[k].n ss[k].most (s1.below hb) (s2.below hb) (low (by decide) s1) (low (by decide) s2) hsm.2.2 (by omega) (by omega) (by simp only at hll; omega)
      obtain ⟨s, hse⟩ : ∃ s, s = ss[k] := ⟨_, rfl⟩
      rw [← hse] at g hw hq2
      have HW := Lib.hid hw
      have HQ := Lib.hid (And.intro hq2 (And.intro hG hb))
      have g0 := g 0 _ rfl; have g1 := g 1 _ rfl; have g2 := g 2 _ rfl; have g3 := g 3 _ rfl; have g4 := g 4 _ rfl; have g5 := g 5 _ rfl
      rw [Nat.add_zero] at g0
      have k0 : (0 : Int) ≤ (k : Int) := Int.natCast_nonneg _
      have k1 : (k : Int) < (n : Int) := by omega
      obtain ⟨kd, x, bb, ns, nn, mo⟩ := s
      simp only at g0 g1 g2 g3 g4 g5 HW
      clear g hcs hrd hse hkl s1 s2 hbl hnl hsm hll hq2 hw low hob hG hb h3 h4
      go_wp2_with (first | (at_builtin; refine Stopped.out ?_) | (at_make; refine Stopped.out ?_))
      refine HW.out.mono ?_
      rintro e w5 ⟨rfl, hst⟩
      obtain ⟨G', o1, o2, o3⟩ := hst.out
      have HN : Hid (Ob 104 w5 w.heap.size G' _ _ ∧ (∀ x ∈ G', w.heap.size ≤ x) ∧ Below w.heap.size w w5) := Lib.hid ⟨o1, fun x hx => (o3 x hx).elim (HQ.out.2.1 x) (fun h5 => Nat.le_trans HQ.out.2.2.size h5), o2.below HQ.out.2.2 HQ.out.2.2.size HQ.out.2.1⟩
      clear hst o1 o2 o3
      go_wp2
      first | go_roundw | refine ⟨?rel, ?measure⟩
      case rel => exact ⟨k + 1, G', _, _, by omega, by go_num, HN.out.1, HN.out.2.1, HN.out.2.2, Lib.hid (by rw [HQ.out.1]; rfl)⟩
      case measure => simp [intOf]; omega
    · have HQ : Hid ((l, f) = runW ss) := Lib.hid (by rw [hq.out, List.take_of_length_le (by rw [hl.out]; omega)])
      have hll := hs.len ss.length (Nat.le_refl _)
      rw [List.take_length, ← HQ.out] at hll
      simp only at hll
      have HD := Lib.hid (Done_any wr hob (by omega))
      have HB := Lib.hid hb
      have k1 : decide ((k : Int) < (n : Int)) = false := decide_eq_false (by omega)
      clear hob hb hG hll hq
      go_wp2_with (first | (at_builtin; refine Stopped.out ?_) | (at_make; refine Stopped.out ?_))
      refine HD.out.mono ?_
      rintro e w5 ⟨v5, rfl, o5, hb5⟩
      have HN : Hid (w5.ownsRow w.heap.size 5 1 v5 (doneL (runW ss).1 (runW ss).2).length ((doneL (runW ss).1 (runW ss).2).map by8) ∧ Below w.heap.size w w5 ∧ (runW ss).2 = f) := Lib.hid ⟨by rw [← HQ.out]; exact own_mono o5 HB.out.size, bthen HB.out hb5, by rw [← HQ.out]⟩
      clear o5 hb5
      by_cases hf : f = 0
      · have i1 : ((f : Int) == 0) = true := by simp; exact hf
        have HV : Hid (decide ((runW ss).2 = 0) = true) := Lib.hid (by rw [HN.out.2.2]; exact decide_eq_true hf)
        clear hf
        go_wp2
        go_ret2
        exact ⟨v5, by (rw [HV.out]) <;> rfl, HN.out.1, HN.out.2.1⟩
      · have i1 : ((f : Int) == 0) = false := by simp; omega
        have HV : Hid (decide ((runW ss).2 = 0) = false) := Lib.hid (by rw [HN.out.2.2]; exact decide_eq_false hf)
        clear hf
        go_wp2
        go_ret2
        exact ⟨v5, by (rw [HV.out]) <;> rfl, HN.out.1, HN.out.2.1⟩
end Go.Proofs.Ytdooabbeolfgfaa
