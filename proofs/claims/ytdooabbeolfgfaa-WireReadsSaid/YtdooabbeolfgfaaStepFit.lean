import Derived.Test.YtdooabbeolfgfaaStepFn
set_option linter.unusedVariables false
set_option linter.unusedSimpArgs false
namespace Go.Proofs.Ytdooabbeolfgfaa
open Go.RowKit
set_option maxRecDepth 100000 in
set_option maxHeartbeats 3200000 in
theorem fitting_any (w : World) {A : Option Addr} {n c : Nat} {vs : List Value} {ss : List St9} (h : Sts w A n c vs ss) (hn : n ≤ 1000) :
    Calls Try.prog 56 #[.slice A n c] w fun e w' => ∃ v, e = .returned v ∧ StsO w w' w.heap.size v (fitF ss) ∧ Below w.heap.size w w' := by
  have hl := Lib.hid h.len
  have m1 := h.sl.le; have m2 := h.sl.max
  go_enter Try.func56, Try.ntmps56
  go_wp2
  go_loopw [3, 4] (fun vo ii wr => ∃ (k : Nat), k ≤ n ∧ ii = .int .i64 k ∧ StsO w wr w.heap.size vo (fitF (ss.take k)) ∧ Below w.heap.size w wr) (fun _ ii _ => n - (intOf ii).toNat)
  case atStart => exact ⟨0, Nat.zero_le _, rfl, by simpa [fitF] using StsO.nil w w w.heap.size, Below.refl _ _⟩
  case round =>
    obtain ⟨k, hk, rfl, ho, hb⟩ := hrel
    by_cases hlt : k < n
    · obtain ⟨b, off, rfl⟩ := h.sl.form (by omega)
      have hkl : k < ss.length := by rw [hl.out]; exact hlt
      obtain ⟨cs, hrd, hcs⟩ := h.at_ k ss[k] (List.getElem?_eq_getElem hkl)
      obtain ⟨ba, bn, bc, la, ln, lc, rfl, s1, s2, h3, h4⟩ := hrd.form
      have g : ∀ j v, ([Value.int .i64 ss[k].kd, .int .u64 ss[k].x, .slice ba bn bc, .slice la ln lc, .int .i64 ss[k].n, .int .i64 ss[k].most] : List Value)[j]? = some v → wr.cell? ⟨b, off + k * 6 + j, none⟩ = some v := fun j v hj => by
        have h5 := hcs j v hj
        obtain ⟨h6, h7⟩ := List.getElem?_eq_some_iff.1 h5
        have h8 := h.sl.cell (k * 6 + j) h6
        rw [h7, ← Nat.add_assoc] at h8
        exact cell_below h8 hb
      have hbl : ss[k].b.length = bn := by simpa using s1.len
      have hnl : ss[k].ns.length = ln := by simpa using s2.len
      have HT := Lib.hid (fitF_take ss k hkl)
      obtain ⟨s, hs⟩ : ∃ s, s = ss[k] := ⟨_, rfl⟩
      rw [← hs] at g hbl hnl HT hrd s1 s2
      have hrx := hrd.x; have hrk := hrd.kd
      have g0 := g 0 _ rfl; have g1 := g 1 _ rfl; have g2 := g 2 _ rfl; have g3 := g 3 _ rfl; have g4 := g 4 _ rfl; have g5 := g 5 _ rfl
      rw [Nat.add_zero] at g0
      have k0 : (0 : Int) ≤ (k : Int) := Int.natCast_nonneg _
      have k1 : (k : Int) < (n : Int) := by omega
      obtain ⟨kd, x, bb, ns, nn, mo⟩ := s
      simp only at g0 g1 g2 g3 g4 g5 hbl hnl hrx hrk s1 s2
      obtain ⟨mf, hmf⟩ : ∃ mf, mf = (fit1 ⟨kd, x, bb, ns, nn, mo⟩).most := ⟨_, rfl⟩
      have hmb : -9223372036854775808 ≤ mf ∧ mf ≤ 9223372036854775807 := by
        have := hrd.most
        simp only at this
        rw [hmf]; unfold fit1; simp only; rw [hbl, hnl]
        constructor <;> (split <;> split) <;> omega
      have HR : Hid (StRd w [.int .i64 kd, .int .u64 (x : Int), .slice ba bn bc, .slice la ln lc, .int .i64 bn, .int .i64 mf] (fit1 ⟨kd, x, bb, ns, nn, mo⟩)) := Lib.hid
        ⟨⟨ba, bn, bc, la, ln, lc, by unfold fit1; simp only [hbl]; rw [hmf]; unfold fit1; simp only [hbl], s1, s2, h3, h4⟩, hrx, hrk, by unfold fit1; simp only [hbl]; omega, by rw [← hmf]; exact hmb⟩
      have HF : Hid (mf = if (if mo < (bn : Int) then (bn : Int) else mo) < (ln : Int) then (ln : Int) else (if mo < (bn : Int) then (bn : Int) else mo)) := Lib.hid (by rw [hmf]; unfold fit1; simp only [hbl, hnl])
      obtain ⟨xs, o, hr⟩ := ho.out
      have hlen : (fitF (ss.take k)).length = k := by simp [fitF]; omega
      rw [hlen] at o
      have HO := Lib.hid (And.intro o (And.intro hr (And.intro (own_len o) hb)))
      have HLk := Lib.hid hlen
      clear g hcs hrd hs hkl s1 s2 hmf hmb hrx hrk ho o hr hb hlen hbl hnl
      by_cases q1 : mo < (bn : Int)
      · by_cases q2 : (bn : Int) < (ln : Int)
        · obtain rfl : mf = (ln : Int) := by rw [HF.out, if_pos q1, if_pos q2]
          have H2 : Below wr.heap.size wr ((wr.alloc (.cells #[.int .i64 kd, .int .u64 (x : Int), .slice ba bn bc, .slice la ln lc, .int .i64 (bn : Int), .int .i64 (ln : Int)] 70)).alloc (.cells #[.int .i64 kd, .int .u64 (x : Int), .slice ba bn bc, .slice la ln lc, .int .i64 (bn : Int), .int .i64 (ln : Int)] 70)) := ((Below.refl _ wr).alloc (Nat.le_refl _) _).alloc (by simp) _
          have HSN : Hid (Sl ((wr.alloc (.cells #[.int .i64 kd, .int .u64 (x : Int), .slice ba bn bc, .slice la ln lc, .int .i64 (bn : Int), .int .i64 (ln : Int)] 70)).alloc (.cells #[.int .i64 kd, .int .u64 (x : Int), .slice ba bn bc, .slice la ln lc, .int .i64 (bn : Int), .int .i64 (ln : Int)] 70)) 6 (some ⟨wr.heap.size + 1, 0, none⟩) 1 1 [.int .i64 kd, .int .u64 (x : Int), .slice ba bn bc, .slice la ln lc, .int .i64 (bn : Int), .int .i64 (ln : Int)]) := Lib.hid (by have := Sl.fresh (wr.alloc (.cells #[.int .i64 kd, .int .u64 (x : Int), .slice ba bn bc, .slice la ln lc, .int .i64 (bn : Int), .int .i64 (ln : Int)] 70)) [.int .i64 kd, .int .u64 (x : Int), .slice ba bn bc, .slice la ln lc, .int .i64 (bn : Int), .int .i64 (ln : Int)] 70 1 6 rfl (by decide); rwa [World.size_alloc] at this)
          have HH := Lib.hid (And.intro (own_below HO.out.1 H2) (And.intro HO.out.2.1 (And.intro HO.out.2.2.1 (bthen HO.out.2.2.2 H2))))
          clear HO H2 HF
          go_wp2_with (first | (at_builtin; refine Stopped.out ?_) | (at_make; refine Stopped.out ?_))
          refine Stopped.mk (ap_own EStep rfl (.tmp 40) (.tmp 42) rfl rfl HH.out.1 rfl HSN.out (by simp [Value.oneCell']) (by simp only [maxLen]; omega) (by omega) HH.out.2.2.2.size ?_)
          intro v5 w5 o5 hg5 _
          have hb5 := HH.out.2.2.2.grown hg5 HH.out.2.2.2.size (fun j e => (HH.out.1.lt j e).1)
          have HN : Hid (StsO w w5 w.heap.size v5 (fitF (ss.take (k + 1))) ∧ Below w.heap.size w w5) := Lib.hid ⟨⟨_, by rw [HT.out, List.length_append, HLk.out]; exact o5, by rw [HT.out]; exact rows_snoc HH.out.2.1 (by rw [HH.out.2.2.1, HLk.out]) HR.out⟩, hb5⟩
          clear o5 hg5 hb5 HH
          go_wp2
          first | go_roundw | refine ⟨?rel, ?measure⟩
          case rel => exact ⟨k + 1, by omega, by go_num, HN.out⟩
          case measure => simp [intOf]; omega
        · have q3 : (ln : Int) ≤ (bn : Int) := by omega
          obtain rfl : mf = (bn : Int) := by rw [HF.out, if_pos q1, if_neg q2]
          have H2 : Below wr.heap.size wr ((wr.alloc (.cells #[.int .i64 kd, .int .u64 (x : Int), .slice ba bn bc, .slice la ln lc, .int .i64 (bn : Int), .int .i64 (bn : Int)] 70)).alloc (.cells #[.int .i64 kd, .int .u64 (x : Int), .slice ba bn bc, .slice la ln lc, .int .i64 (bn : Int), .int .i64 (bn : Int)] 70)) := ((Below.refl _ wr).alloc (Nat.le_refl _) _).alloc (by simp) _
          have HSN : Hid (Sl ((wr.alloc (.cells #[.int .i64 kd, .int .u64 (x : Int), .slice ba bn bc, .slice la ln lc, .int .i64 (bn : Int), .int .i64 (bn : Int)] 70)).alloc (.cells #[.int .i64 kd, .int .u64 (x : Int), .slice ba bn bc, .slice la ln lc, .int .i64 (bn : Int), .int .i64 (bn : Int)] 70)) 6 (some ⟨wr.heap.size + 1, 0, none⟩) 1 1 [.int .i64 kd, .int .u64 (x : Int), .slice ba bn bc, .slice la ln lc, .int .i64 (bn : Int), .int .i64 (bn : Int)]) := Lib.hid (by have := Sl.fresh (wr.alloc (.cells #[.int .i64 kd, .int .u64 (x : Int), .slice ba bn bc, .slice la ln lc, .int .i64 (bn : Int), .int .i64 (bn : Int)] 70)) [.int .i64 kd, .int .u64 (x : Int), .slice ba bn bc, .slice la ln lc, .int .i64 (bn : Int), .int .i64 (bn : Int)] 70 1 6 rfl (by decide); rwa [World.size_alloc] at this)
          have HH := Lib.hid (And.intro (own_below HO.out.1 H2) (And.intro HO.out.2.1 (And.intro HO.out.2.2.1 (bthen HO.out.2.2.2 H2))))
          clear HO H2 HF
          go_wp2_with (first | (at_builtin; refine Stopped.out ?_) | (at_make; refine Stopped.out ?_))
          refine Stopped.mk (ap_own EStep rfl (.tmp 40) (.tmp 42) rfl rfl HH.out.1 rfl HSN.out (by simp [Value.oneCell']) (by simp only [maxLen]; omega) (by omega) HH.out.2.2.2.size ?_)
          intro v5 w5 o5 hg5 _
          have hb5 := HH.out.2.2.2.grown hg5 HH.out.2.2.2.size (fun j e => (HH.out.1.lt j e).1)
          have HN : Hid (StsO w w5 w.heap.size v5 (fitF (ss.take (k + 1))) ∧ Below w.heap.size w w5) := Lib.hid ⟨⟨_, by rw [HT.out, List.length_append, HLk.out]; exact o5, by rw [HT.out]; exact rows_snoc HH.out.2.1 (by rw [HH.out.2.2.1, HLk.out]) HR.out⟩, hb5⟩
          clear o5 hg5 hb5 HH
          go_wp2
          first | go_roundw | refine ⟨?rel, ?measure⟩
          case rel => exact ⟨k + 1, by omega, by go_num, HN.out⟩
          case measure => simp [intOf]; omega
      · by_cases q2 : mo < (ln : Int)
        · have q3 : decide (mo < (bn : Int)) = false := decide_eq_false q1
          obtain rfl : mf = (ln : Int) := by rw [HF.out, if_neg q1, if_pos q2]
          have H2 : Below wr.heap.size wr ((wr.alloc (.cells #[.int .i64 kd, .int .u64 (x : Int), .slice ba bn bc, .slice la ln lc, .int .i64 (bn : Int), .int .i64 (ln : Int)] 70)).alloc (.cells #[.int .i64 kd, .int .u64 (x : Int), .slice ba bn bc, .slice la ln lc, .int .i64 (bn : Int), .int .i64 (ln : Int)] 70)) := ((Below.refl _ wr).alloc (Nat.le_refl _) _).alloc (by simp) _
          have HSN : Hid (Sl ((wr.alloc (.cells #[.int .i64 kd, .int .u64 (x : Int), .slice ba bn bc, .slice la ln lc, .int .i64 (bn : Int), .int .i64 (ln : Int)] 70)).alloc (.cells #[.int .i64 kd, .int .u64 (x : Int), .slice ba bn bc, .slice la ln lc, .int .i64 (bn : Int), .int .i64 (ln : Int)] 70)) 6 (some ⟨wr.heap.size + 1, 0, none⟩) 1 1 [.int .i64 kd, .int .u64 (x : Int), .slice ba bn bc, .slice la ln lc, .int .i64 (bn : Int), .int .i64 (ln : Int)]) := Lib.hid (by have := Sl.fresh (wr.alloc (.cells #[.int .i64 kd, .int .u64 (x : Int), .slice ba bn bc, .slice la ln lc, .int .i64 (bn : Int), .int .i64 (ln : Int)] 70)) [.int .i64 kd, .int .u64 (x : Int), .slice ba bn bc, .slice la ln lc, .int .i64 (bn : Int), .int .i64 (ln : Int)] 70 1 6 rfl (by decide); rwa [World.size_alloc] at this)
          have HH := Lib.hid (And.intro (own_below HO.out.1 H2) (And.intro HO.out.2.1 (And.intro HO.out.2.2.1 (bthen HO.out.2.2.2 H2))))
          clear HO H2 HF
          go_wp2_with (first | (at_builtin; refine Stopped.out ?_) | (at_make; refine Stopped.out ?_))
          refine Stopped.mk (ap_own EStep rfl (.tmp 40) (.tmp 42) rfl rfl HH.out.1 rfl HSN.out (by simp [Value.oneCell']) (by simp only [maxLen]; omega) (by omega) HH.out.2.2.2.size ?_)
          intro v5 w5 o5 hg5 _
          have hb5 := HH.out.2.2.2.grown hg5 HH.out.2.2.2.size (fun j e => (HH.out.1.lt j e).1)
          have HN : Hid (StsO w w5 w.heap.size v5 (fitF (ss.take (k + 1))) ∧ Below w.heap.size w w5) := Lib.hid ⟨⟨_, by rw [HT.out, List.length_append, HLk.out]; exact o5, by rw [HT.out]; exact rows_snoc HH.out.2.1 (by rw [HH.out.2.2.1, HLk.out]) HR.out⟩, hb5⟩
          clear o5 hg5 hb5 HH
          go_wp2
          first | go_roundw | refine ⟨?rel, ?measure⟩
          case rel => exact ⟨k + 1, by omega, by go_num, HN.out⟩
          case measure => simp [intOf]; omega
        · have q3 : decide (mo < (bn : Int)) = false := decide_eq_false q1
          have q4 : decide (mo < (ln : Int)) = false := decide_eq_false q2
          obtain rfl : mf = mo := by rw [HF.out, if_neg q1, if_neg q2]
          have H2 : Below wr.heap.size wr ((wr.alloc (.cells #[.int .i64 kd, .int .u64 (x : Int), .slice ba bn bc, .slice la ln lc, .int .i64 (bn : Int), .int .i64 mf] 70)).alloc (.cells #[.int .i64 kd, .int .u64 (x : Int), .slice ba bn bc, .slice la ln lc, .int .i64 (bn : Int), .int .i64 mf] 70)) := ((Below.refl _ wr).alloc (Nat.le_refl _) _).alloc (by simp) _
          have HSN : Hid (Sl ((wr.alloc (.cells #[.int .i64 kd, .int .u64 (x : Int), .slice ba bn bc, .slice la ln lc, .int .i64 (bn : Int), .int .i64 mf] 70)).alloc (.cells #[.int .i64 kd, .int .u64 (x : Int), .slice ba bn bc, .slice la ln lc, .int .i64 (bn : Int), .int .i64 mf] 70)) 6 (some ⟨wr.heap.size + 1, 0, none⟩) 1 1 [.int .i64 kd, .int .u64 (x : Int), .slice ba bn bc, .slice la ln lc, .int .i64 (bn : Int), .int .i64 mf]) := Lib.hid (by have := Sl.fresh (wr.alloc (.cells #[.int .i64 kd, .int .u64 (x : Int), .slice ba bn bc, .slice la ln lc, .int .i64 (bn : Int), .int .i64 mf] 70)) [.int .i64 kd, .int .u64 (x : Int), .slice ba bn bc, .slice la ln lc, .int .i64 (bn : Int), .int .i64 mf] 70 1 6 rfl (by decide); rwa [World.size_alloc] at this)
          have HH := Lib.hid (And.intro (own_below HO.out.1 H2) (And.intro HO.out.2.1 (And.intro HO.out.2.2.1 (bthen HO.out.2.2.2 H2))))
          clear HO H2 HF
          go_wp2_with (first | (at_builtin; refine Stopped.out ?_) | (at_make; refine Stopped.out ?_))
          refine Stopped.mk (ap_own EStep rfl (.tmp 40) (.tmp 42) rfl rfl HH.out.1 rfl HSN.out (by simp [Value.oneCell']) (by simp only [maxLen]; omega) (by omega) HH.out.2.2.2.size ?_)
          intro v5 w5 o5 hg5 _
          have hb5 := HH.out.2.2.2.grown hg5 HH.out.2.2.2.size (fun j e => (HH.out.1.lt j e).1)
          have HN : Hid (StsO w w5 w.heap.size v5 (fitF (ss.take (k + 1))) ∧ Below w.heap.size w w5) := Lib.hid ⟨⟨_, by rw [HT.out, List.length_append, HLk.out]; exact o5, by rw [HT.out]; exact rows_snoc HH.out.2.1 (by rw [HH.out.2.2.1, HLk.out]) HR.out⟩, hb5⟩
          clear o5 hg5 hb5 HH
          go_wp2
          first | go_roundw | refine ⟨?rel, ?measure⟩
          case rel => exact ⟨k + 1, by omega, by go_num, HN.out⟩
          case measure => simp [intOf]; omega
    · have HN : Hid (StsO w wr w.heap.size u3 (fitF ss) ∧ Below w.heap.size w wr) := Lib.hid ⟨by rw [List.take_of_length_le (by rw [hl.out]; omega)] at ho; exact ho, hb⟩
      have k1 : decide ((k : Int) < (n : Int)) = false := decide_eq_false (by omega)
      clear ho hb
      go_wp2
      go_ret
      exact ⟨_, rfl, HN.out⟩
end Go.Proofs.Ytdooabbeolfgfaa
