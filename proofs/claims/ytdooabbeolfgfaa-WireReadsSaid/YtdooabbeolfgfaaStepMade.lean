import Derived.Test.YtdooabbeolfgfaaStepFn3
set_option linter.unusedVariables false
set_option linter.unusedSimpArgs false
namespace Go.Proofs.Ytdooabbeolfgfaa
open Go.RowKit
/-! ### the steps that are written and read again -/
def catB (ss : List St9) : List UInt8 := (ss.map St9.bytes).flatten
theorem catB_take (ss : List St9) (k : Nat) (h : k < ss.length) : catB (ss.take (k + 1)) = catB (ss.take k) ++ ss[k].bytes := by
  unfold catB
  rw [List.take_succ_eq_append_getElem h, List.map_append, List.flatten_append]
  simp
theorem catB_split (ss : List St9) (k : Nat) (h : k < ss.length) : ∃ r, catB ss = catB (ss.take k) ++ (ss[k].bytes ++ r) := by
  refine ⟨catB (ss.drop (k + 1)), ?_⟩
  have e : ss = ss.take (k + 1) ++ ss.drop (k + 1) := (List.take_append_drop _ _).symm
  have e2 := congrArg catB e
  rw [e2]
  unfold catB
  rw [List.map_append, List.flatten_append, ← List.append_assoc]
  congr 1
  exact catB_take ss k h
theorem Fits.f {s : St9} (h : Fits s) (f : Nat) : stepF s.kd s.b s.ns s.most f = f := by
  unfold stepF
  split
  · rename_i h7; unfold cutF; rw [if_pos (h.b h7)]
  · split
    · rename_i h8; unfold cutF; rw [if_pos (h.l h8)]
    · rfl
theorem runW_fits {ss : List St9} (h : ∀ s ∈ ss, Fits s) : ∀ k, k ≤ ss.length → runW (ss.take k) = (catB (ss.take k), 0) := by
  intro k
  induction k with
  | zero => intro _; rfl
  | succ k ih =>
    intro hk
    have hkl : k < ss.length := by omega
    rw [runW_take ss k hkl, ih (by omega), catB_take ss k hkl]
    unfold wstep
    simp only
    rw [(h _ (List.getElem_mem hkl)).f]
    rfl
theorem fit1_fits {s : St9} (h : tellOK s = true) (hx : s.x < 18446744073709551616) (hb : s.b.length ≤ 100000) (hn : s.ns.length ≤ 100000) : Fits (fit1 s) := by
  unfold tellOK at h
  simp only [Bool.and_eq_true, Bool.or_eq_true, decide_eq_true_eq] at h
  obtain ⟨⟨h1, h2⟩, h3⟩ := h
  refine ⟨⟨h1, h2⟩, hx, fun h6 => ⟨rfl, ?_⟩, fun _ => ?_, by show s.b.length < _; omega, fun _ => ?_, by show s.ns.length < _; omega⟩
  · rcases h3 with h3 | h3
    · exact absurd h6 h3
    · exact h3
  · show (s.b.length : Int) ≤ if (if s.most < (s.b.length : Int) then (s.b.length : Int) else s.most) < (s.ns.length : Int) then (s.ns.length : Int) else (if s.most < (s.b.length : Int) then (s.b.length : Int) else s.most)
    split <;> split <;> omega
  · show (s.ns.length : Int) ≤ if (if s.most < (s.b.length : Int) then (s.b.length : Int) else s.most) < (s.ns.length : Int) then (s.ns.length : Int) else (if s.most < (s.b.length : Int) then (s.b.length : Int) else s.most)
    split <;> split <;> omega
def last9 : St9 := ⟨4, 300, [], [], 0, 0⟩
def madeF (ss : List St9) : List St9 := fitF (tellF ss) ++ [last9]
theorem size9_mem {ss : List St9} {s : St9} (h : s ∈ ss) : s.b.length + 10 * s.ns.length ≤ size9 ss := by
  unfold size9
  induction ss with
  | nil => simp at h
  | cons t ss ih =>
    simp only [List.map_cons, List.sum_cons]
    rcases List.mem_cons.1 h with h1 | h1
    · subst h1; omega
    · have := ih h1; omega
theorem size9_tell (ss : List St9) : size9 (tellF ss) ≤ size9 ss := by
  unfold size9 tellF
  induction ss with
  | nil => simp
  | cons s ss ih =>
    by_cases h : tellOK s = true
    · rw [List.filter_cons_of_pos h]; simp only [List.map_cons, List.sum_cons]; omega
    · rw [List.filter_cons_of_neg h]; simp only [List.map_cons, List.sum_cons]; omega
theorem size9_fit (ss : List St9) : size9 (fitF ss) = size9 ss := by
  unfold size9 fitF
  rw [List.map_map]
  rfl
theorem last9_fits : Fits last9 := ⟨(by decide), (by decide), (fun h => by cases h), (fun h => by cases h), (by decide), (fun h => by cases h), (by decide)⟩
theorem fits_made {ss : List St9} (hz : size9 ss ≤ 100000) (hx : ∀ s ∈ ss, s.x < 18446744073709551616) : ∀ s ∈ fitF (tellF ss), Fits s := by
  intro s hs
  unfold fitF at hs
  obtain ⟨t, ht, rfl⟩ := List.mem_map.1 hs
  obtain ⟨h1, h2⟩ := List.mem_filter.1 ht
  have := size9_mem h1
  exact fit1_fits h2 (hx t h1) (by omega) (by omega)
theorem made_fits {ss : List St9} (hz : size9 ss ≤ 100000) (hx : ∀ s ∈ ss, s.x < 18446744073709551616) : ∀ s ∈ madeF ss, Fits s := by
  intro s hs
  rcases List.mem_append.1 hs with h | h
  · exact fits_made hz hx s h
  · simp at h
    rw [h]; exact last9_fits
theorem made_small {ss : List St9} (hn : ss.length ≤ 300) (hz : size9 ss ≤ 100000) (hx : ∀ s ∈ ss, s.x < 18446744073709551616) : Smalls (madeF ss) := by
  have h1 : size9 (madeF ss) = size9 (tellF ss) := by
    unfold madeF
    have : ∀ a b : List St9, size9 (a ++ b) = size9 a + size9 b := fun a b => by simp [size9]
    rw [this, size9_fit]
    rfl
  have h2 := size9_tell ss
  refine ⟨fun s hs => ?_, by omega, ?_⟩
  · have := size9_mem hs
    exact ⟨by omega, by omega, (made_fits hz hx s hs).x⟩
  · have h3 : (tellF ss).length ≤ ss.length := List.length_filter_le _ _
    simp [madeF, fitF]; omega
theorem made_end (ss : List St9) : ∃ r, catB (madeF ss) = r ++ [0xac, 2] := by
  refine ⟨catB (fitF (tellF ss)), ?_⟩
  unfold madeF catB
  rw [List.map_append, List.flatten_append]
  have : last9.bytes = [0xac, 2] := by
    unfold St9.bytes last9 stepB
    rw [if_neg (by decide), if_neg (by decide), if_neg (by decide), if_pos rfl, shortL_more (by decide), shortL_one (by decide)]
    rfl
  simp [this]
theorem Fits.pos {s : St9} (h : Fits s) : 0 < s.bytes.length := by
  obtain ⟨kd, x, b, ns, n, most⟩ := s
  unfold St9.bytes stepB
  rcases h.cases with rfl | rfl | rfl | rfl | rfl | rfl | rfl | rfl
  · simp
  · simp [stBE32_len]
  · simp [stBE64_len]
  · simpa using shortL_pos x
  · simp
  · have := (h.n rfl).2; simpa using this
  · have := shortL_pos b.length; simp; omega
  · have := shortL_pos ns.length; simp; omega
theorem catB_mono {ss : List St9} (h : ∀ s ∈ ss, Fits s) (k : Nat) (hk : k < ss.length) : (catB (ss.take k)).length < (catB ss).length := by
  obtain ⟨r, hr⟩ := catB_split ss k hk
  rw [hr]
  have := (h _ (List.getElem_mem hk)).pos
  simp; omega
theorem catB_take_le (ss : List St9) (k : Nat) (hk : k ≤ ss.length) : (catB (ss.take k)).length ≤ (catB ss).length := by
  have e : ss = ss.take k ++ ss.drop k := (List.take_append_drop _ _).symm
  have e2 := congrArg catB e
  rw [e2]
  unfold catB
  rw [List.map_append, List.flatten_append, List.length_append]
  omega
/-- step by step, over a beginning of the bytes -/
def cutAt (ss : List St9) (cut k a f : Nat) : Prop := (((catB (ss.take k)).length ≤ cut → a = (catB (ss.take k)).length ∧ f = 0) ∧ (cut < (catB (ss.take k)).length → f = 90))
theorem cutAt_start (ss : List St9) (cut : Nat) : cutAt ss cut 0 0 0 := ⟨fun _ => ⟨rfl, rfl⟩, fun h => by simp [catB] at h⟩
theorem cutAt_step {ss : List St9} (h : ∀ s ∈ ss, Fits s) {cut k a f : Nat} (hk : k < ss.length) (hc : cut ≤ (catB ss).length) (hi : cutAt ss cut k a f) :
    cutAt ss cut (k + 1) (ss[k].rd ((catB ss).take cut) a f).2.1 (ss[k].rd ((catB ss).take cut) a f).2.2 := by
  have hf := h _ (List.getElem_mem hk)
  obtain ⟨r, hr⟩ := catB_split ss k hk
  have ht := catB_take ss k hk
  have htl : (catB (ss.take (k + 1))).length = (catB (ss.take k)).length + ss[k].bytes.length := by rw [ht]; simp
  by_cases h1 : (catB (ss.take k)).length ≤ cut
  · obtain ⟨ha, hf0⟩ := hi.1 h1
    subst ha; subst hf0
    by_cases h2 : (catB (ss.take (k + 1))).length ≤ cut
    · have e : (catB ss).take cut = catB (ss.take k) ++ (ss[k].bytes ++ r.take (cut - (catB (ss.take (k + 1))).length)) := by
        have h5 : ss[k].bytes.take (cut - (catB (ss.take k)).length) = ss[k].bytes := List.take_of_length_le (by omega)
        rw [hr, List.take_append, List.take_of_length_le h1, List.take_append, h5, htl, Nat.sub_sub]
      rw [e, hf.back]
      exact ⟨fun _ => ⟨by simp only; omega, rfl⟩, fun h3 => by omega⟩
    · have e : (catB ss).take cut = catB (ss.take k) ++ ss[k].bytes.take (cut - (catB (ss.take k)).length) := by
        rw [hr, List.take_append, List.take_of_length_le h1, List.take_append_of_le_length (by omega)]
      rw [e]
      have := hf.cut (catB (ss.take k)) (cut - (catB (ss.take k)).length) (by omega)
      exact ⟨fun h3 => absurd h3 h2, fun _ => this⟩
  · have h2 := hi.2 (by omega)
    subst h2
    rw [St9.stuck _ _ _ (by decide) (by have := hf.kd; omega)]
    exact ⟨fun h3 => by omega, fun _ => rfl⟩
end Go.Proofs.Ytdooabbeolfgfaa
