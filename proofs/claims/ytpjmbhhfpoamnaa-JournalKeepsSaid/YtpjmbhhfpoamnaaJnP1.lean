import Derived.Test.YtpjmbhhfpoamnaaJn16
set_option linter.unusedVariables false
set_option linter.unusedSimpArgs false
namespace Go.Proofs.Ytpjmbhhfpoamnaa
open Go.RowKit
theorem be_be8 (x : Nat) (hx : x < 18446744073709551616) : be (be8 x) = x := by
  unfold be8 stBE64
  simp [List.range_succ, be]
  omega
/-- records' frames -/
def flB (rs : List (List UInt8)) : List UInt8 := (rs.map (frB 82)).flatten
theorem flB_nil : flB [] = [] := rfl
theorem flB_cons (r : List UInt8) (rs : List (List UInt8)) : flB (r :: rs) = frB 82 r ++ flB rs := by simp [flB]
theorem recsB_made : ∀ (rs : List (List UInt8)) (t : List UInt8), (∀ r ∈ rs, r.length ≤ 262144) → (wholeD t).2.2.1 = 0 → recsB ((flB rs ++ t).length + 1) (flB rs ++ t) = (rs, (flB rs).length)
  | [], t, _, ht => by
    rw [flB_nil, List.nil_append, recsB_step, if_pos (.inl ht)]; rfl
  | r :: rs, t, hrs, ht => by
    have hr := hrs r (by simp)
    have e : flB (r :: rs) ++ t = frB 82 r ++ (flB rs ++ t) := by rw [flB_cons, List.append_assoc]
    have hw := wholeD_frame 82 r (flB rs ++ t) hr
    have hd : (frB 82 r ++ (flB rs ++ t)).drop (r.length + 10) = flB rs ++ t := List.drop_left' (frB_len 82 r)
    rw [e, recsB_step, hw, if_neg (by simp)]
    simp only [hd]
    rw [recsB_made rs t (fun x hx => hrs x (List.mem_cons_of_mem _ hx)) ht, flB_cons, List.length_append, frB_len]
theorem hdrP_take8 (e n : Nat) (sn : List UInt8) : (hdrP e n sn).take 8 = be8 e := by
  unfold hdrP; exact List.take_left' (be8_len e)
theorem hdrP_drop12 (e n : Nat) (sn : List UInt8) : (hdrP e n sn).drop 12 = sn := by
  unfold hdrP; rw [← List.append_assoc]; exact List.drop_left' (by rw [List.length_append, be8_len, be4_len])
theorem hdrP_num (e n : Nat) (sn : List UInt8) : ((hdrP e n sn).drop 8).take 4 = be4 n := by
  unfold hdrP; rw [List.drop_left' (be8_len e)]; exact List.take_left' (be4_len n)
/-- a bank's bytes, read back -/
theorem readB_gen (e num : Nat) (sn : List UInt8) (rs : List (List UInt8)) (t : List UInt8) (he1 : 1 ≤ e) (he2 : e ≤ 9223372036854775807) (hnum : num < 4294967296) (hs : sn.length ≤ 262132) (hrs : ∀ r ∈ rs, r.length ≤ 262144) (ht : (wholeD t).2.2.1 = 0) :
    readB (frB 72 (hdrP e num sn) ++ (flB rs ++ t)) = if num ≤ rs.length then some ⟨e, sn, rs, sn.length + 22 + (flB rs).length⟩ else none := by
  obtain ⟨b, hb⟩ : ∃ b, b = frB 72 (hdrP e num sn) ++ (flB rs ++ t) := ⟨_, rfl⟩
  rw [← hb]
  have hw : wholeD b = (72, hdrP e num sn, sn.length + 22, 0) := by
    rw [hb, wholeD_frame 72 _ _ (by rw [hdrP_len]; omega), hdrP_len]
  have ho : hdrOk b := by
    unfold hdrOk; rw [hw]
    refine ⟨by simp, rfl, rfl, by simp only; rw [hdrP_len]; omega, ?_, ?_⟩
    · simp only; rw [hdrP_take8, be_be8 e (by omega)]; exact he1
    · simp only; rw [hdrP_take8, be_be8 e (by omega)]; exact he2
  have hc : hdrCt b = ⟨e, sn, rs, sn.length + 22 + (flB rs).length⟩ := by
    have hd : b.drop (sn.length + 22) = flB rs ++ t := by rw [hb]; exact List.drop_left' (by rw [frB_len, hdrP_len])
    unfold hdrCt
    rw [hw]
    simp only
    rw [hd, recsB_more _ _ (by rw [hb]; simp), recsB_made rs t hrs ht, hdrP_take8, be_be8 e (by omega), hdrP_drop12]
  unfold readB
  rw [hc, hw]
  simp only [ho, true_and]
  rw [hdrP_num, be_be4 _ hnum]
theorem wholeD_cut0 (k : UInt8) (p : List UInt8) (m : Nat) (hp : p.length ≤ 262144) (hm : m < p.length + 10) : (wholeD ((frB k p).take m)).2.2.1 = 0 := by
  rcases Nat.eq_zero_or_pos m with rfl | h0
  · rfl
  · rw [wholeD_cut k p m hp h0 hm]
theorem readB_none_of {b : List UInt8} (h : (wholeD b).2.2.1 = 0) : readB b = none := by
  unfold readB
  rw [if_neg (fun hh => hh.1.1 h)]
theorem readB_nil : readB [] = none := readB_none_of rfl
theorem readB_erased (k : Nat) (x : List UInt8) : readB (List.replicate (k + 1) 255 ++ x) = none := by
  refine readB_none_of ?_
  rw [List.replicate_succ, List.cons_append, wholeD_mark _ _ (by decide)]
theorem flB_cut : ∀ (rs : List (List UInt8)) (m : Nat), (∀ r ∈ rs, r.length ≤ 262144) → m < (flB rs).length → ∃ k t, k < rs.length ∧ (flB rs).take m = flB (rs.take k) ++ t ∧ (wholeD t).2.2.1 = 0
  | [], m, _, hm => by simp [flB_nil] at hm
  | r :: rs, m, hrs, hm => by
    have hr := hrs r (by simp)
    rw [flB_cons, List.length_append, frB_len] at hm
    by_cases h1 : m < r.length + 10
    · refine ⟨0, (frB 82 r).take m, by simp, ?_, wholeD_cut0 82 r m hr h1⟩
      rw [flB_cons, take_app _ _ _ (by rw [frB_len]; omega)]
      simp [flB_nil]
    · obtain ⟨k, t, h2, h3, h4⟩ := flB_cut rs (m - (r.length + 10)) (fun x hx => hrs x (List.mem_cons_of_mem _ hx)) (by omega)
      refine ⟨k + 1, t, by simpa using h2, ?_, h4⟩
      rw [flB_cons, List.take_append, frB_len, h3, List.take_of_length_le (by rw [frB_len]; omega), List.take_succ_cons, flB_cons, List.append_assoc]
theorem mvB_eq (c : Ct) : mvB c = frB 72 (hdrP (c.epoch + 1) c.recs.length c.snap) ++ flB c.recs := by
  unfold mvB mvK
  rw [List.take_length]; rfl
theorem readB_mv (c : Ct) (he : c.epoch + 1 ≤ 9223372036854775807) (hf : c.recs.length < 4294967296) (hs : c.snap.length ≤ 262132) (hrs : ∀ r ∈ c.recs, r.length ≤ 262144) :
    readB (mvB c) = some ⟨c.epoch + 1, c.snap, c.recs, (mvB c).length⟩ := by
  have h := readB_gen (c.epoch + 1) c.recs.length c.snap c.recs [] (by omega) he hf hs hrs rfl
  rw [List.append_nil, if_pos (Nat.le_refl _)] at h
  rw [mvB_eq, h]
  congr 2
  rw [List.length_append, frB_len, hdrP_len]
theorem readB_mv_cut (c : Ct) (he : c.epoch + 1 ≤ 9223372036854775807) (hf : c.recs.length < 4294967296) (hs : c.snap.length ≤ 262132) (hrs : ∀ r ∈ c.recs, r.length ≤ 262144) (m : Nat) (hm : m < (mvB c).length) :
    readB ((mvB c).take m) = none := by
  rw [mvB_eq] at hm ⊢
  rw [List.length_append, frB_len, hdrP_len] at hm
  by_cases h1 : m < c.snap.length + 22
  · rw [take_app _ _ _ (by rw [frB_len, hdrP_len]; omega)]
    exact readB_none_of (wholeD_cut0 72 _ m (by rw [hdrP_len]; omega) (by rw [hdrP_len]; omega))
  · obtain ⟨k, t, h2, h3, h4⟩ := flB_cut c.recs (m - (c.snap.length + 22)) hrs (by omega)
    rw [List.take_append, List.take_of_length_le (by rw [frB_len, hdrP_len]; omega), frB_len, hdrP_len, show m - (c.snap.length + 12 + 10) = m - (c.snap.length + 22) by omega, h3]
    rw [readB_gen (c.epoch + 1) c.recs.length c.snap (c.recs.take k) t (by omega) he hf hs (fun r hr => hrs r (List.mem_of_mem_take hr)) h4, if_neg (by rw [List.length_take]; omega)]
/-- a whole frame stays with more behind it -/
theorem wholeD_more (d t : List UInt8) (h : (wholeD d).2.2.1 ≠ 0) : wholeD (d ++ t) = wholeD d := by
  have hg : ∀ i, i < d.length → (d ++ t).getD i 0 = d.getD i 0 := fun i hi => by
    rw [List.getD_eq_getElem?_getD, List.getD_eq_getElem?_getD, List.getElem?_append_left hi]
  have ht : ∀ a b, a + b ≤ d.length → ((d ++ t).drop a).take b = (d.drop a).take b := fun a b hab => by
    rw [List.drop_append, take_app _ _ _ (by rw [List.length_drop]; omega)]
  unfold wholeD at h ⊢
  by_cases h0 : d.length = 0
  · rw [if_pos h0] at h; simp at h
  rw [if_neg h0] at h ⊢
  by_cases h1 : d.getD 0 0 ≠ 0xa5
  · rw [if_pos h1] at h; simp at h
  rw [if_neg h1] at h ⊢
  by_cases h2 : d.length < 6
  · rw [if_pos h2] at h; simp at h
  rw [if_neg h2] at h ⊢
  by_cases h3 : 262144 < be ((d.drop 2).take 4)
  · rw [if_pos h3] at h; simp at h
  rw [if_neg h3] at h ⊢
  by_cases h4 : d.length < 10 + be ((d.drop 2).take 4)
  · rw [if_pos h4] at h; simp at h
  rw [if_neg h4] at h ⊢
  have hl : (d ++ t).length = d.length + t.length := List.length_append
  rw [ht 2 4 (by omega), hg 0 (by omega), hg 1 (by omega), hl, ht 1 _ (by omega), ht 6 _ (by omega), ht (6 + be ((d.drop 2).take 4)) 4 (by omega), if_neg (by omega), if_neg h1, if_neg (by omega), if_neg h3, if_neg (by omega)]
theorem recsB_app : ∀ (n : Nat) (d x : List UInt8), d.length ≤ n → (recsB (d.length + 1) d).2 = d.length → recsB ((d ++ x).length + 1) (d ++ x) = ((recsB (d.length + 1) d).1 ++ (recsB (x.length + 1) x).1, d.length + (recsB (x.length + 1) x).2) := by
  intro n
  induction n with
  | zero =>
    intro d x hn _
    obtain rfl : d = [] := List.eq_nil_of_length_eq_zero (by omega)
    rw [recsB_step []]
    simp [show (wholeD []).2.2.1 = 0 from rfl]
  | succ n ih =>
    intro d x hn h
    rw [recsB_step d] at h ⊢
    by_cases hc : (wholeD d).2.2.1 = 0 ∨ (wholeD d).2.2.2 ≠ 0 ∨ (wholeD d).1 ≠ 82
    · rw [if_pos hc] at h
      obtain rfl : d = [] := List.eq_nil_of_length_eq_zero h.symm
      rw [if_pos hc]; simp
    · rw [if_neg hc] at h ⊢
      have hc1 : (wholeD d).2.2.1 ≠ 0 := fun h => hc (.inl h)
      have hc2 : (wholeD d).2.2.2 = 0 := Classical.byContradiction fun h => hc (.inr (.inl h))
      have hd0 : d ≠ [] := fun e => hc1 (by rw [e]; rfl)
      obtain ⟨b1, b2, b3⟩ := wholeD_bound d hc2 hd0
      have hw := wholeD_more d x hc1
      rw [recsB_step (d ++ x), hw, if_neg hc]
      have hdr : (d ++ x).drop (wholeD d).2.2.1 = d.drop (wholeD d).2.2.1 ++ x := List.drop_append_of_le_length b2
      simp only at h
      have hl : (d.drop (wholeD d).2.2.1).length = d.length - (wholeD d).2.2.1 := List.length_drop
      rw [hdr, ih (d.drop (wholeD d).2.2.1) x (by omega) (by omega)]
      simp only [List.cons_append, Prod.mk.injEq, true_and]
      omega
/-- a bank that is good to its end, with more behind it -/
theorem readB_app {d : List UInt8} {c : Ct} (h : readB d = some c) (hg : c.good = d.length) (x : List UInt8) :
    readB (d ++ x) = some ⟨c.epoch, c.snap, c.recs ++ (recsB (x.length + 1) x).1, d.length + (recsB (x.length + 1) x).2⟩ := by
  unfold readB at h
  by_cases hc : hdrOk d ∧ be (((wholeD d).2.1.drop 8).take 4) ≤ (hdrCt d).recs.length
  rotate_left
  · rw [if_neg hc] at h; cases h
  rw [if_pos hc] at h
  have hc' := Option.some.inj h
  obtain ⟨ho, hn⟩ := hc
  have hw := wholeD_more d x ho.1
  have h0 : d ≠ [] := fun e => ho.1 (by rw [e]; rfl)
  obtain ⟨b1, b2, b3⟩ := wholeD_bound d ho.2.1 h0
  have hdr : (d ++ x).drop (wholeD d).2.2.1 = d.drop (wholeD d).2.2.1 ++ x := List.drop_append_of_le_length b2
  have hl : (d.drop (wholeD d).2.2.1).length = d.length - (wholeD d).2.2.1 := List.length_drop
  have hct : hdrCt d = ⟨be ((wholeD d).2.1.take 8), (wholeD d).2.1.drop 12, (recsB ((d.drop (wholeD d).2.2.1).length + 1) (d.drop (wholeD d).2.2.1)).1, (wholeD d).2.2.1 + (recsB ((d.drop (wholeD d).2.2.1).length + 1) (d.drop (wholeD d).2.2.1)).2⟩ := by
    unfold hdrCt; rw [recsB_more (d.length + 1) _ (by omega)]
  have hgd : (wholeD d).2.2.1 + (recsB ((d.drop (wholeD d).2.2.1).length + 1) (d.drop (wholeD d).2.2.1)).2 = d.length := by
    rw [← hg, ← hc', hct]
  have ha := recsB_app _ (d.drop (wholeD d).2.2.1) x (Nat.le_refl _) (by omega)
  have hcx : hdrCt (d ++ x) = ⟨c.epoch, c.snap, c.recs ++ (recsB (x.length + 1) x).1, d.length + (recsB (x.length + 1) x).2⟩ := by
    unfold hdrCt
    rw [hw, hdr, recsB_more _ (d.drop (wholeD d).2.2.1 ++ x) (by rw [List.length_append, List.length_append]; omega), ha, ← hc', hct]
    simp only [Ct.mk.injEq, true_and]
    try omega
  unfold readB
  have hox : hdrOk (d ++ x) := by unfold hdrOk; rw [hw]; exact ho
  have hle : be (((wholeD (d ++ x)).2.1.drop 8).take 4) ≤ (hdrCt (d ++ x)).recs.length := by
    rw [hw, hcx]
    rw [hc'] at hn
    simp only [List.length_append]
    omega
  rw [if_pos ⟨hox, hle⟩, hcx]
theorem recsB_one (r : List UInt8) (hr : r.length ≤ 262144) : recsB ((frB 82 r).length + 1) (frB 82 r) = ([r], r.length + 10) := by
  have h := recsB_made [r] [] (by simpa using hr) rfl
  rw [List.append_nil, show flB [r] = frB 82 r by simp [flB]] at h
  rw [h, frB_len]
theorem recsB_cut (r : List UInt8) (hr : r.length ≤ 262144) (m : Nat) (hm : m < r.length + 10) : recsB (((frB 82 r).take m).length + 1) ((frB 82 r).take m) = ([], 0) := by
  rw [recsB_step, if_pos (.inl (wholeD_cut0 82 r m hr hm))]
end Go.Proofs.Ytpjmbhhfpoamnaa
