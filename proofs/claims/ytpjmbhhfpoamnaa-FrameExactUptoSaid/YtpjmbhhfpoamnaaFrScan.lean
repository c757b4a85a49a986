import Derived.Test.YtpjmbhhfpoamnaaFrLaw
set_option linter.unusedVariables false
set_option linter.unusedSimpArgs false
namespace Go.Proofs.Ytpjmbhhfpoamnaa
/-! ### frames, scanned from the front -/
def scanK : Nat → List UInt8 → List (UInt8 × List UInt8) × Nat × Nat
  | 0, _ => ([], 0, 0)
  | n + 1, d => if d.length = 0 then ([], 0, 0) else if (wholeD d).2.2.2 ≠ 0 then ([], 0, (wholeD d).2.2.2) else
    (((wholeD d).1, (wholeD d).2.1) :: (scanK n (d.drop (wholeD d).2.2.1)).1, (wholeD d).2.2.1 + (scanK n (d.drop (wholeD d).2.2.1)).2.1, (scanK n (d.drop (wholeD d).2.2.1)).2.2)
def scanF (d : List UInt8) : List (UInt8 × List UInt8) × Nat × Nat := scanK d.length d
theorem scanK_more : ∀ (n : Nat) (d : List UInt8), d.length ≤ n → scanK n d = scanK d.length d
  | 0, d, h => by rw [show d.length = 0 by omega]
  | n + 1, d, h => by
    by_cases h0 : d.length = 0
    · rw [h0]; show scanK (n + 1) d = _; rw [scanK.eq_2, if_pos h0]; rfl
    · obtain ⟨m, hm⟩ : ∃ m, d.length = m + 1 := ⟨d.length - 1, by omega⟩
      rw [hm, scanK, scanK, if_neg h0, if_neg h0]
      by_cases ht : (wholeD d).2.2.2 = 0
      · have hb := wholeD_bound d ht (fun e => h0 (by rw [e]; rfl))
        have hl : (d.drop (wholeD d).2.2.1).length = d.length - (wholeD d).2.2.1 := by simp
        rw [if_neg (by omega), if_neg (by omega), scanK_more n (d.drop (wholeD d).2.2.1) (by omega), scanK_more m (d.drop (wholeD d).2.2.1) (by omega)]
      · rw [if_pos ht, if_pos ht]
theorem scanF_nil : scanF [] = ([], 0, 0) := rfl
theorem scanF_stop {d : List UInt8} (h : d ≠ []) (ht : (wholeD d).2.2.2 ≠ 0) : scanF d = ([], 0, (wholeD d).2.2.2) := by
  have h0 : d.length ≠ 0 := fun e => h (List.eq_nil_of_length_eq_zero e)
  obtain ⟨m, hm⟩ : ∃ m, d.length = m + 1 := ⟨d.length - 1, by omega⟩
  rw [scanF, hm, scanK, if_neg h0, if_pos ht]
theorem scanF_go {d : List UInt8} (h : d ≠ []) (ht : (wholeD d).2.2.2 = 0) : scanF d = (((wholeD d).1, (wholeD d).2.1) :: (scanF (d.drop (wholeD d).2.2.1)).1, (wholeD d).2.2.1 + (scanF (d.drop (wholeD d).2.2.1)).2.1, (scanF (d.drop (wholeD d).2.2.1)).2.2) := by
  have h0 : d.length ≠ 0 := fun e => h (List.eq_nil_of_length_eq_zero e)
  have hb := wholeD_bound d ht h
  obtain ⟨m, hm⟩ : ∃ m, d.length = m + 1 := ⟨d.length - 1, by omega⟩
  rw [scanF, hm, scanK, if_neg h0, if_neg (by omega), scanK_more m (d.drop (wholeD d).2.2.1) (by simp; omega)]
  rfl
/-- frames, one behind the other -/
def joinF (ps : List (UInt8 × List UInt8)) : List UInt8 := ps.flatMap fun x => frB x.1 x.2
theorem frB_ne (k : UInt8) (p r : List UInt8) : frB k p ++ r ≠ [] := by simp [frB]
theorem scanF_join : ∀ (ps : List (UInt8 × List UInt8)) (r : List UInt8), (∀ x ∈ ps, x.2.length ≤ 262144) → scanF (joinF ps ++ r) = (ps ++ (scanF r).1, (joinF ps).length + (scanF r).2.1, (scanF r).2.2)
  | [], r, _ => by simp [joinF]
  | x :: ps, r, h => by
    have e : joinF (x :: ps) ++ r = frB x.1 x.2 ++ (joinF ps ++ r) := by simp [joinF]
    have hw := wholeD_frame x.1 x.2 (joinF ps ++ r) (h x (by simp))
    have hd : (frB x.1 x.2 ++ (joinF ps ++ r)).drop (x.2.length + 10) = joinF ps ++ r := by
      rw [← frB_len x.1 x.2, List.drop_left]
    rw [e, scanF_go (frB_ne _ _ _) (by rw [hw]), hw]
    simp only [hd]
    rw [scanF_join ps r (fun y hy => h y (by simp [hy]))]
    have hl : (joinF (x :: ps)).length = x.2.length + 10 + (joinF ps).length := by simp [joinF, frB_len]
    rw [hl]
    simp [Nat.add_assoc]
theorem joinF_snoc (ps : List (UInt8 × List UInt8)) (k : Nat) (h : k < ps.length) : joinF (ps.take (k + 1)) = joinF (ps.take k) ++ frB ps[k].1 ps[k].2 := by
  rw [List.take_succ_eq_append_getElem h, joinF, List.flatMap_append]
  simp [joinF]
theorem joinF_split (ps : List (UInt8 × List UInt8)) (k : Nat) (h : k < ps.length) : joinF ps = joinF (ps.take k) ++ (frB ps[k].1 ps[k].2 ++ joinF (ps.drop (k + 1))) := by
  have e : ps = ps.take k ++ (ps[k] :: ps.drop (k + 1)) := by rw [List.getElem_cons_drop, List.take_append_drop]
  have e2 := congrArg joinF e
  rw [e2]
  unfold joinF
  rw [List.flatMap_append, List.flatMap_cons]
/-- where the k-th ends -/
def endF (ps : List (UInt8 × List UInt8)) (k : Nat) : Nat := (joinF (ps.take k)).length
theorem endF_succ (ps : List (UInt8 × List UInt8)) (k : Nat) (h : k < ps.length) : endF ps (k + 1) = endF ps k + (ps[k].2.length + 10) := by
  unfold endF
  rw [joinF_snoc ps k h, List.length_append, frB_len]
theorem endF_all (ps : List (UInt8 × List UInt8)) : endF ps ps.length = (joinF ps).length := by
  unfold endF
  rw [List.take_length]
/-- cut anywhere -/
theorem scanF_torn (ps : List (UInt8 × List UInt8)) (hps : ∀ x ∈ ps, x.2.length ≤ 262144) (n cut : Nat) (hn : n ≤ ps.length) (h1 : endF ps n ≤ cut) (h2 : n < ps.length → cut < endF ps (n + 1)) (h3 : cut ≤ (joinF ps).length) :
    scanF ((joinF ps).take cut) = (ps.take n, endF ps n, if endF ps n = cut then 0 else 1) := by
  have hps' : ∀ x ∈ ps.take n, x.2.length ≤ 262144 := fun x hx => hps x (List.mem_of_mem_take hx)
  by_cases hlt : n < ps.length
  · have hc := h2 hlt
    rw [endF_succ ps n hlt] at hc
    have e : (joinF ps).take cut = joinF (ps.take n) ++ (frB ps[n].1 ps[n].2).take (cut - endF ps n) := by
      rw [joinF_split ps n hlt, List.take_append, List.take_of_length_le (show (joinF (ps.take n)).length ≤ cut from h1), take_app _ _ _ (by rw [frB_len]; unfold endF at hc; omega)]
      rfl
    rw [e, scanF_join _ _ hps']
    by_cases h0 : endF ps n = cut
    · rw [if_pos h0, h0, Nat.sub_self, List.take_zero, scanF_nil]
      simp only [List.append_nil, Nat.add_zero]
      rw [show (joinF (ps.take n)).length = endF ps n from rfl, h0]
    · have hw := wholeD_cut ps[n].1 ps[n].2 (cut - endF ps n) (hps _ (List.getElem_mem hlt)) (by omega) (by omega)
      rw [if_neg h0, scanF_stop (by simp [frB]; omega) (by rw [hw]; simp), hw]
      simp [endF]
  · obtain rfl : n = ps.length := by omega
    rw [endF_all] at h1 ⊢
    rw [List.take_of_length_le (by omega), if_pos (by omega), List.take_length]
    have := scanF_join ps [] hps
    simpa [scanF_nil] using this
/-- other bytes behind the whole ones -/
theorem scanF_other (ps : List (UInt8 × List UInt8)) (hps : ∀ x ∈ ps, x.2.length ≤ 262144) (n : Nat) (hn : n ≤ ps.length) (c : UInt8) (hc : c ≠ 0xa5) :
    scanF ((joinF ps).take (endF ps n) ++ [c]) = (ps.take n, endF ps n, 4) := by
  have hps' : ∀ x ∈ ps.take n, x.2.length ≤ 262144 := fun x hx => hps x (List.mem_of_mem_take hx)
  have e : (joinF ps).take (endF ps n) = joinF (ps.take n) := by
    have : joinF ps = joinF (ps.take n) ++ joinF (ps.drop n) := by
      have e2 := congrArg joinF (List.take_append_drop n ps).symm
      rw [e2]
      unfold joinF
      rw [List.flatMap_append]
    rw [this, endF, List.take_left]
  have hw := wholeD_mark c [] hc
  rw [e, scanF_join _ _ hps', scanF_stop (by simp) (by rw [hw]; simp), hw]
  simp [endF]
/-- read where it stands -/
theorem whole_at (ps : List (UInt8 × List UInt8)) (hps : ∀ x ∈ ps, x.2.length ≤ 262144) (pre post : List UInt8) (k : Nat) (hk : k < ps.length) :
    wholeD ((pre ++ joinF ps ++ post).drop (pre.length + endF ps k)) = (ps[k].1, ps[k].2, ps[k].2.length + 10, 0) := by
  rw [joinF_split ps k hk, List.append_assoc, List.drop_append, List.drop_of_length_le (by omega), List.nil_append, show pre.length + endF ps k - pre.length = (joinF (ps.take k)).length by unfold endF; omega, List.append_assoc, List.drop_left, List.append_assoc]
  exact wholeD_frame _ _ _ (hps _ (List.getElem_mem hk))
end Go.Proofs.Ytpjmbhhfpoamnaa
