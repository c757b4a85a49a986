import Derived.Test.YtpjmbhhfpoamnaaJnP3
import Derived.Test.YtpjmbhhfpoamnaaJn17
set_option linter.unusedVariables false
set_option linter.unusedSimpArgs false
namespace Go.Proofs.Ytpjmbhhfpoamnaa
open Go.RowKit
set_option maxHeartbeats 1600000 in
/-- Open behind the choice -/
theorem openC_cases {K N : Nat} {s : FSt} {n : Nat} {c : Ct} (hd : s.down = false) (hok : FOkN N s) (hch : chosenF (readB s.b0) (readB s.b1) = some (n, c)) (hep : c.epoch ≤ s.writes + K) (hfit : c.epoch = 9223372036854775807 → c.good = (bankF s n).length) :
    (∃ j s', openC s n c = (j, s', 0) ∧ Calm s s' 0 ∧ JI K j s' ⟨c.snap, c.recs⟩ ∧ bankF s' (1 - j.bank) = []) ∨ (∃ j s', openC s n c = (j, s', 121) ∧ Crsh s s' 121 ∧ SI K s' ⟨c.snap, c.recs⟩) := by
  have hn := chosen_le hch
  have hn1 : 1 - n ≤ 1 := by omega
  have h11 : 1 - (1 - n) = n := by omega
  have hr := chosen_read hch
  have co := readB_ok hr
  have hbl := bankF_le hok n
  have hsz := hok.size
  have hgl := co.good
  have hfew := co.few
  unfold openC
  obtain ⟨c1, c2⟩ := clrF_cases (n := 1 - n) hn1 hd
  rw [h11] at c1
  obtain ⟨s1, hs1⟩ : ∃ s1, s1 = (clrF s (1 - n)).1 := ⟨_, rfl⟩
  obtain ⟨e1, he1⟩ : ∃ e1, e1 = (clrF s (1 - n)).2 := ⟨_, rfl⟩
  rw [← hs1] at c1 c2
  rw [← he1] at c2
  have hcl : clrF s (1 - n) = (s1, e1) := by rw [hs1, he1]
  by_cases ht : c.good < (bankF s n).length
  rotate_left
  · have hg : c.good = (bankF s n).length := by omega
    rw [if_neg ht, hcl]
    rcases c2 with ⟨q1, q2⟩ | ⟨q1, q2⟩
    · refine .inl ⟨jOf n c, s1, by rw [q1.e], q1.e ▸ q1, ⟨q1.down, rfl, hn, ?_, ?_, rfl, ?_, ?_⟩, q2⟩
      · show readB (bankF s1 n) = some ⟨c.epoch, c.snap, c.recs, (bankF s1 n).length⟩
        rw [c1, ← hg]; exact hr
      · intro c' hc'
        have hc' : readB (bankF s1 (1 - n)) = some c' := hc'
        rw [q2, readB_nil] at hc'
        cases hc'
      · show c.good = (bankF s1 n).length
        rw [c1, hg]
      · show c.epoch ≤ s1.writes + K
        have := q1.writes; omega
    · refine .inr ⟨jOf n c, s1, by rw [q1.e], q1.e ▸ q1, ?_⟩
      exact SI.keep hch c1 q2 rfl rfl hep hfit q1.writes
  have hne : c.epoch ≠ 9223372036854775807 := fun e => by have := hfit e; omega
  have hep2 := co.ep2
  have hmv : mvF (jOf n c) s c = if e1 ≠ 0 then (jOf n c, s1, e1) else if (appF s1 ((1 - n : Nat) : Int) (mvB c)).2 ≠ 0 then (jOf n c, (appF s1 ((1 - n : Nat) : Int) (mvB c)).1, (appF s1 ((1 - n : Nat) : Int) (mvB c)).2) else ({ jOf n c with bank := 1 - n, epoch := c.epoch + 1, used := (mvB c).length }, (appF s1 ((1 - n : Nat) : Int) (mvB c)).1, 0) := by
    unfold mvF
    rw [if_neg (show (jOf n c).epoch ≠ _ from hne), show (jOf n c).bank = n from rfl, hcl]
    rfl
  have hmb := readB_mv c (by omega) (by omega) co.snap co.recs
  have htot := co.tot
  rw [if_pos ht]
  rcases c2 with ⟨q1, q2⟩ | ⟨q1, q2⟩
  rotate_left
  · rw [if_pos (by rw [q1.e]; decide)] at hmv
    rw [hmv, if_pos (by simp [q1.e])]
    exact .inr ⟨jOf n c, s1, by rw [q1.e], q1.e ▸ q1, SI.keep hch c1 q2 rfl rfl hep hfit q1.writes⟩
  rw [if_neg (by rw [q1.e]; decide)] at hmv
  obtain ⟨a1, a2, a3⟩ := appF_cases (s := s1) (l := mvB c) hn1 q1.down (by rw [q2, q1.size]; simp; omega)
  rw [h11, c1] at a1
  obtain ⟨s2, hs2⟩ : ∃ s2, s2 = (appF s1 ((1 - n : Nat) : Int) (mvB c)).1 := ⟨_, rfl⟩
  obtain ⟨e2, he2⟩ : ∃ e2, e2 = (appF s1 ((1 - n : Nat) : Int) (mvB c)).2 := ⟨_, rfl⟩
  rw [← hs2, ← he2] at hmv
  rw [← hs2] at a1 a2 a3
  rw [← he2, q2, List.nil_append] at a3
  have hw1 := q1.writes
  have hoth : ∀ c', readB (bankF s2 n) = some c' → c'.epoch < c.epoch + 1 := fun c' hc' => by
    rw [a1, hr] at hc'
    have := Option.some.inj hc'; subst this
    omega
  rcases a3 with ⟨k1, k2⟩ | ⟨k1, m, k2⟩
  rotate_left
  · rw [if_pos (by rw [k1.e]; decide)] at hmv
    rw [hmv, if_pos (by simp [k1.e])]
    refine .inr ⟨jOf n c, s2, by rw [k1.e], (by have := q1.crash k1; exact k1.e ▸ this), ?_⟩
    by_cases hm : m < (mvB c).length
    · refine SI.keep hch a1 (.inr ?_) rfl rfl hep hfit (by omega)
      rw [k2]
      exact readB_mv_cut c (by omega) (by omega) co.snap co.recs m hm
    · rw [List.take_of_length_le (by omega)] at k2
      refine ⟨1 - n, ⟨c.epoch + 1, c.snap, c.recs, (mvB c).length⟩, chosen_of hn1 (by rw [k2]; exact hmb) (fun c' hc' => ?_), rfl, rfl, ?_, fun _ => ?_⟩
      · rw [h11] at hc'; exact hoth c' hc'
      · show c.epoch + 1 ≤ _; omega
      · rw [k2]; rfl
  rw [if_neg (by rw [k1.e]; decide)] at hmv
  rw [hmv]
  simp only [ne_eq, not_true_eq_false, if_false]
  rw [h11]
  obtain ⟨d1, d2⟩ := clrF_cases (s := s2) hn k1.down
  obtain ⟨s3, hs3⟩ : ∃ s3, s3 = (clrF s2 n).1 := ⟨_, rfl⟩
  obtain ⟨e3, he3⟩ : ∃ e3, e3 = (clrF s2 n).2 := ⟨_, rfl⟩
  have hcl3 : clrF s2 n = (s3, e3) := by rw [hs3, he3]
  rw [← hs3] at d1 d2
  rw [← he3] at d2
  rw [hcl3]
  rw [k2] at d1
  have hw2 := k1.writes
  rcases d2 with ⟨p1, p2⟩ | ⟨p1, p2⟩
  · have hw3 := p1.writes
    refine .inl ⟨{ jOf n c with bank := 1 - n, epoch := c.epoch + 1, used := (mvB c).length }, s3, by rw [p1.e], (by have := (q1.then_ k1).then_ p1; exact p1.e ▸ this), ⟨p1.down, rfl, hn1, ?_, ?_, rfl, ?_, ?_⟩, ?_⟩
    · show readB (bankF s3 (1 - n)) = _
      rw [d1, hmb]
    · intro c' hc'
      have hc' : readB (bankF s3 (1 - (1 - n))) = some c' := hc'
      rw [h11, p2, readB_nil] at hc'
      cases hc'
    · show (mvB c).length = (bankF s3 (1 - n)).length
      rw [d1]
    · show c.epoch + 1 ≤ s3.writes + K; omega
    · show bankF s3 (1 - (1 - n)) = []
      rw [h11]; exact p2
  · have hw3 := p1.writes
    refine .inr ⟨_, s3, by rw [p1.e], (by have := (q1.then_ k1).crash p1; exact p1.e ▸ this), ?_⟩
    refine ⟨1 - n, ⟨c.epoch + 1, c.snap, c.recs, (mvB c).length⟩, chosen_of hn1 (by rw [d1]; exact hmb) (fun c' hc' => ?_), rfl, rfl, ?_, fun _ => ?_⟩
    · rw [h11] at hc'
      rcases p2 with p2 | p2
      · rw [p2] at hc'; exact hoth c' hc'
      · rw [p2] at hc'; cases hc'
    · show c.epoch + 1 ≤ _; omega
    · rw [d1]
theorem openF_law {K N : Nat} {s : FSt} {h : Hd} (hd : s.down = false) (hok : FOkN N s) (S : SI K s h) :
    (∃ j c cut s', openF s = (some (j, c, cut), s', 0) ∧ c.snap = h.snap ∧ c.recs = h.recs ∧ Calm s s' 0 ∧ JI K j s' h ∧ bankF s' (1 - j.bank) = []) ∨ (∃ s', openF s = (none, s', 121) ∧ Crsh s s' 121 ∧ SI K s' h) := by
  obtain ⟨n, c, hch, h1, h2, h3, h4⟩ := S.out
  obtain ⟨hs, hr⟩ := h
  simp only at h1 h2
  subst h1; subst h2
  unfold openF
  rw [if_neg (by rw [hd]; decide), hch]
  simp only
  rcases openC_cases hd hok hch h3 h4 with ⟨j, s', e, q1, q2, q3⟩ | ⟨j, s', e, q1, q2⟩
  · rw [e]
    exact .inl ⟨j, c, _, s', rfl, rfl, rfl, q1, q2, q3⟩
  · rw [e]
    exact .inr ⟨s', rfl, q1, q2⟩
/-- a flash that is down is not opened -/
theorem openF_down {s : FSt} (hd : s.down = true) : openF s = (none, s, 121) := by
  unfold openF; rw [if_pos hd]
/-- what Open finds on any flash -/
theorem openF_total {s : FSt} (hd : s.down = false) : (∃ h, SI 9223372036854775807 s h) ∨ ∃ E, E ≠ 0 ∧ E ≠ 121 ∧ openF s = (none, s, E) := by
  cases hch : chosenF (readB s.b0) (readB s.b1) with
  | none => exact .inr ⟨140, by decide, by decide, by unfold openF; rw [if_neg (by rw [hd]; decide), hch]⟩
  | some x =>
    obtain ⟨n, c⟩ := x
    have hr := chosen_read hch
    have co := readB_ok hr
    by_cases hx : c.epoch = 9223372036854775807 ∧ c.good < (bankF s n).length
    · refine .inr ⟨3, by decide, by decide, ?_⟩
      have hc : openC s n c = (jOf n c, s, 3) := by
        unfold openC
        rw [if_pos hx.2]
        unfold mvF
        rw [if_pos (show (jOf n c).epoch = _ from hx.1)]
        rfl
      unfold openF
      rw [if_neg (by rw [hd]; decide), hch]
      simp only
      rw [hc]
      rfl
    · refine .inl ⟨⟨c.snap, c.recs⟩, n, c, hch, rfl, rfl, by have := co.ep2; omega, fun e => ?_⟩
      have := co.good
      omega
theorem JI.is {K : Nat} {j : JSt} {s : FSt} {h : Hd} (H : JI K j s h) : jOf j.bank ⟨j.epoch, h.snap, h.recs, (bankF s j.bank).length⟩ = j := by
  obtain ⟨b, e, c, u, d⟩ := j
  have h1 := H.dead; have h2 := H.count; have h3 := H.used
  simp only at h1 h2 h3
  unfold jOf
  simp only
  rw [h1, ← h2, ← h3]
/-- an opened journal, opened again: nothing is written -/
theorem openF_again {K : Nat} {j : JSt} {s : FSt} {h : Hd} (H : JI K j s h) (ho : bankF s (1 - j.bank) = []) :
    openF s = (some (j, ⟨j.epoch, h.snap, h.recs, (bankF s j.bank).length⟩, 0), s, 0) := by
  have hch := chosen_of H.bank H.read H.other
  have hc : openC s j.bank ⟨j.epoch, h.snap, h.recs, (bankF s j.bank).length⟩ = (j, s, 0) := by
    unfold openC
    rw [if_neg (Nat.lt_irrefl _), H.is]
    unfold clrF
    rw [if_neg (by rw [H.down]; decide), if_pos ho]
  unfold openF
  rw [if_neg (by rw [H.down]; decide), hch]
  simp only
  rw [hc]
  simp
theorem openC_ok {N : Nat} {s : FSt} (n : Nat) (c : Ct) (hn : n ≤ 1) (hok : FOkN N s) : FOkN (N + 3) (openC s n c).2.1 := by
  unfold openC
  split
  · split
    · exact (mvF_ok (jOf n c) c hok hn).more (by omega)
    · exact (clrF_ok (mvF_ok (jOf n c) c hok hn) _).1
  · exact (clrF_ok hok _).1.more (by omega)
theorem openF_ok {N : Nat} {s : FSt} (hok : FOkN N s) : FOkN (N + 3) (openF s).2.1 := by
  unfold openF
  split
  · exact hok.more (by omega)
  · split
    · exact hok.more (by omega)
    · rename_i n c hch
      have := openC_ok n c (chosen_le hch) hok
      split
      · exact this
      · exact this
/-- a new flash, formatted -/
theorem fmtF_new (z : Int) (sn : List UInt8) :
    (∃ E, fmtF ⟨capF z, [], [], [], 0, 0, false⟩ sn = (⟨capF z, [], [], [], 0, 0, false⟩, E) ∧ E ≠ 0 ∧ (262132 < sn.length ∨ capF z < sn.length + 22)) ∨
    (∃ s', fmtF ⟨capF z, [], [], [], 0, 0, false⟩ sn = (s', 0) ∧ s'.armed = [] ∧ JI 0 ⟨0, 1, 0, sn.length + 22, false⟩ s' ⟨sn, []⟩ ∧ bankF s' 1 = [] ∧ FOkN 1 s' ∧ s'.size = capF z) := by
  have hok := FOkN.new z
  obtain ⟨s, hs⟩ : ∃ s : FSt, s = ⟨capF z, [], [], [], 0, 0, false⟩ := ⟨_, rfl⟩
  rw [← hs] at hok ⊢
  have hd : s.down = false := by rw [hs]
  have hb0 : s.b0 = [] := by rw [hs]
  have hb1 : s.b1 = [] := by rw [hs]
  have har : s.armed = [] := by rw [hs]
  have hsz : s.size = capF z := by rw [hs]
  unfold fmtF
  rw [if_neg (by rw [hd]; decide)]
  by_cases h1 : 262132 < sn.length
  · rw [if_pos h1]; exact .inl ⟨1, rfl, by decide, .inl h1⟩
  rw [if_neg h1]
  by_cases h2 : s.size < sn.length + 22
  · rw [if_pos h2]; exact .inl ⟨122, rfl, by decide, .inr (by omega)⟩
  rw [if_neg h2]
  have c1 : clrF s 1 = (s, 0) := by unfold clrF; rw [if_neg (by rw [hd]; decide), if_pos (show bankF s 1 = [] from hb1)]
  have c0 : clrF s 0 = (s, 0) := by unfold clrF; rw [if_neg (by rw [hd]; decide), if_pos (show bankF s 0 = [] from hb0)]
  rw [c1]
  simp only [ne_eq, not_true_eq_false, if_false]
  rw [c0]
  simp only [ne_eq, not_true_eq_false, if_false]
  obtain ⟨hh, hhd⟩ : ∃ hh, hh = frB 72 (hdrP 1 0 sn) := ⟨_, rfl⟩
  have hhl : hh.length = sn.length + 22 := by rw [hhd, frB_len, hdrP_len]
  rw [← hhd]
  have hbk : bankF s 0 = [] := hb0
  obtain ⟨a1, a2, a3⟩ := appF_cases (s := s) (n := 0) (l := hh) (by omega) hd (by rw [hbk]; simp; omega)
  obtain ⟨o1, o2⟩ := appF_ok hok ((0 : Nat) : Int) hh
  have hrd : readB hh = some ⟨1, sn, [], hh.length⟩ := by
    have h := readB_gen 1 0 sn [] [] (by omega) (by omega) (by decide) (by omega) (by simp) rfl
    rw [flB_nil, List.append_nil, List.append_nil, if_pos (Nat.zero_le _)] at h
    rw [hhl, hhd]; exact h
  rcases a3 with ⟨k1, k2⟩ | ⟨k1, _⟩
  rotate_left
  · have := k1.armed; rw [har] at this; simp at this
  have h3 : bankF (appF s ((0 : Nat) : Int) hh).1 1 = [] := by
    have h3 : bankF (appF s ((0 : Nat) : Int) hh).1 (1 - 0) = bankF s 1 := a1
    rw [show bankF s 1 = [] from hb1] at h3; exact h3
  rw [hbk, List.nil_append] at k2
  refine .inr ⟨(appF s ((0 : Nat) : Int) hh).1, Prod.ext rfl k1.e, ?_, ?_, h3, o1, o2.trans hsz⟩
  · have := k1.armed; rw [har] at this; exact List.eq_nil_of_length_eq_zero (by simpa using this)
  · refine ⟨k1.down, rfl, by simp, ?_, ?_, rfl, ?_, ?_⟩
    · show readB (bankF (appF s ((0 : Nat) : Int) hh).1 0) = _
      rw [k2]; exact hrd
    · intro c' hc'
      have hc' : readB (bankF (appF s ((0 : Nat) : Int) hh).1 1) = some c' := hc'
      rw [h3, readB_nil] at hc'
      cases hc'
    · show _ = (bankF (appF s ((0 : Nat) : Int) hh).1 0).length
      rw [k2, hhl]
    · show 1 ≤ _; omega
theorem SI.same {K : Nat} {s s' : FSt} {h : Hd} (S : SI K s h) (h0 : s'.b0 = s.b0) (h1 : s'.b1 = s.b1) (hw : s.writes ≤ s'.writes) : SI K s' h := by
  obtain ⟨n, c, k1, k2, k3, k4, k5⟩ := S.out
  refine ⟨n, c, by rw [h0, h1]; exact k1, k2, k3, by omega, fun e => ?_⟩
  have : bankF s' n = bankF s n := by unfold bankF; rw [h0, h1]
  rw [this]; exact k5 e
theorem JI.same {K : Nat} {j : JSt} {s s' : FSt} {h : Hd} (S : JI K j s h) (h0 : s'.b0 = s.b0) (h1 : s'.b1 = s.b1) (hw : s.writes ≤ s'.writes) (hd : s'.down = false) : JI K j s' h := by
  have hb : ∀ n, bankF s' n = bankF s n := fun n => by unfold bankF; rw [h0, h1]
  exact ⟨hd, S.dead, S.bank, by rw [hb]; exact S.read, by rw [hb]; exact S.other, S.count, by rw [hb]; exact S.used, Nat.le_trans S.ep (by omega)⟩
end Go.Proofs.Ytpjmbhhfpoamnaa
