import Derived.Test.YtpjmbhhfpoamnaaJnP2
set_option linter.unusedVariables false
set_option linter.unusedSimpArgs false
namespace Go.Proofs.Ytpjmbhhfpoamnaa
open Go.RowKit
theorem SI.keep {K : Nat} {s s' : FSt} {n : Nat} {c : Ct} {h : Hd} (hc : chosenF (readB s.b0) (readB s.b1) = some (n, c)) (h1 : bankF s' n = bankF s n) (h2 : bankF s' (1 - n) = bankF s (1 - n) ∨ readB (bankF s' (1 - n)) = none)
    (hs : c.snap = h.snap) (hr : c.recs = h.recs) (he : c.epoch ≤ s.writes + K) (hf : c.epoch = 9223372036854775807 → c.good = (bankF s n).length) (hw : s.writes ≤ s'.writes) : SI K s' h :=
  ⟨n, c, chosen_keep hc h1 h2, hs, hr, by omega, fun e => by rw [h1]; exact hf e⟩
theorem JI.size {K N : Nat} {j : JSt} {s : FSt} {h : Hd} (H : JI K j s h) (hok : FOkN N s) : jroom j s = s.size - (bankF s j.bank).length ∧ (bankF s j.bank).length ≤ s.size ∧ s.size ≤ 1048576 ∧ j.used + jroom j s = s.size := by
  have h1 : jroom j s = s.size - (bankF s j.bank).length := by
    unfold jroom; rw [H.dead, H.down]; rfl
  have h2 := bankF_le hok j.bank
  refine ⟨h1, h2, hok.size, ?_⟩
  rw [h1, H.used]; omega
set_option maxHeartbeats 800000 in
theorem jappF_cases {K N : Nat} {j : JSt} {s : FSt} {h : Hd} (H : JI K j s h) (hok : FOkN N s) (hK : N + K < 9223372036854775807) (r : List UInt8) :
    (262144 < r.length ∧ jappF j s r = (j, s, 1)) ∨ (r.length ≤ 262144 ∧ jroom j s < r.length + 10 ∧ jappF j s r = (j, s, 122)) ∨
    (r.length ≤ 262144 ∧ r.length + 10 ≤ jroom j s ∧ ((∃ j' s', jappF j s r = (j', s', 0) ∧ Calm s s' 0 ∧ JI K j' s' (h.with_ r) ∧ jroom j' s' + (r.length + 10) = jroom j s ∧ j'.epoch = j.epoch ∧ j'.count = j.count + 1 ∧ bankF s' (1 - j'.bank) = bankF s (1 - j.bank)) ∨
      (∃ j' s', jappF j s r = (j', s', 121) ∧ Crsh s s' 121 ∧ (SI K s' h ∨ SI K s' (h.with_ r))))) := by
  obtain ⟨z1, z2, z3, z4⟩ := H.size hok
  by_cases h1 : 262144 < r.length
  · exact .inl ⟨h1, by unfold jappF; rw [H.dead, if_neg (by decide), if_pos h1]⟩
  by_cases h2 : jroom j s < r.length + 10
  · exact .inr (.inl ⟨by omega, h2, by unfold jappF; rw [H.dead, if_neg (by decide), if_neg h1, if_pos h2]⟩)
  refine .inr (.inr ⟨by omega, by omega, ?_⟩)
  have hj : jappF j s r = if (appF s j.bank (frB 82 r)).2 = 0 then ({ j with dead := false, count := j.count + 1, used := j.used + (r.length + 10) }, (appF s j.bank (frB 82 r)).1, 0) else ({ j with dead := decide ((appF s j.bank (frB 82 r)).2 = 121) }, (appF s j.bank (frB 82 r)).1, (appF s j.bank (frB 82 r)).2) := by
    unfold jappF; rw [H.dead, if_neg (by decide), if_neg h1, if_neg h2]
  have hfl := frB_len 82 r
  obtain ⟨a1, a2, a3⟩ := appF_cases (l := frB 82 r) H.bank H.down (by omega)
  obtain ⟨s', hs'⟩ : ∃ s', s' = (appF s j.bank (frB 82 r)).1 := ⟨_, rfl⟩
  obtain ⟨e, he⟩ : ∃ e, e = (appF s j.bank (frB 82 r)).2 := ⟨_, rfl⟩
  rw [← hs', ← he] at hj a3
  rw [← hs'] at a1 a2
  have hra := readB_app H.read rfl
  have hoth : ∀ c, readB (bankF s' (1 - j.bank)) = some c → c.epoch < j.epoch := by rw [a1]; exact H.other
  rcases a3 with ⟨hc, hb⟩ | ⟨hc, m, hb⟩
  · left
    rw [hc.e, if_pos rfl] at hj
    refine ⟨_, s', hj, hc.e ▸ hc, ?_, ?_, rfl, rfl, a1⟩
    · refine ⟨hc.down, rfl, H.bank, ?_, hoth, ?_, ?_, ?_⟩
      · show readB (bankF s' j.bank) = some ⟨j.epoch, h.snap, h.recs ++ [r], _⟩
        rw [hb, hra, recsB_one r (by omega), List.length_append, hfl]
      · show j.count + 1 = (h.recs ++ [r]).length
        rw [H.count, List.length_append]; rfl
      · show j.used + (r.length + 10) = (bankF s' j.bank).length
        rw [hb, H.used, List.length_append, hfl]
      · show j.epoch ≤ s'.writes + K
        have := H.ep; omega
    · have e1 : ∀ j'' : JSt, j''.dead = false → j''.bank = j.bank → jroom j'' s' = s'.size - (bankF s' j.bank).length := fun j'' q1 q2 => by
        unfold jroom; rw [q1, hc.down, q2]; rfl
      have e2 := e1 { j with dead := false, count := j.count + 1, used := j.used + (r.length + 10) } rfl rfl
      rw [e2, hb, hc.size, List.length_append, hfl, z1]
      omega
  · right
    rw [hc.e, if_neg (by decide)] at hj
    refine ⟨_, s', hj, hc.e ▸ hc, ?_⟩
    by_cases hm : m < r.length + 10
    · left
      refine ⟨j.bank, ⟨j.epoch, h.snap, h.recs, (bankF s j.bank).length⟩, chosen_of H.bank ?_ hoth, rfl, rfl, ?_, fun hx => ?_⟩
      · rw [hb, hra, recsB_cut r (by omega) m hm, List.append_nil]; rfl
      · have := H.ep; show j.epoch ≤ _; omega
      · have h1 := H.ep; have h2 := hok.writes; have h3 : j.epoch = 9223372036854775807 := hx; omega
    · right
      rw [List.take_of_length_le (by omega)] at hb
      refine ⟨j.bank, ⟨j.epoch, h.snap, h.recs ++ [r], (bankF s j.bank).length + (r.length + 10)⟩, chosen_of H.bank ?_ hoth, rfl, rfl, ?_, fun _ => ?_⟩
      · rw [hb, hra, recsB_one r (by omega)]
      · have := H.ep; show j.epoch ≤ _; omega
      · show _ = (bankF s' j.bank).length
        rw [hb, List.length_append, hfl]
set_option maxHeartbeats 1600000 in
theorem jcmpF_cases {K N : Nat} {j : JSt} {s : FSt} {h : Hd} (H : JI K j s h) (hok : FOkN N s) (hK : N + K < 9223372036854775807) (sn : List UInt8) (more : Nat) :
    (∃ E, jcmpF j s sn more = (j, s, E) ∧ (E = 1 ∨ E = 3 ∨ E = 122)) ∨ (∃ j' s', jcmpF j s sn more = (j', s', 0) ∧ Calm s s' 0 ∧ JI K j' s' ⟨sn, []⟩ ∧ j'.epoch = j.epoch + 1 ∧ j'.count = 0 ∧ more ≤ jroom j' s') ∨
    (∃ j' s', jcmpF j s sn more = (j', s', 121) ∧ Crsh s s' 121 ∧ (SI K s' h ∨ SI K s' ⟨sn, []⟩)) := by
  obtain ⟨z1, z2, z3, z4⟩ := H.size hok
  have hep := H.ep
  have hwr := hok.writes
  have hne : j.epoch ≠ 9223372036854775807 := by omega
  by_cases h1 : 262132 < sn.length
  · exact .inl ⟨1, by unfold jcmpF; rw [H.dead, if_neg (by decide), if_neg hne, if_pos h1], .inl rfl⟩
  by_cases h2 : j.used + jroom j s < sn.length + 22 + more
  · exact .inl ⟨122, by unfold jcmpF; rw [H.dead, if_neg (by decide), if_neg hne, if_neg h1, if_pos h2], .inr (.inr rfl)⟩
  have hch := chosen_of H.bank H.read H.other
  have hb1 : 1 - j.bank ≤ 1 := by omega
  have h11 : 1 - (1 - j.bank) = j.bank := by have := H.bank; omega
  obtain ⟨c1, c2⟩ := clrF_cases (n := 1 - j.bank) hb1 H.down
  rw [h11] at c1
  obtain ⟨s1, hs1⟩ : ∃ s1, s1 = (clrF s (1 - j.bank)).1 := ⟨_, rfl⟩
  obtain ⟨e1, he1⟩ : ∃ e1, e1 = (clrF s (1 - j.bank)).2 := ⟨_, rfl⟩
  rw [← hs1] at c1 c2
  rw [← he1] at c2
  rcases c2 with ⟨q1, q2⟩ | ⟨q1, q2⟩
  rotate_left
  · refine .inr (.inr ⟨{ j with dead := decide (e1 = 121) }, s1, ?_, q1.e ▸ q1, .inl ?_⟩)
    · unfold jcmpF
      rw [H.dead, if_neg (by decide), if_neg hne, if_neg h1, if_neg h2, ← hs1, ← he1, if_pos (by rw [q1.e]; decide), q1.e]
    · exact SI.keep hch c1 q2 rfl rfl hep (fun _ => rfl) q1.writes
  obtain ⟨hd, hhd⟩ : ∃ hd, hd = frB 72 (hdrP (j.epoch + 1) 0 sn) := ⟨_, rfl⟩
  have hhl : hd.length = sn.length + 22 := by rw [hhd, frB_len, hdrP_len]
  obtain ⟨a1, a2, a3⟩ := appF_cases (s := s1) (l := hd) hb1 q1.down (by rw [q2, q1.size]; simp; omega)
  rw [h11, c1] at a1
  have hep1 : j.epoch + 1 ≤ 9223372036854775807 := by omega
  have hrd : readB hd = some ⟨j.epoch + 1, sn, [], hd.length⟩ := by
    have h := readB_gen (j.epoch + 1) 0 sn [] [] (by omega) hep1 (by decide) (by omega) (by simp) rfl
    rw [flB_nil, List.append_nil, List.append_nil, if_pos (Nat.zero_le _)] at h
    rw [hhl, hhd]; exact h
  obtain ⟨s2, hs2⟩ : ∃ s2, s2 = (appF s1 (1 - j.bank : Nat) hd).1 := ⟨_, rfl⟩
  obtain ⟨e2, he2⟩ : ∃ e2, e2 = (appF s1 (1 - j.bank : Nat) hd).2 := ⟨_, rfl⟩
  rw [← hs2] at a1 a2 a3
  rw [← he2, q2, List.nil_append] at a3
  have hw1 := q1.writes
  rcases a3 with ⟨k1, k2⟩ | ⟨k1, m, k2⟩
  · refine .inr (.inl ⟨{ bank := 1 - j.bank, epoch := j.epoch + 1, count := 0, used := sn.length + 22, dead := false }, s2, ?_, ?_, ?_, rfl, rfl, ?_⟩)
    · unfold jcmpF
      rw [H.dead, if_neg (by decide), if_neg hne, if_neg h1, if_neg h2, ← hs1, ← he1, if_neg (by rw [q1.e]; decide), ← hhd, ← hs2, ← he2, if_neg (by rw [k1.e]; decide)]
    · have := q1.then_ k1; exact k1.e ▸ this
    · refine ⟨k1.down, rfl, hb1, ?_, ?_, rfl, ?_, ?_⟩
      · show readB (bankF s2 (1 - j.bank)) = _
        rw [k2]; exact hrd
      · intro c hc
        have hc : readB (bankF s2 (1 - (1 - j.bank))) = some c := hc
        rw [h11, a1, H.read] at hc
        have := Option.some.inj hc; subst this
        show j.epoch < j.epoch + 1; omega
      · show _ = (bankF s2 (1 - j.bank)).length
        rw [k2, hhl]
      · show j.epoch + 1 ≤ s2.writes + K; omega
    · unfold jroom
      simp only
      rw [if_neg (by decide), k1.down, if_neg (by decide), k2, hhl, k1.size, q1.size]
      omega
  · refine .inr (.inr ⟨{ j with dead := decide (e2 = 121) }, s2, ?_, ?_, ?_⟩)
    · unfold jcmpF
      rw [H.dead, if_neg (by decide), if_neg hne, if_neg h1, if_neg h2, ← hs1, ← he1, if_neg (by rw [q1.e]; decide), ← hhd, ← hs2, ← he2, if_pos (by rw [k1.e]; decide), k1.e]
    · have := q1.crash k1; exact k1.e ▸ this
    · by_cases hm : m < hd.length
      · left
        refine SI.keep hch a1 (.inr ?_) rfl rfl hep (fun _ => rfl) (by omega)
        rw [k2, hhd]
        exact readB_none_of (wholeD_cut0 72 _ m (by rw [hdrP_len]; omega) (by rw [hdrP_len]; omega))
      · right
        rw [List.take_of_length_le (by omega)] at k2
        refine ⟨1 - j.bank, _, chosen_of hb1 (by rw [k2]; exact hrd) (fun c' hc' => ?_), rfl, rfl, ?_, fun _ => ?_⟩
        · rw [h11, a1, H.read] at hc'
          have := Option.some.inj hc'; subst this
          show j.epoch < j.epoch + 1; omega
        · show j.epoch + 1 ≤ _; omega
        · rw [k2]; rfl
theorem jkeepF_cases {K N : Nat} {j : JSt} {s : FSt} {h : Hd} (H : JI K j s h) (hok : FOkN N s) (hK : N + K + 4 < 9223372036854775807) (r sn : List UInt8) :
    (∃ E, jkeepF j s r sn = (j, s, E) ∧ (E = 1 ∨ E = 3 ∨ E = 122) ∧ (262144 < r.length ∨ jroom j s < r.length + 10)) ∨
    (∃ j' s', jkeepF j s r sn = (j', s', 0) ∧ Calm s s' 0 ∧ ((j'.epoch = j.epoch ∧ r.length ≤ 262144 ∧ r.length + 10 ≤ jroom j s ∧ JI K j' s' (h.with_ r)) ∨ (j'.epoch = j.epoch + 1 ∧ j'.count = 1 ∧ r.length ≤ 262144 ∧ jroom j s < r.length + 10 ∧ JI K j' s' (Hd.with_ ⟨sn, []⟩ r)))) ∨
    (∃ j' s', jkeepF j s r sn = (j', s', 121) ∧ Crsh s s' 121 ∧ (SI K s' h ∨ SI K s' (h.with_ r) ∨ SI K s' ⟨sn, []⟩ ∨ SI K s' (Hd.with_ ⟨sn, []⟩ r))) := by
  unfold jkeepF
  rcases jappF_cases H hok (by omega) r with ⟨h1, e1⟩ | ⟨h1, h2, e1⟩ | ⟨h1, h2, ⟨j', s', e1, q1, q2, q3, q4, q5, _⟩ | ⟨j', s', e1, q1, q2⟩⟩
  · rw [e1]; exact .inl ⟨1, rfl, .inl rfl, .inl h1⟩
  rotate_left
  · rw [e1]; exact .inr (.inl ⟨j', s', rfl, q1, .inl ⟨q4, h1, h2, q2⟩⟩)
  · rw [e1]; exact .inr (.inr ⟨j', s', rfl, q1, q2.imp id .inl⟩)
  rw [e1]
  simp only [ne_eq, not_true_eq_false, if_false]
  have hok1 := (jcmpF_ok (j := j) hok sn (r.length + 10)).1
  rcases jcmpF_cases H hok (by omega) sn (r.length + 10) with ⟨E, e2, hE⟩ | ⟨j', s', e2, q1, q2, q3, q4, q5⟩ | ⟨j', s', e2, q1, q2⟩
  · rw [e2]
    rw [if_pos (show (j, s, E).2.2 ≠ 0 by rcases hE with h | h | h <;> simp [h])]
    exact .inl ⟨E, rfl, hE, .inr h2⟩
  · rw [e2] at hok1 ⊢
    simp only [not_true_eq_false, if_false]
    simp only at hok1
    rcases jappF_cases q2 hok1 (by omega) r with ⟨g1, g2⟩ | ⟨g1, g2, g3⟩ | ⟨g1, g2, ⟨j2, s2, e3, p1, p2, p3, p4, p5, _⟩ | ⟨j2, s2, e3, p1, p2⟩⟩
    · omega
    · omega
    · rw [e3]
      exact .inr (.inl ⟨j2, s2, rfl, q1.then_ p1, .inr ⟨by omega, by omega, h1, h2, p2⟩⟩)
    · rw [e3]
      exact .inr (.inr ⟨j2, s2, rfl, q1.crash p1, p2.elim (fun x => .inr (.inr (.inl x))) (fun x => .inr (.inr (.inr x)))⟩)
  · rw [e2, if_pos (by simp)]
    exact .inr (.inr ⟨j', s', rfl, q1, q2.elim .inl (fun x => .inr (.inr (.inl x)))⟩)
theorem jkeepF_ok {N : Nat} {j : JSt} {s : FSt} (h : FOkN N s) (r sn : List UInt8) : FOkN (N + 4) (jkeepF j s r sn).2.1 := by
  unfold jkeepF
  have h1 := (jappF_ok (j := j) h r).1
  have h2 := (jcmpF_ok (j := (jappF j s r).1) h1 sn (r.length + 10)).1
  have h3 := (jappF_ok (j := (jcmpF (jappF j s r).1 (jappF j s r).2.1 sn (r.length + 10)).1) h2 r).1
  split
  · exact h1.more (by omega)
  · split
    · exact h2.more (by omega)
    · exact h3.more (by omega)
end Go.Proofs.Ytpjmbhhfpoamnaa
