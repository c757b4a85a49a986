import Derived.Test.YtpjmbhhfpoamnaaJn6
set_option linter.unusedVariables false
set_option linter.unusedSimpArgs false
namespace Go.Proofs.Ytpjmbhhfpoamnaa
open Go.RowKit
theorem jappF_ok {N : Nat} {j : JSt} {s : FSt} (h : FOkN N s) (r : List UInt8) : FOkN (N + 1) (jappF j s r).2.1 ∧ (jappF j s r).2.1.size = s.size := by
  have hm := h.more (Nat.le_succ N)
  unfold jappF
  split
  · exact ⟨hm, rfl⟩
  · split
    · exact ⟨hm, rfl⟩
    · split
      · exact ⟨hm, rfl⟩
      · split
        · exact appF_ok h _ _
        · exact appF_ok h _ _
theorem jcmpF_ok {N : Nat} {j : JSt} {s : FSt} (h : FOkN N s) (sn : List UInt8) (more : Nat) : FOkN (N + 2) (jcmpF j s sn more).2.1 ∧ (jcmpF j s sn more).2.1.size = s.size := by
  have hm := h.more (show N ≤ N + 2 by omega)
  have h1 := clrF_ok h (1 - j.bank)
  have h2 := appF_ok h1.1 ((1 - j.bank : Nat) : Int) (frB 72 (hdrP (j.epoch + 1) 0 sn))
  unfold jcmpF
  split
  · exact ⟨hm, rfl⟩
  · split
    · exact ⟨hm, rfl⟩
    · split
      · exact ⟨hm, rfl⟩
      · split
        · exact ⟨hm, rfl⟩
        · split
          · exact ⟨h1.1.more (by omega), h1.2⟩
          · split
            · exact ⟨h2.1, h2.2.trans h1.2⟩
            · exact ⟨h2.1, h2.2.trans h1.2⟩
theorem JStep.comp {w w1 w' : World} {q p : Nat} {G : List Nat} {j j' : JSt} {s s' : FSt} (h : JStep w w1 q p G j s) (hqG : q ∉ G) (hq : q < w.heap.size) (k : ∀ G1, Fl w1 p G1 s → Jo w1 q p j → q ∉ G1 → JStep w1 w' q p G1 j' s') : JStep w w' q p G j' s' := by
  obtain ⟨G1, f1, j1, k1, g1⟩ := h.out
  have hq1 : q ∉ G1 := fun hx => by
    rcases g1 q hx with h2 | h2
    · exact hqG h2
    · omega
  obtain ⟨G2, f2, j2, k2, g2⟩ := (k G1 f1 j1 hq1).out
  exact ⟨G2, f2, j2, k1.trans' k2 (fun x hx => by
    rcases List.mem_cons.1 hx with rfl | hx
    · exact .inl (by simp)
    · exact (g1 x hx).imp (fun h2 => List.mem_cons_of_mem _ h2) id), fun x hx => by
    rcases g2 x hx with h2 | h2
    · exact g1 x h2
    · exact .inr (Nat.le_trans k1.size h2)⟩
theorem Sl.keepP {w w' : World} {A : Option Addr} {n c : Nat} {vs : List Value} {M : List Nat} (h : Sl w 1 A n c vs) (k : Keep M w w') (hM : ∀ ad, A = some ad → 0 < n → ad.block ∉ M) : Sl w' 1 A n c vs :=
  ⟨h.len, h.le, h.max, h.nil, fun ad e hp => ⟨(h.at_ ad e hp).1, fun i hi => k.cell ((h.at_ ad e hp).2 i hi) (hM ad e (by have := h.len; omega))⟩⟩
theorem JStep.glue {w w1 w' : World} {q p : Nat} {G G1 : List Nat} {j' : JSt} {s' : FSt} (k1 : Keep (q :: G) w w1) (g1 : ∀ x ∈ G1, x ∈ G ∨ w.heap.size ≤ x) (k : JStep w1 w' q p G1 j' s') : JStep w w' q p G j' s' := by
  obtain ⟨G2, f2, j2, k2, g2⟩ := k.out
  exact ⟨G2, f2, j2, k1.trans' k2 (fun x hx => by
    rcases List.mem_cons.1 hx with rfl | hx
    · exact .inl (by simp)
    · exact (g1 x hx).imp (fun h2 => List.mem_cons_of_mem _ h2) id), fun x hx => by
    rcases g2 x hx with h2 | h2
    · exact g1 x h2
    · exact .inr (Nat.le_trans k1.size h2)⟩
theorem JCompact_any (w : World) {q p : Nat} {G : List Nat} {j : JSt} {s : FSt} {N : Nat} (hj : Jo w q p j) (h : Fl w p G s) (hqG : q ∉ G) (hk : FOkN N s) (hN : N ≤ 4611686018427387900) (hb : j.bank ≤ 1) (he : j.epoch ≤ 9223372036854775807) (hu : j.used ≤ 4611686018427387904) {A : Option Addr} {n c : Nat} {l : List UInt8} (hs : Sl w 1 A n c (l.map by8)) (hn : n ≤ 140737488351232) :
    Calls Try.prog 65 #[.pointer (some ⟨q, 0, none⟩), .slice A n c] w fun e w' => e = .returned (.int .i64 ((jcmpF j s l 0).2.2 : Nat)) ∧ JStep w w' q p G (jcmpF j s l 0).1 (jcmpF j s l 0).2.1 := by
  have HC : Hid (Calls Try.prog 109 #[.pointer (some ⟨q, 0, none⟩), .slice A n c, .int .i64 0] w fun e w' => e = .returned (.int .i64 ((jcmpF j s l 0).2.2 : Nat)) ∧ JStep w w' q p G (jcmpF j s l 0).1 (jcmpF j s l 0).2.1) := Lib.hid (jcompact_any w hj h hqG hk hN hb he hu hs hn 0 (by omega))
  generalize jcmpF j s l 0 = X at HC ⊢
  clear hj h hk hs
  go_enter Try.func65, Try.ntmps65
  go_wp2_with fail
  refine HC.out.mono ?_
  rintro e w1 ⟨rfl, k1⟩
  clear HC
  go_wp2
  go_ret
  exact ⟨rfl, k1⟩
/-- Keep, as a function -/
def jkeepF (j : JSt) (s : FSt) (r sn : List UInt8) : JSt × FSt × Nat :=
  if (jappF j s r).2.2 ≠ 122 then jappF j s r else
  if (jcmpF (jappF j s r).1 (jappF j s r).2.1 sn (r.length + 10)).2.2 ≠ 0 then jcmpF (jappF j s r).1 (jappF j s r).2.1 sn (r.length + 10) else
  jappF (jcmpF (jappF j s r).1 (jappF j s r).2.1 sn (r.length + 10)).1 (jcmpF (jappF j s r).1 (jappF j s r).2.1 sn (r.length + 10)).2.1 r
theorem appF_ne122 {s : FSt} {n : Int} {l : List UInt8} (h : (bankF s n.toNat).length + l.length ≤ s.size) : (appF s n l).2 ≠ 122 := by
  unfold appF
  by_cases hr : refusedF s n ≠ 0
  · rw [if_pos hr]
    show refusedF s n ≠ 122
    unfold refusedF
    split
    · show (120 : Nat) ≠ 122
      decide
    · split
      · show (121 : Nat) ≠ 122
        decide
      · show (0 : Nat) ≠ 122
        decide
  · rw [if_neg hr, if_neg (by omega)]
    show (if struckF s then 121 else 0) ≠ 122
    cases struckF s <;> decide
/-- a refusal for want of room leaves all -/
theorem jappF_full {j : JSt} {s : FSt} {r : List UInt8} (hb : j.bank ≤ 1) (h : (jappF j s r).2.2 = 122) : jappF j s r = (j, s, 122) ∧ r.length ≤ 262144 := by
  unfold jappF at h ⊢
  split at h
  · cases h
  rename_i hd
  rw [if_neg hd]
  split at h
  · cases h
  rename_i hl
  rw [if_neg hl]
  split at h
  · rename_i hr
    rw [if_pos hr]
    exact ⟨rfl, by omega⟩
  rename_i hr
  exfalso
  split at h
  · cases h
  · rename_i h0
    refine appF_ne122 ?_ h
    rw [frB_len]
    unfold jroom at hr
    rw [if_neg hd] at hr
    split at hr
    · omega
    · simp only [Int.toNat_natCast]
      omega
set_option maxRecDepth 100000 in
set_option maxHeartbeats 1600000 in
theorem JKeep_any (w : World) {q p : Nat} {G : List Nat} {j : JSt} {s : FSt} {N : Nat} (hj : Jo w q p j) (h : Fl w p G s) (hqG : q ∉ G) (hk : FOkN N s) (hN : N ≤ 4611686018427387890) (hb : j.bank ≤ 1) (he : j.epoch ≤ 9223372036854775807) (hc : j.count ≤ 4611686018427387904) (hu : j.used ≤ 4611686018427387904) {A B : Option Addr} {n c m d : Nat} {r sn : List UInt8} (hr : Sl w 1 A n c (r.map by8)) (hs : Sl w 1 B m d (sn.map by8)) (hm : m ≤ 140737488351232)
    (hAG : ∀ ad, A = some ad → 0 < n → ad.block ∉ q :: G ∧ ad.block < w.heap.size) (hBG : ∀ ad, B = some ad → 0 < m → ad.block ∉ q :: G ∧ ad.block < w.heap.size) :
    Calls Try.prog 66 #[.pointer (some ⟨q, 0, none⟩), .slice A n c, .slice B m d] w fun e w' => e = .returned (.int .i64 ((jkeepF j s r sn).2.2 : Nat)) ∧ JStep w w' q p G (jkeepF j s r sn).1 (jkeepF j s r sn).2.1 := by
  have hlr : r.length = n := by simpa using hr.len
  have hq0 : q < w.heap.size := (Array.getElem?_eq_some_iff.1 hj).1
  have HA := Lib.hid (JAppend_any w hj h hqG (hk.ok (by omega)) hb hc hu hr)
  by_cases h1 : (jappF j s r).2.2 = 122
  · obtain ⟨hf, hn⟩ := jappF_full hb h1
    rw [hf] at HA
    have HK0 : Hid (jkeepF j s r sn = if (jcmpF j s sn (n + 10)).2.2 ≠ 0 then jcmpF j s sn (n + 10) else jappF (jcmpF j s sn (n + 10)).1 (jcmpF j s sn (n + 10)).2.1 r) := Lib.hid (by rw [jkeepF, hf, hlr]; simp)
    have hne : ∀ w1, Keep (q :: G) w w1 → Sl w1 1 A n c (r.map by8) ∧ Sl w1 1 B m d (sn.map by8) := fun w1 k => ⟨hr.keepP k (fun ad e h0 => (hAG ad e h0).1), hs.keepP k (fun ad e h0 => (hBG ad e h0).1)⟩
    have HNE := Lib.hid hne
    have HQ := Lib.hid (And.intro hqG hq0)
    have HN := Lib.hid (show n ≤ 262144 by omega)
    have HCo := Lib.hid (fun (w2 : World) (G1 : List Nat) (jo : Jo w2 q p j) (fl : Fl w2 p G1 s) (hq1 : q ∉ G1) (sl : Sl w2 1 B m d (sn.map by8)) => jcompact_any w2 jo fl hq1 hk (by omega) hb he hu sl hm (n + 10) (by omega))
    have ok3 := (jcmpF_ok (j := j) hk sn (n + 10)).1.ok (by omega)
    have HJ3 : Hid ((jcmpF j s sn (n + 10)).2.2 = 0 → (jcmpF j s sn (n + 10)).1.bank ≤ 1 ∧ (jcmpF j s sn (n + 10)).1.count ≤ 4611686018427387904 ∧ (jcmpF j s sn (n + 10)).1.used ≤ 4611686018427387904) := Lib.hid (fun h0 => by
      unfold jcmpF at h0 ⊢
      by_cases d1 : j.dead = true
      · rw [if_pos d1] at h0; cases h0
      rw [if_neg d1] at h0 ⊢
      by_cases d2 : j.epoch = 9223372036854775807
      · rw [if_pos d2] at h0
        simp only at h0
        split at h0 <;> cases h0
      rw [if_neg d2] at h0 ⊢
      by_cases d3 : 262132 < sn.length
      · rw [if_pos d3] at h0; cases h0
      rw [if_neg d3] at h0 ⊢
      by_cases d4 : j.used + jroom j s < sn.length + 22 + (n + 10)
      · rw [if_pos d4] at h0; cases h0
      rw [if_neg d4] at h0 ⊢
      by_cases d5 : (clrF s (1 - j.bank)).2 ≠ 0
      · rw [if_pos d5] at h0; exact absurd h0 d5
      rw [if_neg d5] at h0 ⊢
      split at h0
      · rename_i d6; exact absurd h0 d6
      · rename_i d6
        rw [if_neg d6]
        exact ⟨by simp only; omega, by simp only; omega, by simp only; omega⟩)
    obtain ⟨X, hX⟩ : ∃ X, X = jcmpF j s sn (n + 10) := ⟨_, rfl⟩
    rw [← hX] at HK0 HCo ok3 HJ3
    obtain ⟨E2, hE2⟩ : ∃ E2, E2 = X.2.2 := ⟨_, rfl⟩
    rw [← hE2] at HK0 HCo HJ3
    have HE2 := Lib.hid hE2
    have HOK := Lib.hid ok3
    have HAp := Lib.hid (fun (w3 : World) (G3 : List Nat) (jo : Jo w3 q p X.1) (fl : Fl w3 p G3 X.2.1) (hq1 : q ∉ G3) (h0 : E2 = 0) (sl : Sl w3 1 A n c (r.map by8)) => JAppend_any w3 jo fl hq1 HOK.out (HJ3.out h0).1 (HJ3.out h0).2.1 (HJ3.out h0).2.2 sl)
    clear hne hj h hqG hk hN hb he hc hu hr hs hAG hBG hlr hq0 h1 hf hn hX hE2 ok3
    go_enter Try.func66, Try.ntmps66
    go_wp2_with fail
    refine HA.out.mono ?_
    rintro e w1 ⟨rfl, k1⟩
    clear HA
    obtain ⟨G1, f1, j1, kk1, g1⟩ := k1.out
    have hq1 : q ∉ G1 := fun hx => by
      rcases g1 q hx with h2 | h2
      · exact HQ.out.1 h2
      · have := HQ.out.2; omega
    have H1 := Lib.hid (And.intro f1 (And.intro j1 (And.intro kk1 (And.intro g1 hq1))))
    have HEn : Hid (Calls Try.prog 45 #[.int .u8 82, .slice A n c] w1 fun r' w' => ∃ g, r' = .returned (.tuple #[.slice (some ⟨g, 0, none⟩) (n + 10) (n + 10), .bool true]) ∧ w'.ownsRow w1.heap.size 5 1 (.slice (some ⟨g, 0, none⟩) (n + 10) (n + 10)) (n + 10) ((frB 82 r).map by8) ∧ Below w1.heap.size w1 w') := Lib.hid (Encode_yes w1 82 (HNE.out w1 kk1).1 HN.out)
    clear k1 f1 j1 kk1 g1 hq1
    go_wp2_with fail
    refine HEn.out.mono ?_
    rintro e w2 ⟨g, rfl, -, hb2⟩
    clear HEn
    have HC2 : Hid (Calls Try.prog 109 #[.pointer (some ⟨q, 0, none⟩), .slice B m d, .int .i64 ((n : Int) + 10)] w2 fun e w' => e = .returned (.int .i64 (E2 : Nat)) ∧ JStep w2 w' q p G1 X.1 X.2.1) := Lib.hid (HCo.out w2 G1 (H1.out.2.1.below hb2) (H1.out.1.below hb2) H1.out.2.2.2.2 ((HNE.out w1 H1.out.2.2.1).2.below hb2))
    have HB2 := Lib.hid hb2
    clear hb2
    by_cases h0 : E2 = 0
    · have q1 : ((E2 : Int) != 0) = false := by simp [h0]
      have H0 := Lib.hid h0
      clear h0
      go_wp2_with fail
      refine HC2.out.mono ?_
      rintro e w3 ⟨rfl, k3⟩
      clear HC2
      obtain ⟨G3, f3, j3, kk3, g3⟩ := k3.out
      have hs12 := HB2.out.size
      have hs1 := H1.out.2.2.1.size
      have hq3 : q ∉ G3 := fun hx => by
        rcases g3 q hx with h2 | h2
        · exact H1.out.2.2.2.2 h2
        · have := HQ.out.2; omega
      have kA : Keep (q :: G) w w3 := (H1.out.2.2.1.trans (Keep.of_below HB2.out _)).trans' kk3 (fun x hx => by
        rcases List.mem_cons.1 hx with rfl | hx
        · exact .inl (by simp)
        · exact (H1.out.2.2.2.1 x hx).imp (fun h2 => List.mem_cons_of_mem _ h2) id)
      have gA : ∀ x ∈ G3, x ∈ G ∨ w.heap.size ≤ x := fun x hx => by
        rcases g3 x hx with h2 | h2
        · exact H1.out.2.2.2.1 x h2
        · exact .inr (by omega)
      have HA3 := Lib.hid (HAp.out w3 G3 j3 f3 hq3 H0.out (HNE.out w3 kA).1)
      have HG := Lib.hid (And.intro kA gA)
      clear k3 f3 j3 kk3 g3 hq3 kA gA hs12 hs1
      go_wp2_with fail
      refine HA3.out.mono ?_
      rintro e w4 ⟨rfl, k4⟩
      clear HA3
      go_wp2
      go_ret
      rw [HK0.out, if_neg (by rw [H0.out]; simp)]
      exact ⟨rfl, JStep.glue HG.out.1 HG.out.2 k4⟩
    · have q1 : ((E2 : Int) != 0) = true := by simp; omega
      have H0 := Lib.hid h0
      clear h0
      go_wp2_with fail
      refine HC2.out.mono ?_
      rintro e w3 ⟨rfl, k3⟩
      clear HC2
      go_wp2
      go_ret
      rw [HK0.out, if_pos H0.out]
      exact ⟨by have := HE2.out; simp [← this], JStep.glue H1.out.2.2.1 H1.out.2.2.2.1 (k3.ahead HB2.out)⟩
  · have HK0 : Hid (jkeepF j s r sn = jappF j s r) := Lib.hid (by rw [jkeepF, if_pos h1])
    obtain ⟨E, hE⟩ : ∃ E, E = (jappF j s r).2.2 := ⟨_, rfl⟩
    rw [← hE] at HA h1
    have HE := Lib.hid hE
    have q1 : ((E : Int) != 122) = true := by simp; omega
    clear hj h hqG hk hN hb he hc hu hr hs hAG hBG hlr hq0 h1 hE
    go_enter Try.func66, Try.ntmps66
    go_wp2_with fail
    refine HA.out.mono ?_
    rintro e w1 ⟨rfl, k1⟩
    clear HA
    go_wp2
    go_ret
    rw [HK0.out, ← HE.out]
    exact ⟨rfl, k1⟩
end Go.Proofs.Ytpjmbhhfpoamnaa
