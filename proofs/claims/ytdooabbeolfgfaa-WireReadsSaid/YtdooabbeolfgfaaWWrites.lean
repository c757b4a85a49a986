import Derived.Test.YtdooabbeolfgfaaTell9
set_option linter.unusedVariables false
set_option linter.unusedSimpArgs false
namespace Go.Proofs.Ytdooabbeolfgfaa
open Go.RowKit
theorem stepB_len (kd : Int) (x : Nat) (b : List UInt8) (ns : List UInt64) (hx : x < 18446744073709551616) (hb : b.length ≤ 18446744073709551615) (hn : ns.length ≤ 18446744073709551615) : (stepB kd x b ns).length ≤ 20 + b.length + 10 * ns.length := by
  have h1 := shortL_len x hx
  have h2 := shortL_len b.length (by omega)
  have h3 := shortL_len ns.length (by omega)
  have h4 := numsL_len ns
  unfold stepB
  repeat' split
  all_goals (try simp only [List.length_append, List.length_cons, List.length_nil, stBE32_len, stBE64_len])
  all_goals omega
theorem write9 (w : World) {p : Nat} {G : List Nat} {l : List UInt8} {f : Nat} (h : Ob 104 w p G l f) (kd : Int) (x : Nat) {ba la : Option Addr} {n0 bc ln lc : Nat} {b : List UInt8} {ns : List UInt64} (n most : Int)
    (sb : Sl w 1 ba n0 bc (b.map by8)) (sn : Sl w 1 la ln lc (ns.map by64)) (hba : ∀ ad, ba = some ad → 0 < n0 → ad.block ∉ G) (hla : ∀ ad, la = some ad → 0 < ln → ad.block ∉ G) (hx : x < 18446744073709551616) (hbn : n0 ≤ 100000) (hln : ln ≤ 100000) (hl : l.length ≤ 100000000) :
    Calls Try.prog 42 #[.pointer (some ⟨p, 0, none⟩), .agg #[.int .i64 kd, .int .u64 x, .slice ba n0 bc, .slice la ln lc, .int .i64 n, .int .i64 most]] w fun e w' => e = .returned (.bool true) ∧ Stepped 104 w w' p G (putL l (stepF kd b ns most f) (stepB kd x b ns)) (stepF kd b ns most f) := by
  have e0 : b.length = n0 := by simpa using sb.len
  have e1 : ns.length = ln := by simpa using sn.len
  have R : ∀ (B : List UInt8) (F : Nat), stepB kd x b ns = B → stepF kd b ns most f = F → Calls Try.prog 42 #[.pointer (some ⟨p, 0, none⟩), .agg #[.int .i64 kd, .int .u64 x, .slice ba n0 bc, .slice la ln lc, .int .i64 n, .int .i64 most]] w (fun e w' => e = .returned (.bool true) ∧ Stepped 104 w w' p G (putL l F B) F) → Calls Try.prog 42 #[.pointer (some ⟨p, 0, none⟩), .agg #[.int .i64 kd, .int .u64 x, .slice ba n0 bc, .slice la ln lc, .int .i64 n, .int .i64 most]] w fun e w' => e = .returned (.bool true) ∧ Stepped 104 w w' p G (putL l (stepF kd b ns most f) (stepB kd x b ns)) (stepF kd b ns most f) := by
    intro B F hB hF hh
    rw [hB, hF]
    exact hh
  by_cases k1 : kd = 1
  · subst k1
    exact R _ _ (by simp [stepB]) (by simp [stepF]) (write9_1 w h x n most sb sn hba hla hx hbn hln hl)
  by_cases k2 : kd = 2
  · subst k2
    exact R _ _ (by simp [stepB]) (by simp [stepF]) (write9_2 w h x n most sb sn hba hla hx hbn hln hl)
  by_cases k3 : kd = 3
  · subst k3
    exact R _ _ (by simp [stepB]) (by simp [stepF]) (write9_3 w h x n most sb sn hba hla hx hbn hln hl)
  by_cases k4 : kd = 4
  · subst k4
    exact R _ _ (by simp [stepB]) (by simp [stepF]) (write9_4 w h x n most sb sn hba hla hx hbn hln hl)
  by_cases k5 : kd = 5
  · subst k5
    exact R _ _ (by simp [stepB]) (by simp [stepF]) (write9_5 w h x n most sb sn hba hla hx hbn hln hl)
  by_cases k6 : kd = 6
  · subst k6
    exact R _ _ (by simp [stepB]) (by simp [stepF]) (write9_6 w h x n most sb sn hba hla hx hbn hln hl)
  by_cases k7 : kd = 7
  · subst k7
    exact R _ _ (by simp [stepB, e0]) (by simp [stepF, e0]) (write9_7 w h x n most sb sn hba hla hx hbn hln hl)
  by_cases k8 : kd = 8
  · subst k8
    exact R _ _ (by simp [stepB, e1]) (by simp [stepF, e1]) (write9_8 w h x n most sb sn hba hla hx hbn hln hl)
  exact R _ _ (by simp [stepB, k1, k2, k3, k4, k5, k6, k7, k8]) (by simp [stepF, k7, k8]) (write9_kd w h kd k1 k2 k3 k4 k5 k6 k7 k8 x n most sb sn hba hla hx hbn hln hl)
theorem tell9 (w : World) {p : Nat} {G : List Nat} {l : List UInt8} {f : Nat} (h : Ob 66 w p G l f) (kd : Int) (x : Nat) {ba la : Option Addr} {n0 bc ln lc : Nat} {b : List UInt8} {ns : List UInt64} (n most : Int)
    (sb : Sl w 1 ba n0 bc (b.map by8)) (sn : Sl w 1 la ln lc (ns.map by64)) (hba : ∀ ad, ba = some ad → 0 < n0 → ad.block ∉ G) (hla : ∀ ad, la = some ad → 0 < ln → ad.block ∉ G) (hx : x < 18446744073709551616) (hbn : n0 ≤ 100000) (hln : ln ≤ 100000) (hl : l.length ≤ 100000000) :
    Calls Try.prog 43 #[.pointer (some ⟨p, 0, none⟩), .agg #[.int .i64 kd, .int .u64 x, .slice ba n0 bc, .slice la ln lc, .int .i64 n, .int .i64 most]] w fun e w' => e = .returned (.tuple #[]) ∧ Stepped 66 w w' p G (putL l (stepF kd b ns most f) (stepB kd x b ns)) (stepF kd b ns most f) := by
  have e0 : b.length = n0 := by simpa using sb.len
  have e1 : ns.length = ln := by simpa using sn.len
  have R : ∀ (B : List UInt8) (F : Nat), stepB kd x b ns = B → stepF kd b ns most f = F → Calls Try.prog 43 #[.pointer (some ⟨p, 0, none⟩), .agg #[.int .i64 kd, .int .u64 x, .slice ba n0 bc, .slice la ln lc, .int .i64 n, .int .i64 most]] w (fun e w' => e = .returned (.tuple #[]) ∧ Stepped 66 w w' p G (putL l F B) F) → Calls Try.prog 43 #[.pointer (some ⟨p, 0, none⟩), .agg #[.int .i64 kd, .int .u64 x, .slice ba n0 bc, .slice la ln lc, .int .i64 n, .int .i64 most]] w fun e w' => e = .returned (.tuple #[]) ∧ Stepped 66 w w' p G (putL l (stepF kd b ns most f) (stepB kd x b ns)) (stepF kd b ns most f) := by
    intro B F hB hF hh
    rw [hB, hF]
    exact hh
  by_cases k1 : kd = 1
  · subst k1
    exact R _ _ (by simp [stepB]) (by simp [stepF]) (tell9_1 w h x n most sb sn hba hla hx hbn hln hl)
  by_cases k2 : kd = 2
  · subst k2
    exact R _ _ (by simp [stepB]) (by simp [stepF]) (tell9_2 w h x n most sb sn hba hla hx hbn hln hl)
  by_cases k3 : kd = 3
  · subst k3
    exact R _ _ (by simp [stepB]) (by simp [stepF]) (tell9_3 w h x n most sb sn hba hla hx hbn hln hl)
  by_cases k4 : kd = 4
  · subst k4
    exact R _ _ (by simp [stepB]) (by simp [stepF]) (tell9_4 w h x n most sb sn hba hla hx hbn hln hl)
  by_cases k5 : kd = 5
  · subst k5
    exact R _ _ (by simp [stepB]) (by simp [stepF]) (tell9_5 w h x n most sb sn hba hla hx hbn hln hl)
  by_cases k6 : kd = 6
  · subst k6
    exact R _ _ (by simp [stepB]) (by simp [stepF]) (tell9_6 w h x n most sb sn hba hla hx hbn hln hl)
  by_cases k7 : kd = 7
  · subst k7
    exact R _ _ (by simp [stepB, e0]) (by simp [stepF, e0]) (tell9_7 w h x n most sb sn hba hla hx hbn hln hl)
  by_cases k8 : kd = 8
  · subst k8
    exact R _ _ (by simp [stepB, e1]) (by simp [stepF, e1]) (tell9_8 w h x n most sb sn hba hla hx hbn hln hl)
  exact R _ _ (by simp [stepB, k1, k2, k3, k4, k5, k6, k7, k8]) (by simp [stepF, k7, k8]) (tell9_kd w h kd k1 k2 k3 k4 k5 k6 k7 k8 x n most sb sn hba hla hx hbn hln hl)

theorem doneL_len (l : List UInt8) (f : Nat) : (doneL l f).length ≤ l.length := by unfold doneL; split <;> simp
/-- the writer and the document's stand alike, apart from one another and above what was there -/
structure Both9 (W w : World) (p q : Nat) (N : Nat) : Prop where
  out : ∃ G H l f, Ob 104 w p G l f ∧ Ob 66 w q H l f ∧ (∀ x ∈ G, x ∉ H ∧ W.heap.size ≤ x) ∧ (∀ x ∈ H, W.heap.size ≤ x) ∧ l.length ≤ N
  below : Below W.heap.size W w
set_option maxRecDepth 100000 in
set_option maxHeartbeats 3200000 in
theorem WireWrites_walk (W : World) (A : Option Addr) (n c : Nat) (vs : List Value) (ss : List St9) (h : Sts W A n c vs ss) :
    Calls Try.prog 8 #[.slice A n c] W fun e w' => e = .returned (.bool true) ∧ Below W.heap.size W w' := by
  have hsl := h.sl.le; have hsm := h.sl.max
  have HL := Lib.hid h.len
  by_cases hn : 300 < n
  ·
    go_enter Try.func8, Try.ntmps8
    go_wp2
    go_ret
    exact ⟨rfl, Below.refl _ _⟩
  have hn' : n ≤ 300 := by omega
  have i3 : decide ((300 : Int) < n) = false := decide_eq_false (by omega)
  go_enter Try.func8, Try.ntmps8
  go_wp2_with (first | (at_builtin; refine Stopped.out ?_) | (at_make; refine Stopped.out ?_))
  refine (size09 _ h hn').mono ?_
  rintro e w1 ⟨r, rfl, hr, hd⟩
  have hB1 := hd.below
  clear hd i3 hn
  by_cases hbig : 100000 < r
  · clear hr
    go_wp2
    go_ret
    exact ⟨rfl, hB1⟩
  · have hsz : size9 ss ≤ 100000 := by omega
    have HS := Lib.hid hsz
    clear hr hsz
    go_wp2_with (first | (at_builtin; refine Stopped.out ?_) | (at_make; refine Stopped.out ?_))
    refine (NewWriter_any _).mono ?_
    rintro e w2 ⟨rfl, hw2, hb2⟩
    have hB2 := bthen hB1 hb2
    go_wp2_with (first | (at_builtin; refine Stopped.out ?_) | (at_make; refine Stopped.out ?_))
    have hw3 := hw2.below (one_below w2 (.cells #[.slice none 0 0, .int .i64 0] 66))
    have HI : Hid (Both9 W (w2.alloc (.cells #[.slice none 0 0, .int .i64 0] 66)) w1.heap.size w2.heap.size 0) := Lib.hid (by
      have h12 : w1.heap.size < w2.heap.size := hw2.lt
      refine ⟨⟨[w1.heap.size], [w2.heap.size], [], 0, hw3, ⟨⟨_, heap_alloc_new w2 _, World.ownsRow_nil .., fun k hk => by cases hk⟩, by simp, by simp⟩, ?_, ?_, by simp⟩, hB2.alloc hB2.size _⟩
      · intro x hx
        simp at hx
        have := hB1.size
        simp; omega
      · intro x hx
        simp at hx
        have := hB2.size
        omega)
    clear hw2 hw3 hb2 hB2
    go_loopw [5] (fun i wr => ∃ k : Nat, k ≤ n ∧ i = .int .i64 k ∧ Both9 W wr w1.heap.size w2.heap.size (20 * k + size9 (ss.take k))) (fun i _ => n - (intOf i).toNat)
    case atStart => exact ⟨0, by omega, rfl, by simpa [size9] using HI.out⟩
    case round =>
      obtain ⟨k, hk, rfl, hb9⟩ := hrel
      obtain ⟨⟨G, H, l, f, hg, hh, hGH, hHW, hlen⟩, hBw⟩ := hb9
      by_cases hlt : k < n
      · obtain ⟨b, off, rfl⟩ := h.sl.form (by omega)
        have hkl : k < ss.length := by rw [HL.out]; exact hlt
        obtain ⟨ba, bn, bc, la, ln, lc, g0, g1, g2, g3, g4, g5, s1, s2, h3, h4, h5⟩ := h.get k hkl
        have hszk := size9_take ss k hkl
        have hszl := size9_take_le ss (k + 1)
        have hS := HS.out
        have e1 : ss[k].b.length = bn := by simpa using s1.len
        have e2 : ss[k].ns.length = ln := by simpa using s2.len
        obtain ⟨s, hs⟩ : ∃ s, s = ss[k] := ⟨_, rfl⟩
        rw [← hs] at g0 g1 g4 g5 s1 s2 h5 e1 e2 hszk
        obtain ⟨kd, x, bs, ns, nn, most⟩ := s
        simp only at g0 g1 g4 g5 s1 s2 h5 e1 e2 hszk
        have hbn : bn ≤ 100000 := by omega
        have hln : ln ≤ 100000 := by omega
        have hnl : 20 * k + size9 (ss.take k) + (20 + bn + 10 * ln) = 20 * (k + 1) + size9 (ss.take (k + 1)) := by omega
        have hN : 20 * k + size9 (ss.take k) ≤ 200000 := by omega
        have HNL := Lib.hid hnl
        obtain ⟨N, hNN⟩ : ∃ N, N = 20 * k + size9 (ss.take k) := ⟨_, rfl⟩
        rw [← hNN] at hlen HNL hN
        have hba : ∀ ad, ba = some ad → 0 < bn → ad.block < W.heap.size := fun ad e h0 => by
          obtain ⟨b', off', rfl⟩ := s1.form h0
          obtain rfl := Option.some.inj e
          exact cell_lt (s1.byte 0 h0)
        have hla : ∀ ad, la = some ad → 0 < ln → ad.block < W.heap.size := fun ad e h0 => by
          obtain ⟨b', off', rfl⟩ := s2.form h0
          obtain rfl := Option.some.inj e
          exact cell_lt (s2.word 0 h0)
        have HG := Lib.hid (And.intro (And.intro g0 g1) (And.intro (And.intro g2 g3) (And.intro g4 g5)))
        have HE := Lib.hid (And.intro e1 e2)
        have k0 := cell_below g0 hBw; have k1 := cell_below g1 hBw; have k2 := cell_below g2 hBw; have k3 := cell_below g3 hBw; have k4 := cell_below g4 hBw; have k5 := cell_below g5 hBw
        have hk0 : (0 : Int) ≤ (k : Int) := Int.natCast_nonneg _
        have hk1 : (k : Int) < (n : Int) := by omega
        clear hs hNN hnl hszk hszl hS e1 e2 g0 g1 g2 g3 g4 g5 h3 h4
        go_wp2_with (first | (at_builtin; refine Stopped.out ?_) | (at_make; refine Stopped.out ?_))
        refine (write9 _ hg kd x nn most (s1.below hBw) (s2.below hBw) (fun ad e h0 hx => by have h6 := (hGH _ hx).2; have h7 := hba ad e h0; omega) (fun ad e h0 hx => by have h6 := (hGH _ hx).2; have h7 := hla ad e h0; omega) h5 hbn hln (by omega)).mono ?_
        clear k0 k1 k2 k3 k4 k5
        rintro e w3 ⟨rfl, hst3⟩
        obtain ⟨G3, hg3, hkp3, hG3⟩ := hst3.out
        have hh3 := hh.keep hkp3 (fun y hy hyG => (hGH y hyG).1 hy)
        have hB3 : Below W.heap.size W w3 := hkp3.below hBw hBw.size (fun y hy => (hGH y hy).2)
        have hGH3 : ∀ y ∈ G3, y ∉ H ∧ W.heap.size ≤ y := fun y hy => by
          rcases hG3 y hy with h6 | h6
          · exact hGH y h6
          · exact ⟨fun h7 => by have := hh.lts y h7; omega, Nat.le_trans hBw.size h6⟩
        obtain ⟨⟨g0, g1⟩, ⟨g2, g3⟩, g4, g5⟩ := HG.out
        have k0 := cell_below g0 hB3; have k1 := cell_below g1 hB3; have k2 := cell_below g2 hB3; have k3 := cell_below g3 hB3; have k4 := cell_below g4 hB3; have k5 := cell_below g5 hB3
        clear g0 g1 g2 g3 g4 g5 hst3 hkp3 hG3 hh hg hBw hGH
        go_wp2_with (first | (at_builtin; refine Stopped.out ?_) | (at_make; refine Stopped.out ?_))
        refine (tell9 _ hh3 kd x nn most (s1.below hB3) (s2.below hB3) (fun ad e h0 hx => by have h6 := hHW _ hx; have h7 := hba ad e h0; omega) (fun ad e h0 hx => by have h6 := hHW _ hx; have h7 := hla ad e h0; omega) h5 hbn hln (by omega)).mono ?_
        clear k0 k1 k2 k3 k4 k5
        rintro e w4 ⟨rfl, hst4⟩
        obtain ⟨H4, hh4, hkp4, hH4⟩ := hst4.out
        have hg4 := hg3.keep hkp4 (fun y hy => (hGH3 y hy).1)
        have hB4 : Below W.heap.size W w4 := hkp4.below hB3 hB3.size hHW
        have hGH4 : ∀ y ∈ G3, y ∉ H4 ∧ W.heap.size ≤ y := fun y hy => by
          refine ⟨fun h6 => ?_, (hGH3 y hy).2⟩
          rcases hH4 y h6 with h7 | h7
          · exact (hGH3 y hy).1 h7
          · have := hg3.lts y hy; omega
        have hHW4 : ∀ y ∈ H4, W.heap.size ≤ y := fun y hy => by
          rcases hH4 y hy with h7 | h7
          · exact hHW y h7
          · exact Nat.le_trans hB3.size h7
        have hl4 : (putL l (stepF kd bs ns most f) (stepB kd x bs ns)).length ≤ 20 * (k + 1) + size9 (ss.take (k + 1)) := by
          have h6 := putL_len l (stepB kd x bs ns) (stepF kd bs ns most f)
          have h7 := stepB_len kd x bs ns h5 (by rw [HE.out.1]; omega) (by rw [HE.out.2]; omega)
          rw [HE.out.1, HE.out.2] at h7
          rw [← HNL.out]; omega
        have hlb : (putL l (stepF kd bs ns most f) (stepB kd x bs ns)).length ≤ 140737488355000 := by
          have h6 := HNL.out; omega
        obtain ⟨l4, hl4e⟩ : ∃ l4, l4 = putL l (stepF kd bs ns most f) (stepB kd x bs ns) := ⟨_, rfl⟩
        obtain ⟨f4, hf4e⟩ : ∃ f4, f4 = stepF kd bs ns most f := ⟨_, rfl⟩
        rw [← hl4e] at hl4 hlb; rw [← hl4e, ← hf4e] at hg4 hh4
        have HB4 := Lib.hid hl4
        obtain ⟨⟨g0, _⟩, _⟩ := HG.out
        have k0 := cell_below g0 hB4
        clear g0 hst4 hkp4 hH4 hh3 hg3 hB3 hGH3 hHW hl4 hl4e hf4e HG HE HNL hba hla s1 s2 hlen
        by_cases h9 : kd = 9
        ·
          subst h9
          go_wp2_with (first | (at_builtin; refine Stopped.out ?_) | (at_make; refine Stopped.out ?_))
          refine (Done_any _ hg4 hlb).mono ?_
          rintro e w5 ⟨v5, rfl, o5, hb5⟩
          obtain ⟨A5, c5, rfl, s5, hA5⟩ := own_sl o5
          have hg5 := hg4.below hb5; have hh5 := hh4.below hb5
          have hB5 := bthen hB4 hb5
          have hgf : ∀ ad, A5 = some ad → W.heap.size ≤ ad.block ∧ ad.block ∉ G3 ∧ ad.block ∉ H4 := fun ad e => by
            have h6 := (hA5 ad e).1
            exact ⟨Nat.le_trans hB4.size h6, fun h7 => by have := hg4.lts _ h7; omega, fun h7 => by have := hh4.lts _ h7; omega⟩
          clear hg4 hh4 hb5 hA5 k0
          go_wp2_with (first | (at_builtin; refine Stopped.out ?_) | (at_make; refine Stopped.out ?_))
          refine (refDone _ hh5).mono ?_
          rintro e w6 ⟨A6, n6, c6, rfl, s6, hA6, hd6⟩
          have s56 := s5.below hd6.below; have s66 := s6.below hd6.below
          have o6 := own_below o5 hd6.below
          have hg6 := hg5.below hd6.below; have hh6 := hh5.below hd6.below
          have hB6 := bthen hB5 hd6.below
          have qf : ((f4 : Int) != f4) = false := by simp
          clear s5 s6 hd6 hg5 hh5 hB5 hA6
          have HO6 := Lib.hid o6
          clear o5 o6
          go_wp2_with (first | (at_builtin; refine Stopped.out ?_) | (at_make; refine Stopped.out ?_))
          refine (same09 _ s56 s66).mono ?_
          rintro e w7 ⟨rfl, hd7⟩
          rw [decide_eq_true rfl]
          have HO7 := Lib.hid (own_mono (own_below HO6.out hd7.below) (Nat.zero_le _))
          have hg7 := hg6.below hd7.below; have hh7 := hh6.below hd7.below
          have hB7 := bthen hB6 hd7.below
          clear s56 s66 HO6 hg6 hh6 hB6 hd7 qf
          obtain ⟨m, hm⟩ : ∃ m, m = (doneL l4 f4).length := ⟨_, rfl⟩
          have hmb : m ≤ 140737488355000 := by have := doneL_len l4 f4; omega
          rw [← hm] at HO7 ⊢
          clear hm
          go_wp2_with (first | (at_builtin; refine Stopped.out ?_) | (at_make; refine Stopped.out ?_))
          go_loopw [10] (fun i wr => ∃ (j : Nat) (xs : List Value), j ≤ m ∧ i = .int .i64 j ∧ wr.ownsRow 0 5 1 (.slice A5 m c5) m xs ∧ Ob 104 wr w1.heap.size G3 l4 f4 ∧ Ob 66 wr w2.heap.size H4 l4 f4 ∧ Below W.heap.size W wr) (fun i _ => m - (intOf i).toNat)
          case atStart => exact ⟨0, _, by omega, rfl, HO7.out, hg7, hh7, hB7⟩
          case round =>
            obtain ⟨j, xs, hj, rfl, hst, hgw, hhw, hBw⟩ := hrel
            by_cases hlt2 : j < m
            · obtain ⟨g, c', e, _⟩ := own_form hst (by omega)
              injection e with e1 e2 e3
              subst e1
              obtain ⟨hgW, hgG, hgH⟩ := hgf _ rfl
              simp only at hgW hgG hgH
              have hj0 : (0 : Int) ≤ (j : Int) := Int.natCast_nonneg _
              have hj1 : (j : Int) < (m : Int) := by omega
              obtain ⟨v0, hc0⟩ := own_cell hst j (by omega)
              have hf0 := hst.frozenAt j
              have HS := Lib.hid (hst.stored j (.int .u8 7)).1
              have kk : Keep [g] wr (wr.setCell ⟨g, j, none⟩ (.int .u8 7)) := (Keep.refl [g] wr).setCell (.inl (by simp)) _
              have HN := Lib.hid (And.intro (And.intro (hgw.keep kk (by intro y hy hy2; simp at hy2; exact hgG (hy2 ▸ hy))) (hhw.keep kk (by intro y hy hy2; simp at hy2; exact hgH (hy2 ▸ hy)))) (hBw.setCell hgW (p := ⟨g, j, none⟩) (.int .u8 7)))
              clear hst hgw hhw hBw kk
              go_wp2
              first | go_roundw | refine ⟨?rel, ?measure⟩
              case rel => exact ⟨j + 1, _, by omega, by go_num, HS.out, HN.out.1.1, HN.out.1.2, HN.out.2⟩
              case measure => simp [intOf]; omega
            · obtain rfl : j = m := by omega
              go_wp2_with (first | (at_builtin; refine Stopped.out ?_) | (at_make; refine Stopped.out ?_))
              first | go_roundw | refine ⟨?rel, ?measure⟩
              case rel => exact ⟨k + 1, by omega, by go_num, ⟨G3, H4, l4, f4, hgw, hhw, hGH4, hHW4, HB4.out⟩, hBw⟩
              case measure => simp [intOf]; omega
        · have q9 : (kd == 9) = false := by simpa using h9
          clear h9
          go_wp2_with (first | (at_builtin; refine Stopped.out ?_) | (at_make; refine Stopped.out ?_))
          first | go_roundw | refine ⟨?rel, ?measure⟩
          case rel => exact ⟨k + 1, by omega, by go_num, ⟨G3, H4, l4, f4, hg4, hh4, hGH4, hHW4, HB4.out⟩, hB4⟩
          case measure => simp [intOf]; omega
      · obtain rfl : k = n := by omega
        have hlb : l.length ≤ 140737488355000 := by have := HS.out; have := size9_take_le ss k; omega
        go_wp2_with (first | (at_builtin; refine Stopped.out ?_) | (at_make; refine Stopped.out ?_))
        refine (Done_any _ hg hlb).mono ?_
        rintro e w5 ⟨v5, rfl, o5, hb5⟩
        obtain ⟨A5, c5, rfl, s5, hA5⟩ := own_sl o5
        have hg5 := hg.below hb5; have hh5 := hh.below hb5
        have hB5 := bthen hBw hb5
        clear hg hh hb5 o5
        go_wp2_with (first | (at_builtin; refine Stopped.out ?_) | (at_make; refine Stopped.out ?_))
        refine (refDone _ hh5).mono ?_
        rintro e w6 ⟨A6, n6, c6, rfl, s6, hA6, hd6⟩
        have s56 := s5.below hd6.below; have s66 := s6.below hd6.below
        have hg6 := hg5.below hd6.below; have hh6 := hh5.below hd6.below
        have hB6 := bthen hB5 hd6.below
        have hA5' : ∀ ad, A5 = some ad → ad.block < w6.heap.size := fun ad e => Nat.lt_of_lt_of_le (hA5 ad e).2 hd6.below.size
        clear s5 s6 hd6 hg5 hh5 hB5 hA5
        go_wp2_with (first | (at_builtin; refine Stopped.out ?_) | (at_make; refine Stopped.out ?_))
        refine (Done_any _ hg6 hlb).mono ?_
        rintro e w7 ⟨v7, rfl, o7, hb7⟩
        obtain ⟨A7, c7, rfl, _, hA7⟩ := own_sl o7
        have s57 := s56.below hb7; have s67 := s66.below hb7
        have hB7 := bthen hB6 hb7
        have hd5 : ∀ ad, A5 = some ad → ∀ ae, A7 = some ae → ad.block ≠ ae.block := fun ad e ae e2 => by have h6 := hA5' ad e; have h7 := (hA7 ae e2).1; omega
        have hd6 : ∀ ad, A6 = some ad → ∀ ae, A7 = some ae → ad.block ≠ ae.block := fun ad e ae e2 => by have h6 := hh6.lts _ (hA6 ad e); have h7 := (hA7 ae e2).1; omega
        have hW7 : ∀ ae, A7 = some ae → W.heap.size ≤ ae.block := fun ae e2 => Nat.le_trans hB6.size (hA7 ae e2).1
        have HO7 := Lib.hid (own_mono o7 (Nat.zero_le _))
        clear s56 s66 hg6 hh6 hB6 hb7 hA7 hA5' hA6 o7
        obtain ⟨m, hm⟩ : ∃ m, m = (doneL l f).length := ⟨_, rfl⟩
        have hmb : m ≤ 140737488355000 := by have := doneL_len l f; omega
        rw [← hm] at HO7 s57 ⊢
        clear hm
        go_wp2_with (first | (at_builtin; refine Stopped.out ?_) | (at_make; refine Stopped.out ?_))
        go_loopw [17] (fun i wr => ∃ (j : Nat) (xs : List Value), j ≤ m ∧ i = .int .i64 j ∧ wr.ownsRow 0 5 1 (.slice A7 m c7) m xs ∧ Sl wr 1 A5 m c5 ((doneL l f).map by8) ∧ Sl wr 1 A6 n6 c6 ((doneL l f).map by8) ∧ Below W.heap.size W wr) (fun i _ => m - (intOf i).toNat)
        case atStart => exact ⟨0, _, by omega, rfl, HO7.out, s57, s67, hB7⟩
        case round =>
          obtain ⟨j, xs, hj, rfl, hst, hs5, hs6, hBw⟩ := hrel
          by_cases hlt2 : j < m
          · obtain ⟨g, c', e, _⟩ := own_form hst (by omega)
            injection e with e1 e2 e3
            subst e1
            have hgW := hW7 _ rfl
            simp only at hgW
            have hj0 : (0 : Int) ≤ (j : Int) := Int.natCast_nonneg _
            have hj1 : (j : Int) < (m : Int) := by omega
            obtain ⟨v0, hc0⟩ := own_cell hst j (by omega)
            have hf0 := hst.frozenAt j
            have HS := Lib.hid (hst.stored j (.int .u8 9)).1
            have kk : Keep [g] wr (wr.setCell ⟨g, j, none⟩ (.int .u8 9)) := (Keep.refl [g] wr).setCell (.inl (by simp)) _
            have HN := Lib.hid (And.intro (And.intro (hs5.keep kk (fun ad e => by have := hd5 ad e _ rfl; simpa using this)) (hs6.keep kk (fun ad e => by have := hd6 ad e _ rfl; simpa using this))) (hBw.setCell hgW (p := ⟨g, j, none⟩) (.int .u8 9)))
            clear hst hs5 hs6 hBw kk
            go_wp2
            first | go_roundw | refine ⟨?rel, ?measure⟩
            case rel => exact ⟨j + 1, _, by omega, by go_num, HS.out, HN.out.1.1, HN.out.1.2, HN.out.2⟩
            case measure => simp [intOf]; omega
          · obtain rfl : j = m := by omega
            have qf : ((f : Int) == f) = true := by simp
            go_wp2_with (first | (at_builtin; refine Stopped.out ?_) | (at_make; refine Stopped.out ?_))
            refine (same09 _ hs5 hs6).mono ?_
            rintro e w8 ⟨rfl, hd8⟩
            rw [decide_eq_true rfl]
            go_wp2
            go_ret
            exact ⟨by simp, bthen hBw hd8.below⟩
end Go.Proofs.Ytdooabbeolfgfaa
