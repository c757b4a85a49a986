import Derived.Test.YtdooabbeolfgfaaPl01i
set_option linter.unusedVariables false
set_option linter.unusedSimpArgs false
namespace Go.Proofs.Ytdooabbeolfgfaa
open Go.RowKit
set_option maxRecDepth 100000 in
set_option maxHeartbeats 3200000 in
theorem plays01 {W : World} (w : World) {p : Nat} {G : List Nat} {vs ws : List Value} {ls : List (List UInt8)} {N : Nat} (h : Shf W w p G vs ws ls N) (hN8 : 10000 ≤ N) (hN : N ≤ 100000000) (hn : vs.length ≤ 900000000) (kd : Int) (a l : Nat) (ha : a < 4294967296) (hl : l < 18446744073709551616) (n : Int) (h1 : -9223372036854775808 ≤ n) (h2 : n ≤ 9223372036854775807) (X Y P : Option Addr) (xn xc yn yc pn pc : Nat) (s : ByteArray) {x y : List UInt8} {vp : List Value} {ll : List (List UInt8)} (hXW : Sl W 1 X xn xc (x.map by8)) (hYW : Sl W 1 Y yn yc (y.map by8)) (hPW : Sls W P pn pc vp ll)
    (hxb : xn ≤ 140737488351232) (hyb : yn ≤ 140737488351232) (hsb : s.size ≤ 140737488351232) (hpb : pn ≤ 140737488351232) :
    Calls Try.prog 32 #[.pointer (some ⟨p, 0, none⟩), .agg (opC kd a l n X Y P xn xc yn yc pn pc s)] w fun e w' => e = .returned (.bool true) ∧ ∃ G' vs' ws' ls', Shf W w' p G' vs' ws' ls' N ∧ vs'.length ≤ vs.length + 4 := by
  unfold opC
  obtain ⟨W1, hW1⟩ : ∃ W1, W1 = w.alloc (.cells #[.int .i64 kd, .int .u32 a, .int .u64 l, .int .i64 n, .slice X xn xc, .slice Y yn yc, .slice P pn pc, .string s] 27) := ⟨_, rfl⟩
  have hb := heap_alloc_new w (.cells #[.int .i64 kd, .int .u32 a, .int .u64 l, .int .i64 n, .slice X xn xc, .slice Y yn yc, .slice P pn pc, .string s] 27)
  rw [← hW1] at hb
  have hB : Below w.heap.size w W1 := by rw [hW1]; exact (Below.refl _ _).alloc (Nat.le_refl _) _
  have d0 := box_cell hb 0 _ rfl
  have d1 := box_cell hb 1 _ rfl
  have d2 := box_cell hb 2 _ rfl
  have d3 := box_cell hb 3 _ rfl
  have d4 := box_cell hb 4 _ rfl
  have d5 := box_cell hb 5 _ rfl
  have d6 := box_cell hb 6 _ rfl
  have d7 := box_cell hb 7 _ rfl
  have hS := h.then_ hB
  have SM := Lib.hid (small01 W1 kd a l n X Y P xn xc yn yc pn pc s vp ll (hPW.below hS.below) hxb hyb hsb hpb)
  have H1 := Lib.hid (And.intro hb (And.intro hS (And.intro hXW (And.intro hYW hPW))))
  clear hb hB hS h hXW hYW hPW
  obtain ⟨ok, hok⟩ : ∃ ok, ok = decide (xn + yn + s.size + pn + ll.flatten.length ≤ 4096) := ⟨_, rfl⟩
  rw [← hok] at SM
  have HO := Lib.hid hok
  clear hok
  go_enter Try.func32, Try.ntmps32
  go_wp2_with (rw [← hW1])
  clear hW1
  refine SM.out.mono ?_
  rintro e w2 ⟨rfl, hb2⟩
  have b2 := heap_below H1.out.1 hb2
  clear d0 d1 d2 d3 d4 d5 d6 d7 SM
  have d0 := box_cell b2 0 _ rfl
  have d1 := box_cell b2 1 _ rfl
  have d2 := box_cell b2 2 _ rfl
  have d3 := box_cell b2 3 _ rfl
  have d4 := box_cell b2 4 _ rfl
  have d5 := box_cell b2 5 _ rfl
  have d6 := box_cell b2 6 _ rfl
  have d7 := box_cell b2 7 _ rfl
  have H2 := Lib.hid (H1.out.2.1.then_ hb2)
  clear b2 hb2
  cases ok with
  | false =>
    go_wp2_with fail
    go_ret
    exact ⟨rfl, _, _, _, _, H2.out, by omega⟩
  | true =>
  have hsm := of_decide_eq_true HO.out.symm
  have hxs : xn ≤ 4096 := by omega
  have hys : yn ≤ 4096 := by omega
  have hss : s.size ≤ 4096 := by omega
  have HSM := Lib.hid (show xn + yn + pn + ll.flatten.length ≤ 4096 by omega)
  clear hsm HO
  by_cases k1 : kd = 1
  · subst k1
    go_wp2_with fail
    refine (rots01 w2 1 a l ha hl n h1 h2 X Y P xn xc yn yc pn pc s).mono ?_
    rintro e w3 ⟨rfl, hb3⟩
    have H3 := Lib.hid (H2.out.then_ hb3)
    clear hb3
    go_wp2_with fail
    go_ret
    exact ⟨rfl, _, _, _, _, H3.out, by omega⟩
  by_cases k2 : kd = 2
  · subst k2
    go_wp2_with fail
    refine (loads01 w2 2 a l n h2 X Y P xn xc yn yc pn pc s (H1.out.2.2.1.below H2.out.below) hxs).mono ?_
    rintro e w3 ⟨rfl, hb3⟩
    have H3 := Lib.hid (H2.out.then_ hb3)
    clear hb3
    go_wp2_with fail
    go_ret
    exact ⟨rfl, _, _, _, _, H3.out, by omega⟩
  by_cases k3 : kd = 3
  · subst k3
    go_wp2_with fail
    refine (stores01 w2 H2.out (by omega) hN hn 3 a l ha hl n X Y P xn xc yn yc pn pc s).mono ?_
    rintro e w3 ⟨rfl, G3, vs3, ws3, ls3, hS3, hv3, _⟩
    have H3 := Lib.hid (And.intro hS3 hv3)
    clear hS3 hv3
    go_wp2_with fail
    go_ret
    exact ⟨rfl, _, _, _, _, H3.out.1, H3.out.2⟩
  by_cases k4 : kd = 4
  · subst k4
    go_wp2_with fail
    refine (pairs01 w2 H2.out hN8 hN hn 4 a l n X Y P xn xc yn yc pn pc s H1.out.2.2.1 hxs H1.out.2.2.2.1 hys).mono ?_
    rintro e w3 ⟨rfl, G3, vs3, ws3, ls3, hS3, hv3⟩
    have H3 := Lib.hid (And.intro hS3 hv3)
    clear hS3 hv3
    go_wp2_with fail
    go_ret
    exact ⟨rfl, _, _, _, _, H3.out.1, H3.out.2⟩
  by_cases k5 : kd = 5
  · subst k5
    go_wp2_with fail
    refine (joins01 w2 H2.out hN8 hN hn 5 a l n X Y P xn xc yn yc pn pc s H1.out.2.2.1 H1.out.2.2.2.1 H1.out.2.2.2.2 HSM.out).mono ?_
    rintro e w3 ⟨rfl, G3, vs3, ws3, ls3, hS3, hv3⟩
    have H3 := Lib.hid (And.intro hS3 hv3)
    clear hS3 hv3
    go_wp2_with fail
    go_ret
    exact ⟨rfl, _, _, _, _, H3.out.1, H3.out.2⟩
  by_cases k6 : kd = 6
  · subst k6
    go_wp2_with fail
    refine (hexes01 w2 H2.out hN8 hN hn 6 a l n X Y P xn xc yn yc pn pc s (H1.out.2.2.1.below H2.out.below) hxs hss).mono ?_
    rintro e w3 ⟨rfl, G3, vs3, ws3, ls3, hS3, hv3⟩
    have H3 := Lib.hid (And.intro hS3 hv3)
    clear hS3 hv3
    go_wp2_with fail
    go_ret
    exact ⟨rfl, _, _, _, _, H3.out.1, H3.out.2⟩
  have q1 : (kd == 1) = false := by simpa using k1
  have q2 : (kd == 2) = false := by simpa using k2
  have q3 : (kd == 3) = false := by simpa using k3
  have q4 : (kd == 4) = false := by simpa using k4
  have q5 : (kd == 5) = false := by simpa using k5
  have q6 : (kd == 6) = false := by simpa using k6
  clear k1 k2 k3 k4 k5 k6
  go_wp2_with fail
  go_ret
  exact ⟨rfl, _, _, _, _, H2.out, by omega⟩
end Go.Proofs.Ytdooabbeolfgfaa
