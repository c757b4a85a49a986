import Derived.Test.YtdooabbeolfgfaaPl01d
set_option linter.unusedVariables false
set_option linter.unusedSimpArgs false
namespace Go.Proofs.Ytdooabbeolfgfaa
open Go.RowKit
theorem unhexTot {w w' : World} {l : List UInt8} {e : Ending} (h : UnhexPost w l e w') : ∃ v, e = .returned (.tuple #[v, .bool (unhexOf l).isSome]) ∧ w'.ownsRow w.heap.size 5 1 v ((unhexOf l).getD []).length (((unhexOf l).getD []).map by8) ∧ Below w.heap.size w w' := by
  obtain ⟨hb, ⟨h1, h2⟩ | ⟨o, v, h1, h2, h3⟩⟩ := h
  · exact ⟨_, by rw [h2, h1]; rfl, by rw [h1]; exact World.ownsRow_nil .., hb⟩
  · exact ⟨v, by rw [h2, h1]; rfl, by rw [h1]; exact h3, hb⟩
theorem unhexOf_len (l : List UInt8) : ((unhexOf l).getD []).length ≤ l.length := by
  unfold unhexOf
  split
  · cases h : unhexK l (l.length / 2) with
    | none => simp
    | some o => simp [unhexK_len l _ o h]; omega
  · simp
set_option maxRecDepth 100000 in
set_option maxHeartbeats 3200000 in
theorem hexes01 {W : World} (w : World) {p : Nat} {G : List Nat} {vs ws : List Value} {ls : List (List UInt8)} {N : Nat} (h : Shf W w p G vs ws ls N) (hN8 : 10000 ≤ N) (hN : N ≤ 100000000) (hn : vs.length ≤ 900000000) (kd : Int) (a l : Nat) (n : Int) (X Y P : Option Addr) (xn xc yn yc pn pc : Nat) (s : ByteArray) {x : List UInt8} (hx : Sl w 1 X xn xc (x.map by8)) (hxn : xn ≤ 4096) (hs : s.size ≤ 4096) :
    Calls Try.prog 75 #[.pointer (some ⟨p, 0, none⟩), .agg (opC kd a l n X Y P xn xc yn yc pn pc s)] w fun e w' => e = .returned (.bool true) ∧ ∃ G' vs' ws' ls', Shf W w' p G' vs' ws' ls' N ∧ vs'.length ≤ vs.length + 4 := by
  unfold opC
  obtain ⟨W1, hW1⟩ : ∃ W1, W1 = w.alloc (.cells #[.int .i64 kd, .int .u32 a, .int .u64 l, .int .i64 n, .slice X xn xc, .slice Y yn yc, .slice P pn pc, .string s] 27) := ⟨_, rfl⟩
  have hb := heap_alloc_new w (.cells #[.int .i64 kd, .int .u32 a, .int .u64 l, .int .i64 n, .slice X xn xc, .slice Y yn yc, .slice P pn pc, .string s] 27)
  rw [← hW1] at hb
  have hB : Below w.heap.size w W1 := by rw [hW1]; exact (Below.refl _ _).alloc (Nat.le_refl _) _
  have hz : w.heap.size ∉ G := fun hx => Nat.lt_irrefl _ (h.lts _ hx)
  have hGl := h.lts
  have d4 := box_cell hb 4 _ rfl
  have hxl : x.length = xn := by simpa using hx.len
  have hzl : w.heap.size < W1.heap.size := lt_of_block hb
  have hWw := h.below.size
  have H1 := Lib.hid (And.intro hb (And.intro (h.then_ hB) (And.intro (hx.below hB) (And.intro hxl (And.intro hz (And.intro hzl (And.intro hGl hWw)))))))
  have hsl := unhexOf_len s.data.toList
  have hsl2 : s.data.toList.length = s.size := rfl
  have HU := Lib.hid (fun w : World => And.intro ((Unhex_any w s (by omega)).mono (fun e w' => unhexTot)) ((refUnhex w s (by omega)).mono (fun e w' => unhexTot)))
  obtain ⟨D, hD⟩ : ∃ D, D = (unhexOf s.data.toList).getD [] := ⟨_, rfl⟩
  obtain ⟨ok, hok⟩ : ∃ ok, ok = (unhexOf s.data.toList).isSome := ⟨_, rfl⟩
  rw [← hD] at hsl
  simp only [← hD, ← hok] at HU
  obtain ⟨m, hm⟩ : ∃ m, m = D.length := ⟨_, rfl⟩
  simp only [← hm] at HU
  have HM := Lib.hid (And.intro hm (show D.length ≤ N by omega))
  clear hb hB hx hxl hz hzl h hGl hD hok hm hsl hsl2 hWw
  go_enter Try.func75, Try.ntmps75
  go_wp2_with (rw [← hW1])
  clear hW1
  refine (roomy01 _ H1.out.2.2.1 (by omega)).mono ?_
  rintro e w2 ⟨v, rfl, o2, hb2⟩
  obtain ⟨g, c2, rfl, hg1, hg2, hc2⟩ := own_form o2 (by omega)
  have b2 := heap_below H1.out.1 hb2
  have e4 := box_cell b2 4 (.slice X xn xc) rfl
  have sF := (own_sl' o2).2.1
  have sb := sF.preL (m := xn) (by omega)
  rw [room_pre x xn H1.out.2.2.2.1] at sb
  have sX := H1.out.2.2.1.below hb2
  obtain ⟨st, hst⟩ : ∃ st : ByteArray, st = ⟨(hexL x).toArray⟩ := ⟨_, rfl⟩
  have HH := Lib.hid (fun (w' : World) (k : Below w2.heap.size w2 w') => And.intro (Hex_any w' (sb.below k) (by omega)) (And.intro (refHex w' (sX.below k) (by omega)) (still01 w' (sF.below k) (sX.below k) (by omega))))
  simp only [← hst] at HH
  have H2 := Lib.hid (And.intro b2 (And.intro o2 (And.intro (H1.out.2.1.then_ hb2) hb2)))
  have xc0 : (0 : Int) ≤ (xn : Int) := Int.natCast_nonneg _
  have xc1 : (xn : Int) ≤ (c2 : Int) := by omega
  clear d4 b2 o2 hb2 sF sb sX hst
  go_wp2_with fail
  go_region_held3 (fun w' => w'.cell? ⟨w.heap.size, 4, none⟩ = some (.slice X xn xc))
    (first | exact F3 | exact F2 | exact F1 | go_keep)
    (first
      | (go_at_call 129; refine ((HH.out _ k4).2.2).mono ?_; rintro e w5 ⟨rfl, hb5⟩; have F3 := cell_below F2 hb5; have k5 := bthen k4 hb5)
      | (go_at_call 138; refine ((HH.out _ k3).2.1).mono ?_; rintro e w4 ⟨rfl, hd4⟩; have F2 := cell_below F1 hd4.below; have k4 := bthen k3 hd4.below)
      | (go_at_call 31; refine ((HH.out w2.drew ((Below.refl _ w2).drew)).1).mono ?_; rintro e w3 ⟨rfl, hb3⟩; have F1 := cell_below (w := w2.drew) e4 hb3; have k3 : Below w2.heap.size w2 w3 := bthen ((Below.refl _ w2).drew) hb3))
  have b5 := heap_below H2.out.1 k5
  have e7 := box_cell b5 7 (.string s) rfl
  have H5 := Lib.hid (And.intro b5 (And.intro (own_below H2.out.2.1 k5) (And.intro (H2.out.2.2.1.then_ k5) (And.intro (Nat.le_trans H2.out.2.2.2.size k5.size) k5))))
  clear b5 k3 k4 k5 hb3 hd4 hb5 F1 F2 F3 e4
  go_wp2_with fail
  refine ((HU.out w5).1).mono ?_
  rintro e w6 ⟨u, rfl, o6, hb6⟩
  have e7' := cell_below e7 hb6
  clear e7
  go_wp2_with fail
  refine ((HU.out w6).2).mono ?_
  rintro e w7 ⟨u2, rfl, o7, hb7⟩
  have hP := putNew H5.out.2.2.1 hb6 hb7 HM.out.1.symm o6 o7 HM.out.2 hN (by omega)
  have hb57 := bthen hb6 hb7
  have HP := Lib.hid (And.intro hP hb57)
  clear hP o6 o7 hb6 hb7 hb57 e7'
  go_wp2_with fail
  refine HP.out.1.mono ?_
  rintro e w8 ⟨rfl, G1, vs1, ws1, ls1, hS8, hv8, hK8, hG8⟩
  have hgW : W1.heap.size ≤ g := hg1
  have hgG : g ∉ G := fun hx => by have := H1.out.2.2.2.2.2.2.1 _ hx; have := H1.out.2.2.2.2.2.1; omega
  have b8 := hK8.heap H5.out.1 H1.out.2.2.2.2.1
  have o8 := hK8.own H5.out.2.1 (fun b hb hx => by have : g = b := Option.some.inj hb; subst this; exact hgG hx)
  have e8 := box_cell b8 4 (.slice X xn xc) rfl
  have hg8 : g ∉ G1 := fun hx => (hG8 _ hx).elim hgG (fun h5 => by have := H5.out.2.2.2.2.size; omega)
  have H8 := Lib.hid (And.intro o8 (And.intro b8 (And.intro hS8 (And.intro hv8 hg8))))
  clear o8 b8 hS8 hv8 hK8 hG8 hgG hg8 HP
  go_wp2_with fail
  refine (turn01 w8 H8.out.1 0 xn c2 (by omega) (by omega) (own_sl' H8.out.1).2.1.max).mono ?_
  rintro e w9 ⟨rfl, L', hL', o9, k9⟩
  have b9 := k9.heap H8.out.2.1 (by simp; have := H1.out.2.2.2.2.2.1; omega)
  have e9 := box_cell b9 4 (.slice X xn xc) rfl
  have s9 := ((own_sl' o9).2.1).preL (m := xn) (by omega)
  have hS9 := H8.out.2.2.1.keep k9 (fun y hy hx => by simp at hx; subst hx; exact H8.out.2.2.2.2 hy) (fun y hy => by simp at hy; have := H1.out.2.2.2.2.2.1; have := H1.out.2.2.2.2.2.2.2; omega)
  have H9 := Lib.hid (And.intro s9 (And.intro b9 hS9))
  clear o9 k9 b9 s9 hS9 e8
  go_wp2_with fail
  refine (copied01 w9 H9.out.1 (by omega)).mono ?_
  rintro e wa ⟨va, rfl, oa, hba⟩
  obtain ⟨Aa, ca, rfl, sa, _⟩ := own_sl oa
  have ea := cell_below e9 hba
  have sb9 := H9.out.1.below hba
  obtain ⟨st2, hst2⟩ : ∃ st : ByteArray, st = ⟨(hexL (L'.take xn)).toArray⟩ := ⟨_, rfl⟩
  have HH2 := Lib.hid (fun (w' : World) (k : Below wa.heap.size wa w') => And.intro (Hex_any w' (sb9.below k) (by omega)) (And.intro (refHex w' (sa.below k) (by omega)) (same01 w' (sb9.below k) (sa.below k))))
  simp only [← hst2, decide_eq_true] at HH2
  have HA := Lib.hid (H9.out.2.2.then_ hba)
  clear oa sa sb9 hba hst2 e9
  go_wp2_with fail
  refine ((HH2.out wa (Below.refl _ wa)).1).mono ?_
  rintro e x3 ⟨rfl, m3⟩
  have E1 := cell_below ea m3
  go_wp2_with fail
  refine ((HH2.out _ m3).2.1).mono ?_
  rintro e x4 ⟨rfl, hd4⟩
  have E2 := cell_below E1 hd4.below
  have m4 := bthen m3 hd4.below
  go_wp2_with fail
  refine ((HH2.out _ m4).2.2).mono ?_
  rintro e x5 ⟨rfl, hd5⟩
  have m5 := bthen m4 hd5.below
  have HF := Lib.hid (HA.out.then_ m5)
  have HV := Lib.hid (show vs1.length ≤ vs.length + 4 by have := H8.out.2.2.2.1; omega)
  clear E1 E2 m3 m4 m5 hd4 hd5 ea
  go_wp2
  go_ret
  exact ⟨by first | rfl | simp, _, _, _, _, HF.out, HV.out⟩
end Go.Proofs.Ytdooabbeolfgfaa
