import Derived.Test.YtpjmbhhfpoamnaaJn5
import Derived.BigRegion
set_option linter.unusedVariables false
set_option linter.unusedSimpArgs false
namespace Go.Proofs.Ytpjmbhhfpoamnaa
open Go.RowKit
/-- compact, as a function -/
def jcmpF (j : JSt) (s : FSt) (sn : List UInt8) (more : Nat) : JSt × FSt × Nat :=
  if j.dead then (j, s, 121) else if j.epoch = 9223372036854775807 then (j, s, if 262132 < sn.length then 1 else 3) else
  if 262132 < sn.length then (j, s, 1) else if j.used + jroom j s < sn.length + 22 + more then (j, s, 122) else
  if (clrF s (1 - j.bank)).2 ≠ 0 then ({ j with dead := decide ((clrF s (1 - j.bank)).2 = 121) }, (clrF s (1 - j.bank)).1, (clrF s (1 - j.bank)).2) else
  if (appF (clrF s (1 - j.bank)).1 ((1 - j.bank : Nat) : Int) (frB 72 (hdrP (j.epoch + 1) 0 sn))).2 ≠ 0 then ({ j with dead := decide ((appF (clrF s (1 - j.bank)).1 ((1 - j.bank : Nat) : Int) (frB 72 (hdrP (j.epoch + 1) 0 sn))).2 = 121) }, (appF (clrF s (1 - j.bank)).1 ((1 - j.bank : Nat) : Int) (frB 72 (hdrP (j.epoch + 1) 0 sn))).1, (appF (clrF s (1 - j.bank)).1 ((1 - j.bank : Nat) : Int) (frB 72 (hdrP (j.epoch + 1) 0 sn))).2) else
  ({ bank := 1 - j.bank, epoch := j.epoch + 1, count := 0, used := sn.length + 22, dead := false }, (appF (clrF s (1 - j.bank)).1 ((1 - j.bank : Nat) : Int) (frB 72 (hdrP (j.epoch + 1) 0 sn))).1, 0)
/-- a journal and its flash between two calls, since the world w0 -/
structure JF (w0 w : World) (q p : Nat) (G G' : List Nat) (j : JSt) (s : FSt) : Prop where
  fl : Fl w p G' s
  jo : Jo w q p j
  qG : q ∉ G'
  keep : Keep (q :: G) w0 w
  out : ∀ x ∈ G', x ∈ G ∨ w0.heap.size ≤ x
  q0 : q < w0.heap.size
theorem JF.start {w : World} {q p : Nat} {G : List Nat} {j : JSt} {s : FSt} (h : Fl w p G s) (hj : Jo w q p j) (hq : q ∉ G) : JF w w q p G G j s := ⟨h, hj, hq, Keep.refl _ _, fun x hx => .inl hx, (Array.getElem?_eq_some_iff.1 hj).1⟩
theorem JF.below {w0 w w' : World} {q p : Nat} {G G' : List Nat} {j : JSt} {s : FSt} (h : JF w0 w q p G G' j s) (k : Below w.heap.size w w') : JF w0 w' q p G G' j s := ⟨h.fl.below k, h.jo.below k, h.qG, h.keep.trans (Keep.of_below k _), h.out, h.q0⟩
theorem JF.step {w0 w w' : World} {q p : Nat} {G G' : List Nat} {j : JSt} {s s2 : FSt} (h : JF w0 w q p G G' j s) (k : FStep w w' p G' s2) : ∃ G2, JF w0 w' q p G G2 j s2 := by
  obtain ⟨G2, f2, k2, g2⟩ := k.out
  have hs := h.keep.size
  refine ⟨G2, f2, h.jo.keep k2 h.qG, fun hx => ?_, h.keep.trans' k2 (fun x hx => (h.out x hx).imp (fun h1 => List.mem_cons_of_mem _ h1) id), fun x hx => ?_, h.q0⟩
  · rcases g2 q hx with h1 | h1
    · exact h.qG h1
    · have := h.q0; omega
  · rcases g2 x hx with h1 | h1
    · exact h.out x h1
    · exact .inr (Nat.le_trans hs h1)
theorem JF.write {w0 w w' : World} {q p : Nat} {G G' : List Nat} {j j' : JSt} {s : FSt} (h : JF w0 w q p G G' j s) (hj : Jo w' q p j') (k : Keep [q] w w') : JF w0 w' q p G G' j' s :=
  ⟨h.fl.keep k (fun x hx hm => by obtain rfl := List.mem_singleton.1 hm; exact h.qG hx), hj, h.qG, h.keep.trans (k.mono (fun x hx => by simp at hx; simp [hx])), h.out, h.q0⟩
theorem JF.done {w0 w : World} {q p : Nat} {G G' : List Nat} {j : JSt} {s : FSt} (h : JF w0 w q p G G' j s) : JStep w0 w q p G j s := ⟨G', h.fl, h.jo, h.keep, h.out⟩
theorem JStep.ahead {w w1 w' : World} {q p : Nat} {G : List Nat} {j : JSt} {s : FSt} (k : Below w.heap.size w w1) (h : JStep w1 w' q p G j s) : JStep w w' q p G j s := by
  obtain ⟨G', h1, h2, h3, h4⟩ := h.out
  exact ⟨G', h1, h2, (Keep.of_below k _).trans h3, fun x hx => (h4 x hx).imp id (Nat.le_trans k.size)⟩
theorem jroom_le {j : JSt} {s : FSt} (h : s.size ≤ 1048576) : jroom j s ≤ 1048576 := by
  unfold jroom
  split
  · omega
  · split <;> omega
set_option maxRecDepth 100000 in
set_option maxHeartbeats 3200000 in
theorem jcompact_any (w : World) {q p : Nat} {G : List Nat} {j : JSt} {s : FSt} {N : Nat} (hj : Jo w q p j) (h : Fl w p G s) (hqG : q ∉ G) (hk : FOkN N s) (hN : N ≤ 4611686018427387900) (hb : j.bank ≤ 1) (he : j.epoch ≤ 9223372036854775807) (hu : j.used ≤ 4611686018427387904) {A : Option Addr} {n c : Nat} {l : List UInt8} (hs : Sl w 1 A n c (l.map by8)) (hn : n ≤ 140737488351232) (more : Nat) (hm : more ≤ 1000000) :
    Calls Try.prog 109 #[.pointer (some ⟨q, 0, none⟩), .slice A n c, .int .i64 more] w fun e w' => e = .returned (.int .i64 ((jcmpF j s l more).2.2 : Nat)) ∧ JStep w w' q p G (jcmpF j s l more).1 (jcmpF j s l more).2.1 := by
  have hl : l.length = n := by simpa using hs.len
  have hj2 := hj
  unfold Jo jCells fI at hj2
  have c5 : w.cell? ⟨q, 5, none⟩ = some (.bool j.dead) := box_cell hj2 5 _ rfl
  have c2 : w.cell? ⟨q, 2, none⟩ = some (.int .i64 j.epoch) := box_cell hj2 2 _ rfl
  have HJ := Lib.hid hj; have HF := Lib.hid h; have HK := Lib.hid hk
  have HL := Lib.hid hl
  clear hj2
  by_cases hd : j.dead = true
  · have HC : Hid (jcmpF j s l more = (j, s, 121)) := Lib.hid (by rw [jcmpF, if_pos hd])
    rw [hd] at c5
    clear hd hj h hk hs hl c2
    go_enter Try.func109, Try.ntmps109
    go_wp2
    go_ret
    rw [HC.out]
    exact ⟨rfl, JStep.of_below HJ.out HF.out (Below.refl _ _)⟩
  have hd0 : j.dead = false := by simpa using hd
  by_cases hmx : j.epoch = 9223372036854775807
  · have HC : Hid (jcmpF j s l more = (j, s, if 262132 < n then 1 else 3)) := Lib.hid (by rw [jcmpF, if_neg hd, if_pos hmx, hl])
    have HH := Lib.hid (header_any w 1 0 (by omega) (by omega) hs hn)
    rw [hd0] at c5
    rw [hmx] at c2
    clear hd hd0 hj h hk hs hl
    go_enter Try.func109, Try.ntmps109
    go_wp2_with fail
    refine HH.out.mono ?_
    rintro e w1 ⟨⟨h1, g, rfl, -⟩ | ⟨h1, rfl⟩, hb1⟩
    · clear HH c2 c5
      go_wp2
      go_ret
      rw [HC.out, if_neg (by omega)]
      exact ⟨rfl, JStep.of_below HJ.out HF.out hb1⟩
    · clear HH c2 c5
      go_wp2
      go_ret
      rw [HC.out, if_pos h1]
      exact ⟨rfl, JStep.of_below HJ.out HF.out hb1⟩
  have qe : ((j.epoch : Int) == 9223372036854775807) = false := by simp; omega
  have HH : Hid (Calls Try.prog 106 #[.int .i64 ((j.epoch : Int) + 1), .int .i64 0, .slice A n c] w fun r w' => ((n ≤ 262132 ∧ ∃ g, r = .returned (.tuple #[.slice (some ⟨g, 0, none⟩) (n + 22) (n + 22), .bool true]) ∧ w'.ownsRow w.heap.size 5 1 (.slice (some ⟨g, 0, none⟩) (n + 22) (n + 22)) (n + 22) ((frB 72 (hdrP (j.epoch + 1) 0 l)).map by8)) ∨ (262132 < n ∧ r = .returned (.tuple #[.slice none 0 0, .bool false]))) ∧ Below w.heap.size w w') := Lib.hid (header_any w (j.epoch + 1) 0 (by omega) (by omega) hs hn)
  have he2 : (j.epoch : Int) ≤ 9223372036854775806 := by omega
  rw [hd0] at c5
  by_cases hbig : 262132 < n
  · have HC : Hid (jcmpF j s l more = (j, s, 1)) := Lib.hid (by rw [jcmpF, if_neg hd, if_neg hmx, if_pos (by rw [hl]; exact hbig)])
    clear hd hd0 hj h hk hs hl hmx
    go_enter Try.func109, Try.ntmps109
    go_wp2_with fail
    refine HH.out.mono ?_
    rintro e w1 ⟨⟨h1, g, rfl, -⟩ | ⟨h1, rfl⟩, hb1⟩
    · omega
    · clear HH c2 c5
      go_wp2
      go_ret
      rw [HC.out]
      exact ⟨rfl, JStep.of_below HJ.out HF.out hb1⟩
  have HR : Hid (∀ w1, Below w.heap.size w w1 → Calls Try.prog 62 #[.pointer (some ⟨q, 0, none⟩)] w1 fun e w' => e = .returned (.int .i64 (jroom j s : Nat)) ∧ Below w1.heap.size w1 w') := Lib.hid fun w1 k => JRoom_any w1 (hj.below k) (h.below k) (hk.ok (by omega)) hb
  have hR0 := jroom_le (j := j) hk.size
  obtain ⟨R, hRe⟩ : ∃ R, R = jroom j s := ⟨_, rfl⟩
  rw [← hRe] at HR hR0
  have HRe := Lib.hid hRe
  have hn2 : n ≤ 262132 := by omega
  have HQ := Lib.hid (And.intro hqG (And.intro hb hN))
  have HC1 : Hid (jcmpF j s l more = if j.used + R < n + 22 + more then (j, s, 122) else
    if (clrF s (1 - j.bank)).2 ≠ 0 then ({ j with dead := decide ((clrF s (1 - j.bank)).2 = 121) }, (clrF s (1 - j.bank)).1, (clrF s (1 - j.bank)).2) else
    if (appF (clrF s (1 - j.bank)).1 ((1 - j.bank : Nat) : Int) (frB 72 (hdrP (j.epoch + 1) 0 l))).2 ≠ 0 then ({ j with dead := decide ((appF (clrF s (1 - j.bank)).1 ((1 - j.bank : Nat) : Int) (frB 72 (hdrP (j.epoch + 1) 0 l))).2 = 121) }, (appF (clrF s (1 - j.bank)).1 ((1 - j.bank : Nat) : Int) (frB 72 (hdrP (j.epoch + 1) 0 l))).1, (appF (clrF s (1 - j.bank)).1 ((1 - j.bank : Nat) : Int) (frB 72 (hdrP (j.epoch + 1) 0 l))).2) else
    ({ bank := 1 - j.bank, epoch := j.epoch + 1, count := 0, used := n + 22, dead := false }, (appF (clrF s (1 - j.bank)).1 ((1 - j.bank : Nat) : Int) (frB 72 (hdrP (j.epoch + 1) 0 l))).1, 0)) := Lib.hid (by
      rw [jcmpF, if_neg hd, if_neg hmx, if_neg (by rw [hl]; exact hbig), hl, ← hRe])
  clear hd hd0 hj h hk hs hl hmx hbig hqG hRe hN hn
  go_enter Try.func109, Try.ntmps109
  go_wp2_with fail
  refine HH.out.mono ?_
  rintro e w1 ⟨⟨-, g, rfl, o1⟩ | ⟨h1, rfl⟩, hb1⟩
  rotate_left
  · omega
  clear HH c2 c5
  have j1 := HJ.out.below hb1
  have hj2 := j1
  unfold Jo jCells fI at hj2
  have c4 : w1.cell? ⟨q, 4, none⟩ = some (.int .i64 j.used) := box_cell hj2 4 _ rfl
  have hg2 := o1.lt g rfl
  have HG := Lib.hid (And.intro (show g ∉ G from fun hx => by have := HF.out.lts g hx; omega) (And.intro hg2 o1))
  have HB1 := Lib.hid hb1
  have HJ1 := Lib.hid j1
  clear hj2 hg2 o1 hb1 j1
  go_wp2_with fail
  refine wp_region_held_drew (S := (fun w' => w'.cell? ⟨q, 4, none⟩ = some (.int .i64 j.used))) (by kernel_rfl) (by (first | exact cell_below c4 kk2 | exact c4)) (fun hHeld => ?_)
  refine wpAnyH_take (i := 0) (v := ?_) (by simp only [List.getElem?_toArray, List.getElem?_cons_succ, List.getElem?_cons_zero]; rfl) (by kernel_rfl) (by kernel_rfl) (by kernel_rfl) (by exact fun _ _ _ h => h) (Or.inl ⟨by rfl, ?_⟩) (by assumption) ?_
  rotate_left
  · (intro w hSw; (try dsimp only at hSw); go_simp; try with_reducible rfl)
  try simp only [Act.put, List.setIfInBounds_toArray, List.set_cons_zero, List.set_cons_succ]
  refine wpAnyH_take (i := 1) (v := ?_) (by simp only [List.getElem?_toArray, List.getElem?_cons_succ, List.getElem?_cons_zero]; rfl) (by kernel_rfl) (by kernel_rfl) (by kernel_rfl) (by exact fun _ _ _ h => h) (Or.inl ⟨by rfl, ?_⟩) (by assumption) ?_
  rotate_left
  · (intro w hSw; (try dsimp only at hSw); go_simp; try with_reducible rfl)
  try simp only [Act.put, List.setIfInBounds_toArray, List.set_cons_zero, List.set_cons_succ]
  refine wpAnyH_take (i := 2) (v := ?_) (by simp only [List.getElem?_toArray, List.getElem?_cons_succ, List.getElem?_cons_zero]; rfl) (by kernel_rfl) (by kernel_rfl) (by kernel_rfl) (by exact fun _ _ _ h => h) (Or.inl ⟨by rfl, ?_⟩) (by assumption) ?_
  rotate_left
  · (intro w hSw; (try dsimp only at hSw); go_simp; try with_reducible rfl)
  try simp only [Act.put, List.setIfInBounds_toArray, List.set_cons_zero, List.set_cons_succ]
  refine wpAnyH_take (i := 3) (v := ?_) (by simp only [List.getElem?_toArray, List.getElem?_cons_succ, List.getElem?_cons_zero]; rfl) (by kernel_rfl) (by kernel_rfl) (by kernel_rfl) (by exact fun _ _ _ h => h) (Or.inl ⟨by rfl, ?_⟩) (by assumption) ?_
  rotate_left
  · (intro w hSw; (try dsimp only at hSw); go_simp; try with_reducible rfl)
  try simp only [Act.put, List.setIfInBounds_toArray, List.set_cons_zero, List.set_cons_succ]
  refine wpAnyH_take (i := 4) (v := ?_) (by simp only [List.getElem?_toArray, List.getElem?_cons_succ, List.getElem?_cons_zero]; rfl) (by kernel_rfl) (by kernel_rfl) (by kernel_rfl) (by exact fun _ _ _ h => h) (Or.inl ⟨by rfl, ?_⟩) (by assumption) ?_
  rotate_left
  · (intro w hSw; (try dsimp only at hSw); go_simp; try with_reducible rfl)
  try simp only [Act.put, List.setIfInBounds_toArray, List.set_cons_zero, List.set_cons_succ]
  refine wpAnyH_take (i := 5) (v := ?_) (by simp only [List.getElem?_toArray, List.getElem?_cons_succ, List.getElem?_cons_zero]; rfl) (by kernel_rfl) (by kernel_rfl) (by kernel_rfl) (by exact fun _ _ _ h => h) (Or.inl ⟨by rfl, ?_⟩) (by assumption) ?_
  rotate_left
  · (intro w hSw; (try dsimp only at hSw); go_simp; try with_reducible rfl)
  try simp only [Act.put, List.setIfInBounds_toArray, List.set_cons_zero, List.set_cons_succ]
  refine wpAnyH_take (i := 6) (v := ?_) (by simp only [List.getElem?_toArray, List.getElem?_cons_succ, List.getElem?_cons_zero]; rfl) (by kernel_rfl) (by kernel_rfl) (by kernel_rfl) (by exact fun _ _ _ h => h) (Or.inl ⟨by rfl, ?_⟩) (by assumption) ?_
  rotate_left
  · (intro w hSw; (try dsimp only at hSw); go_simp; try with_reducible rfl)
  try simp only [Act.put, List.setIfInBounds_toArray, List.set_cons_zero, List.set_cons_succ]
  refine wpAnyH_take (i := 7) (v := ?_) (by simp only [List.getElem?_toArray, List.getElem?_cons_succ, List.getElem?_cons_zero]; rfl) (by kernel_rfl) (by kernel_rfl) (by kernel_rfl) (by exact fun _ _ _ h => h) (Or.inl ⟨by rfl, ?_⟩) (by assumption) ?_
  rotate_left
  · (intro w hSw; (try dsimp only at hSw); go_simp; try with_reducible rfl)
  try simp only [Act.put, List.setIfInBounds_toArray, List.set_cons_zero, List.set_cons_succ]
  refine wpAnyH_take (i := 8) (v := ?_) (by simp only [List.getElem?_toArray, List.getElem?_cons_succ, List.getElem?_cons_zero]; rfl) (by kernel_rfl) (by kernel_rfl) (by kernel_rfl) (by exact fun _ _ _ h => h) (Or.inl ⟨by rfl, ?_⟩) (by assumption) ?_
  rotate_left
  · (intro w hSw; (try dsimp only at hSw); go_simp; try with_reducible rfl)
  try simp only [Act.put, List.setIfInBounds_toArray, List.set_cons_zero, List.set_cons_succ]
  refine wpAnyH_ready (rs := [9]) (by kernel_rfl) (by simp) ?_
  refine AllReadyH.cons rfl (fun K hK => ?_) AllReadyH.nil
  rw [if_pos (by rfl)]
  (go_wp2_with fail; refine (HR.out _ (bthen HB1.out (by first | exact (Below.refl _ _).drew | exact below_drewN (Below.refl _ _) _))).mono ?_; rintro e w2 ⟨rfl, hb2⟩; have kk2 : Below w1.heap.size w1 w2 := bthen (by first | exact (Below.refl _ _).drew | exact below_drewN (Below.refl _ _) _) hb2; try dsimp only)
  refine hK.out _ _ (by (first | exact cell_below c4 kk2 | exact c4)) (fun hHeld => ?_)
  clear hK K
  try simp only [Act.put, List.setIfInBounds_toArray, List.set_cons_zero, List.set_cons_succ]
  refine wpAnyH_take (i := 10) (v := ?_) (by simp only [List.getElem?_toArray, List.getElem?_cons_succ, List.getElem?_cons_zero]; rfl) (by kernel_rfl) (by kernel_rfl) (by kernel_rfl) (by exact fun _ _ _ h => h) (Or.inl ⟨by rfl, ?_⟩) (by assumption) ?_
  rotate_left
  · (intro w hSw; (try dsimp only at hSw); go_simp; try with_reducible rfl)
  try simp only [Act.put, List.setIfInBounds_toArray, List.set_cons_zero, List.set_cons_succ]
  refine wpAnyH_take (i := 11) (v := ?_) (by simp only [List.getElem?_toArray, List.getElem?_cons_succ, List.getElem?_cons_zero]; rfl) (by kernel_rfl) (by kernel_rfl) (by kernel_rfl) (by exact fun _ _ _ h => h) (Or.inl ⟨by rfl, ?_⟩) (by assumption) ?_
  rotate_left
  · (intro w hSw; (try dsimp only at hSw); go_simp; try with_reducible rfl)
  try simp only [Act.put, List.setIfInBounds_toArray, List.set_cons_zero, List.set_cons_succ]
  refine wpAnyH_take (i := 12) (v := ?_) (by simp only [List.getElem?_toArray, List.getElem?_cons_succ, List.getElem?_cons_zero]; rfl) (by kernel_rfl) (by kernel_rfl) (by kernel_rfl) (by exact fun _ _ _ h => h) (Or.inl ⟨by rfl, ?_⟩) (by assumption) ?_
  rotate_left
  · (intro w hSw; (try dsimp only at hSw); go_simp; try with_reducible rfl)
  try simp only [Act.put, List.setIfInBounds_toArray, List.set_cons_zero, List.set_cons_succ]
  refine wpAnyH_done (by kernel_rfl) ?_ _
  have HK2 := Lib.hid kk2
  clear hb2 c4 HR kk2
  have hwr : IntKind.i64.wrap ((j.used : Int) + (R : Int)) = (j.used : Int) + (R : Int) := by rw [IntKind.wrap_i64]; omega
  try rw [hwr]
  by_cases hfit : j.used + R < n + 22 + more
  · have q1 : (j.used : Int) + (R : Int) < (n : Int) + 22 + (more : Int) := by omega
    have HX := Lib.hid hfit
    clear hfit
    go_wp2
    go_ret
    rw [HC1.out, if_pos HX.out]
    exact ⟨rfl, JStep.of_below HJ.out HF.out (bthen HB1.out HK2.out)⟩
  have q1 : (n : Int) + 22 + (more : Int) ≤ (j.used : Int) + (R : Int) := by omega
  have HX := Lib.hid hfit
  clear hfit
  have j2 := HJ1.out.below HK2.out
  have f2 := (HF.out.below HB1.out).below HK2.out
  have S2 := JF.start f2 j2 HQ.out.1
  have hj2 := j2
  unfold Jo jCells fI at hj2
  have c0 : w2.cell? ⟨q, 0, none⟩ = some (.iface 23 (.pointer (some ⟨p, 0, none⟩))) := box_cell hj2 0 _ rfl
  have c1 : w2.cell? ⟨q, 1, none⟩ = some (.int .i64 j.bank) := box_cell hj2 1 _ rfl
  have hsub : (1 : Int) - (j.bank : Int) = ((1 - j.bank : Nat) : Int) := by omega
  obtain ⟨E1, hE1⟩ : ∃ E1, E1 = (clrF s (1 - j.bank)).2 := ⟨_, rfl⟩
  have HCl : Hid (∀ w3, Below w2.heap.size w2 w3 → Calls Try.prog 105 #[.iface 23 (.pointer (some ⟨p, 0, none⟩)), .int .i64 ((1 : Int) - (j.bank : Int))] w3 fun e w' => e = .returned (.int .i64 (E1 : Nat)) ∧ FStep w3 w' p G (clrF s (1 - j.bank)).1) := Lib.hid fun w3 k => by rw [hsub, hE1]; exact cleared_any w3 (f2.below k) (HK.out.ok (by have := HQ.out.2.2; omega)) (1 - j.bank) (by omega)
  have HE1 := Lib.hid hE1
  have HS2 := Lib.hid S2
  clear hj2 j2 f2 S2 hE1 hsub
  go_wp2_with fail
  refine wp_region_held_drew (S := (fun w' => w'.cell? ⟨q, 0, none⟩ = some (.iface 23 (.pointer (some ⟨p, 0, none⟩))) ∧ w'.cell? ⟨q, 1, none⟩ = some (.int .i64 j.bank))) (by kernel_rfl) (by (first | exact S5 | exact S4 | exact ⟨c0, c1⟩)) (fun hHeld => ?_)
  refine wpAnyH_take (i := 0) (v := ?_) (by simp only [List.getElem?_toArray, List.getElem?_cons_succ, List.getElem?_cons_zero]; rfl) (by kernel_rfl) (by kernel_rfl) (by kernel_rfl) (by exact fun _ _ _ h => h) (Or.inl ⟨by rfl, ?_⟩) (by assumption) ?_
  rotate_left
  · (intro w hSw; (try dsimp only at hSw); go_simp; try with_reducible rfl)
  try simp only [Act.put, List.setIfInBounds_toArray, List.set_cons_zero, List.set_cons_succ]
  refine wpAnyH_take (i := 1) (v := ?_) (by simp only [List.getElem?_toArray, List.getElem?_cons_succ, List.getElem?_cons_zero]; rfl) (by kernel_rfl) (by kernel_rfl) (by kernel_rfl) (by exact fun _ _ _ h => h) (Or.inl ⟨by rfl, ?_⟩) (by assumption) ?_
  rotate_left
  · (intro w hSw; (try dsimp only at hSw); go_simp; try with_reducible rfl)
  try simp only [Act.put, List.setIfInBounds_toArray, List.set_cons_zero, List.set_cons_succ]
  refine wpAnyH_take (i := 2) (v := ?_) (by simp only [List.getElem?_toArray, List.getElem?_cons_succ, List.getElem?_cons_zero]; rfl) (by kernel_rfl) (by kernel_rfl) (by kernel_rfl) (by exact fun _ _ _ h => h) (Or.inl ⟨by rfl, ?_⟩) (by assumption) ?_
  rotate_left
  · (intro w hSw; (try dsimp only at hSw); go_simp; try with_reducible rfl)
  try simp only [Act.put, List.setIfInBounds_toArray, List.set_cons_zero, List.set_cons_succ]
  refine wpAnyH_take (i := 3) (v := ?_) (by simp only [List.getElem?_toArray, List.getElem?_cons_succ, List.getElem?_cons_zero]; rfl) (by kernel_rfl) (by kernel_rfl) (by kernel_rfl) (by exact fun _ _ _ h => h) (Or.inl ⟨by rfl, ?_⟩) (by assumption) ?_
  rotate_left
  · (intro w hSw; (try dsimp only at hSw); go_simp; try with_reducible rfl)
  try simp only [Act.put, List.setIfInBounds_toArray, List.set_cons_zero, List.set_cons_succ]
  refine wpAnyH_take (i := 4) (v := ?_) (by simp only [List.getElem?_toArray, List.getElem?_cons_succ, List.getElem?_cons_zero]; rfl) (by kernel_rfl) (by kernel_rfl) (by kernel_rfl) (by exact fun _ _ _ h => h) (Or.inl ⟨by rfl, ?_⟩) (by assumption) ?_
  rotate_left
  · (intro w hSw; (try dsimp only at hSw); go_simp; try with_reducible rfl)
  try simp only [Act.put, List.setIfInBounds_toArray, List.set_cons_zero, List.set_cons_succ]
  refine wpAnyH_take (i := 5) (v := ?_) (by simp only [List.getElem?_toArray, List.getElem?_cons_succ, List.getElem?_cons_zero]; rfl) (by kernel_rfl) (by kernel_rfl) (by kernel_rfl) (by exact fun _ _ _ h => h) (Or.inl ⟨by rfl, ?_⟩) (by assumption) ?_
  rotate_left
  · (intro w hSw; (try dsimp only at hSw); go_simp; try with_reducible rfl)
  try simp only [Act.put, List.setIfInBounds_toArray, List.set_cons_zero, List.set_cons_succ]
  refine wpAnyH_take (i := 6) (v := ?_) (by simp only [List.getElem?_toArray, List.getElem?_cons_succ, List.getElem?_cons_zero]; rfl) (by kernel_rfl) (by kernel_rfl) (by kernel_rfl) (by exact fun _ _ _ h => h) (Or.inl ⟨by rfl, ?_⟩) (by assumption) ?_
  rotate_left
  · (intro w hSw; (try dsimp only at hSw); go_simp; try with_reducible rfl)
  try simp only [Act.put, List.setIfInBounds_toArray, List.set_cons_zero, List.set_cons_succ]
  refine wpAnyH_take (i := 7) (v := ?_) (by simp only [List.getElem?_toArray, List.getElem?_cons_succ, List.getElem?_cons_zero]; rfl) (by kernel_rfl) (by kernel_rfl) (by kernel_rfl) (by exact fun _ _ _ h => h) (Or.inl ⟨by rfl, ?_⟩) (by assumption) ?_
  rotate_left
  · (intro w hSw; (try dsimp only at hSw); go_simp; try with_reducible rfl)
  try simp only [Act.put, List.setIfInBounds_toArray, List.set_cons_zero, List.set_cons_succ]
  refine wpAnyH_take (i := 8) (v := ?_) (by simp only [List.getElem?_toArray, List.getElem?_cons_succ, List.getElem?_cons_zero]; rfl) (by kernel_rfl) (by kernel_rfl) (by kernel_rfl) (by exact fun _ _ _ h => h) (Or.inl ⟨by rfl, ?_⟩) (by assumption) ?_
  rotate_left
  · (intro w hSw; (try dsimp only at hSw); go_simp; try with_reducible rfl)
  try simp only [Act.put, List.setIfInBounds_toArray, List.set_cons_zero, List.set_cons_succ]
  refine wpAnyH_take (i := 9) (v := ?_) (by simp only [List.getElem?_toArray, List.getElem?_cons_succ, List.getElem?_cons_zero]; rfl) (by kernel_rfl) (by kernel_rfl) (by kernel_rfl) (by exact fun _ _ _ h => h) (Or.inl ⟨by rfl, ?_⟩) (by assumption) ?_
  rotate_left
  · (intro w hSw; (try dsimp only at hSw); go_simp; try with_reducible rfl)
  try simp only [Act.put, List.setIfInBounds_toArray, List.set_cons_zero, List.set_cons_succ]
  refine wpAnyH_ready (rs := [10]) (by kernel_rfl) (by simp) ?_
  refine AllReadyH.cons rfl (fun K hK => ?_) AllReadyH.nil
  rw [if_pos (by rfl)]
  (go_wp2_with fail; refine (HCl.out _ (by first | exact (Below.refl _ _).drew | exact below_drewN (Below.refl _ _) _)).mono ?_; rintro e w4 ⟨rfl, k4⟩; obtain ⟨G4, J4⟩ := (HS2.out.below (by first | exact (Below.refl _ _).drew | exact below_drewN (Below.refl _ _) _)).step k4; have S4 := And.intro (show w4.cell? ⟨q, 0, none⟩ = some (.iface 23 (.pointer (some ⟨p, 0, none⟩))) from box_cell J4.jo 0 _ rfl) (show w4.cell? ⟨q, 1, none⟩ = some (.int .i64 j.bank) from box_cell J4.jo 1 _ rfl); try dsimp only)
  refine hK.out _ _ (by (first | exact S5 | exact S4 | exact ⟨c0, c1⟩)) (fun hHeld => ?_)
  clear hK K
  try simp only [Act.put, List.setIfInBounds_toArray, List.set_cons_zero, List.set_cons_succ]
  refine wpAnyH_ready (rs := [11]) (by kernel_rfl) (by simp) ?_
  refine AllReadyH.cons rfl (fun K hK => ?_) AllReadyH.nil
  rw [if_pos (by rfl)]
  (go_wp2_with fail; refine (JWrite_any _ J4.jo E1).mono ?_; rintro e w5 ⟨rfl, j5, k5⟩; have S5 : w5.cell? ⟨q, 0, none⟩ = some (.iface 23 (.pointer (some ⟨p, 0, none⟩))) ∧ w5.cell? ⟨q, 1, none⟩ = some (.int .i64 j.bank) := ⟨box_cell j5 0 _ rfl, box_cell j5 1 _ rfl⟩; try dsimp only)
  refine hK.out _ _ (by (first | exact S5 | exact S4 | exact ⟨c0, c1⟩)) (fun hHeld => ?_)
  clear hK K
  try simp only [Act.put, List.setIfInBounds_toArray, List.set_cons_zero, List.set_cons_succ]
  refine wpAnyH_take (i := 12) (v := ?_) (by simp only [List.getElem?_toArray, List.getElem?_cons_succ, List.getElem?_cons_zero]; rfl) (by kernel_rfl) (by kernel_rfl) (by kernel_rfl) (by exact fun _ _ _ h => h) (Or.inl ⟨by rfl, ?_⟩) (by assumption) ?_
  rotate_left
  · (intro w hSw; (try dsimp only at hSw); go_simp; try with_reducible rfl)
  try simp only [Act.put, List.setIfInBounds_toArray, List.set_cons_zero, List.set_cons_succ]
  refine wpAnyH_done (by kernel_rfl) ?_ _
  have H5 := Lib.hid (J4.write j5 k5)
  clear k4 J4 S4 j5 k5 HS2 HCl c0 c1
  by_cases h1 : E1 = 0
  rotate_left
  · have q2 : ((E1 : Int) != 0) = true := by simp; omega
    have HX1 := Lib.hid h1
    clear h1 S5
    go_wp2
    go_ret
    rw [HC1.out, if_neg HX.out, ← HE1.out, if_pos HX1.out]
    exact ⟨rfl, (JStep.ahead HK2.out H5.out.done).ahead HB1.out⟩
  have q2 : ((E1 : Int) != 0) = false := by simp [h1]
  have HX1 := Lib.hid h1
  have hqw : q < w.heap.size := (Array.getElem?_eq_some_iff.1 HJ.out).1
  have hs12 := HK2.out.size
  have hgq : g ≠ q := by have := HG.out.2.1.1; omega
  have sF := (own_sl' (H5.out.keep.own (own_below HG.out.2.2 HK2.out) (fun b hb hx => by
    obtain rfl := Option.some.inj hb
    rcases List.mem_cons.1 hx with h2 | h2
    · exact hgq h2
    · exact HG.out.1 h2))).2.1
  have hg4 : g ∉ G4 := fun hx => by
    rcases H5.out.out g hx with h2 | h2
    · exact HG.out.1 h2
    · have := HG.out.2.1.2; omega
  have hsub : (1 : Int) - (j.bank : Int) = ((1 - j.bank : Nat) : Int) := by omega
  obtain ⟨s1, hs1⟩ : ∃ s1, s1 = (clrF s (1 - j.bank)).1 := ⟨_, rfl⟩
  rw [← hs1] at H5 HC1
  have ok1 : FOk s1 := by rw [hs1]; exact (clrF_ok HK.out (1 - j.bank)).1.ok (by have := HQ.out.2.2; omega)
  obtain ⟨E2, hE2⟩ : ∃ E2, E2 = (appF s1 ((1 - j.bank : Nat) : Int) (frB 72 (hdrP (j.epoch + 1) 0 l))).2 := ⟨_, rfl⟩
  obtain ⟨s2, hs2⟩ : ∃ s2, s2 = (appF s1 ((1 - j.bank : Nat) : Int) (frB 72 (hdrP (j.epoch + 1) 0 l))).1 := ⟨_, rfl⟩
  have HA : Hid (∀ w6, Below w5.heap.size w5 w6 → Calls Try.prog 23 #[.pointer (some ⟨p, 0, none⟩), .int .i64 ((1 : Int) - (j.bank : Int)), .slice (some ⟨g, 0, none⟩) (n + 22) (n + 22)] w6 fun e w' => e = .returned (.int .i64 (E2 : Nat)) ∧ FStep w6 w' p G4 s2) := Lib.hid fun w6 k => by
    rw [hsub, hE2, hs2]
    exact flash_Append w6 (H5.out.fl.below k) ok1 _ (sF.below k) (fun ad e _ => by obtain rfl := Option.some.inj e; exact hg4) (by omega)
  rw [← hE2, ← hs2] at HC1
  have hsz5 := H5.out.keep.size
  have mA := mAppend p
  obtain ⟨c0, c1⟩ := S5
  clear h1 hqw hs12 hgq sF hg4 hs1 ok1 hE2 hs2 hsub
  go_wp2_with fail
  refine wp_region_held_drew (S := (fun w' => w'.cell? ⟨q, 0, none⟩ = some (.iface 23 (.pointer (some ⟨p, 0, none⟩))) ∧ w'.cell? ⟨q, 1, none⟩ = some (.int .i64 j.bank))) (by kernel_rfl) (by (first | exact S7 | exact S6 | exact ⟨c0, c1⟩)) (fun hHeld => ?_)
  refine wpAnyH_take (i := 0) (v := ?_) (by simp only [List.getElem?_toArray, List.getElem?_cons_succ, List.getElem?_cons_zero]; rfl) (by kernel_rfl) (by kernel_rfl) (by kernel_rfl) (by exact fun _ _ _ h => h) (Or.inl ⟨by rfl, ?_⟩) (by assumption) ?_
  rotate_left
  · (intro w hSw; (try dsimp only at hSw); go_simp; try with_reducible rfl)
  try simp only [Act.put, List.setIfInBounds_toArray, List.set_cons_zero, List.set_cons_succ]
  refine wpAnyH_take (i := 1) (v := ?_) (by simp only [List.getElem?_toArray, List.getElem?_cons_succ, List.getElem?_cons_zero]; rfl) (by kernel_rfl) (by kernel_rfl) (by kernel_rfl) (by exact fun _ _ _ h => h) (Or.inl ⟨by rfl, ?_⟩) (by assumption) ?_
  rotate_left
  · (intro w hSw; (try dsimp only at hSw); go_simp; try with_reducible rfl)
  try simp only [Act.put, List.setIfInBounds_toArray, List.set_cons_zero, List.set_cons_succ]
  refine wpAnyH_take (i := 2) (v := ?_) (by simp only [List.getElem?_toArray, List.getElem?_cons_succ, List.getElem?_cons_zero]; rfl) (by kernel_rfl) (by kernel_rfl) (by kernel_rfl) (by exact fun _ _ _ h => h) (Or.inl ⟨by rfl, ?_⟩) (by assumption) ?_
  rotate_left
  · (intro w hSw; (try dsimp only at hSw); go_simp; try with_reducible rfl)
  try simp only [Act.put, List.setIfInBounds_toArray, List.set_cons_zero, List.set_cons_succ]
  refine wpAnyH_take (i := 3) (v := ?_) (by simp only [List.getElem?_toArray, List.getElem?_cons_succ, List.getElem?_cons_zero]; rfl) (by kernel_rfl) (by kernel_rfl) (by kernel_rfl) (by exact fun _ _ _ h => h) (Or.inl ⟨by rfl, ?_⟩) (by assumption) ?_
  rotate_left
  · (intro w hSw; (try dsimp only at hSw); go_simp; try with_reducible rfl)
  try simp only [Act.put, List.setIfInBounds_toArray, List.set_cons_zero, List.set_cons_succ]
  refine wpAnyH_take (i := 4) (v := ?_) (by simp only [List.getElem?_toArray, List.getElem?_cons_succ, List.getElem?_cons_zero]; rfl) (by kernel_rfl) (by kernel_rfl) (by kernel_rfl) (by exact fun _ _ _ h => h) (Or.inl ⟨by rfl, ?_⟩) (by assumption) ?_
  rotate_left
  · (intro w hSw; (try dsimp only at hSw); go_simp; try with_reducible rfl)
  try simp only [Act.put, List.setIfInBounds_toArray, List.set_cons_zero, List.set_cons_succ]
  refine wpAnyH_take (i := 5) (v := ?_) (by simp only [List.getElem?_toArray, List.getElem?_cons_succ, List.getElem?_cons_zero]; rfl) (by kernel_rfl) (by kernel_rfl) (by kernel_rfl) (by exact fun _ _ _ h => h) (Or.inl ⟨by rfl, ?_⟩) (by assumption) ?_
  rotate_left
  · (intro w hSw; (try dsimp only at hSw); go_simp; try with_reducible rfl)
  try simp only [Act.put, List.setIfInBounds_toArray, List.set_cons_zero, List.set_cons_succ]
  refine wpAnyH_take (i := 6) (v := ?_) (by simp only [List.getElem?_toArray, List.getElem?_cons_succ, List.getElem?_cons_zero]; rfl) (by kernel_rfl) (by kernel_rfl) (by kernel_rfl) (by exact fun _ _ _ h => h) (Or.inl ⟨by rfl, ?_⟩) (by assumption) ?_
  rotate_left
  · (intro w hSw; (try dsimp only at hSw); go_simp; try with_reducible rfl)
  try simp only [Act.put, List.setIfInBounds_toArray, List.set_cons_zero, List.set_cons_succ]
  refine wpAnyH_take (i := 7) (v := ?_) (by simp only [List.getElem?_toArray, List.getElem?_cons_succ, List.getElem?_cons_zero]; rfl) (by kernel_rfl) (by kernel_rfl) (by kernel_rfl) (by exact fun _ _ _ h => h) (Or.inl ⟨by rfl, ?_⟩) (by assumption) ?_
  rotate_left
  · (intro w hSw; (try dsimp only at hSw); go_simp; try with_reducible rfl)
  try simp only [Act.put, List.setIfInBounds_toArray, List.set_cons_zero, List.set_cons_succ]
  refine wpAnyH_take (i := 8) (v := ?_) (by simp only [List.getElem?_toArray, List.getElem?_cons_succ, List.getElem?_cons_zero]; rfl) (by kernel_rfl) (by kernel_rfl) (by kernel_rfl) (by exact fun _ _ _ h => h) (Or.inl ⟨by rfl, ?_⟩) (by assumption) ?_
  rotate_left
  · (intro w hSw; (try dsimp only at hSw); go_simp; try with_reducible rfl)
  try simp only [Act.put, List.setIfInBounds_toArray, List.set_cons_zero, List.set_cons_succ]
  refine wpAnyH_take (i := 9) (v := ?_) (by simp only [List.getElem?_toArray, List.getElem?_cons_succ, List.getElem?_cons_zero]; rfl) (by kernel_rfl) (by kernel_rfl) (by kernel_rfl) (by exact fun _ _ _ h => h) (Or.inl ⟨by rfl, ?_⟩) (by assumption) ?_
  rotate_left
  · (intro w hSw; (try dsimp only at hSw); go_simp; try with_reducible rfl)
  try simp only [Act.put, List.setIfInBounds_toArray, List.set_cons_zero, List.set_cons_succ]
  refine wpAnyH_take (i := 10) (v := ?_) (by simp only [List.getElem?_toArray, List.getElem?_cons_succ, List.getElem?_cons_zero]; rfl) (by kernel_rfl) (by kernel_rfl) (by kernel_rfl) (by exact fun _ _ _ h => h) (Or.inl ⟨by rfl, ?_⟩) (by assumption) ?_
  rotate_left
  · (intro w hSw; (try dsimp only at hSw); go_simp; try with_reducible rfl)
  try simp only [Act.put, List.setIfInBounds_toArray, List.set_cons_zero, List.set_cons_succ]
  refine wpAnyH_take (i := 11) (v := ?_) (by simp only [List.getElem?_toArray, List.getElem?_cons_succ, List.getElem?_cons_zero]; rfl) (by kernel_rfl) (by kernel_rfl) (by kernel_rfl) (by exact fun _ _ _ h => h) (Or.inl ⟨by rfl, ?_⟩) (by assumption) ?_
  rotate_left
  · (intro w hSw; (try dsimp only at hSw); go_simp; try with_reducible rfl)
  try simp only [Act.put, List.setIfInBounds_toArray, List.set_cons_zero, List.set_cons_succ]
  refine wpAnyH_take (i := 12) (v := ?_) (by simp only [List.getElem?_toArray, List.getElem?_cons_succ, List.getElem?_cons_zero]; rfl) (by kernel_rfl) (by kernel_rfl) (by kernel_rfl) (by exact fun _ _ _ h => h) (Or.inl ⟨by rfl, ?_⟩) (by assumption) ?_
  rotate_left
  · (intro w hSw; (try dsimp only at hSw); go_simp; try with_reducible rfl)
  try simp only [Act.put, List.setIfInBounds_toArray, List.set_cons_zero, List.set_cons_succ]
  refine wpAnyH_ready (rs := [13]) (by kernel_rfl) (by simp) ?_
  refine AllReadyH.cons rfl (fun K hK => ?_) AllReadyH.nil
  rw [if_pos (by rfl)]
  (go_wp2_with fail; refine (HA.out _ (by first | exact (Below.refl _ _).drew | exact below_drewN (Below.refl _ _) _)).mono ?_; rintro e w6 ⟨rfl, k6⟩; obtain ⟨G6, J6⟩ := (H5.out.below (by first | exact (Below.refl _ _).drew | exact below_drewN (Below.refl _ _) _)).step k6; have S6 := And.intro (show w6.cell? ⟨q, 0, none⟩ = some (.iface 23 (.pointer (some ⟨p, 0, none⟩))) from box_cell J6.jo 0 _ rfl) (show w6.cell? ⟨q, 1, none⟩ = some (.int .i64 j.bank) from box_cell J6.jo 1 _ rfl); try dsimp only)
  refine hK.out _ _ (by (first | exact S7 | exact S6 | exact ⟨c0, c1⟩)) (fun hHeld => ?_)
  clear hK K
  try simp only [Act.put, List.setIfInBounds_toArray, List.set_cons_zero, List.set_cons_succ]
  refine wpAnyH_ready (rs := [14]) (by kernel_rfl) (by simp) ?_
  refine AllReadyH.cons rfl (fun K hK => ?_) AllReadyH.nil
  rw [if_pos (by rfl)]
  (go_wp2_with fail; refine (JWrite_any _ J6.jo E2).mono ?_; rintro e w7 ⟨rfl, j7, k7⟩; have S7 : w7.cell? ⟨q, 0, none⟩ = some (.iface 23 (.pointer (some ⟨p, 0, none⟩))) ∧ w7.cell? ⟨q, 1, none⟩ = some (.int .i64 j.bank) := ⟨box_cell j7 0 _ rfl, box_cell j7 1 _ rfl⟩; try dsimp only)
  refine hK.out _ _ (by (first | exact S7 | exact S6 | exact ⟨c0, c1⟩)) (fun hHeld => ?_)
  clear hK K
  try simp only [Act.put, List.setIfInBounds_toArray, List.set_cons_zero, List.set_cons_succ]
  refine wpAnyH_take (i := 15) (v := ?_) (by simp only [List.getElem?_toArray, List.getElem?_cons_succ, List.getElem?_cons_zero]; rfl) (by kernel_rfl) (by kernel_rfl) (by kernel_rfl) (by exact fun _ _ _ h => h) (Or.inl ⟨by rfl, ?_⟩) (by assumption) ?_
  rotate_left
  · (intro w hSw; (try dsimp only at hSw); go_simp; try with_reducible rfl)
  try simp only [Act.put, List.setIfInBounds_toArray, List.set_cons_zero, List.set_cons_succ]
  refine wpAnyH_done (by kernel_rfl) ?_ _
  have H7 := Lib.hid (J6.write j7 k7)
  clear k6 J6 S6 S7 j7 k7 H5 HA c0 c1 mA hsz5
  by_cases h2 : E2 = 0
  rotate_left
  · have q3 : ((E2 : Int) != 0) = true := by simp; omega
    have HX2 := Lib.hid h2
    clear h2
    go_wp2
    go_ret
    rw [HC1.out, if_neg HX.out, ← HE1.out, if_neg (by rw [HX1.out]; simp), if_pos HX2.out]
    exact ⟨rfl, (JStep.ahead HK2.out H7.out.done).ahead HB1.out⟩
  have q3 : ((E2 : Int) != 0) = false := by simp [h2]
  have HX2 := Lib.hid h2
  have hj7 := H7.out.jo
  unfold Jo jCells fI at hj7
  have c1 : w7.cell? ⟨q, 1, none⟩ = some (.int .i64 j.bank) := box_cell hj7 1 _ rfl
  have c2 : w7.cell? ⟨q, 2, none⟩ = some (.int .i64 j.epoch) := box_cell hj7 2 _ rfl
  have c3 : w7.cell? ⟨q, 3, none⟩ = some (.int .i64 j.count) := box_cell hj7 3 _ rfl
  have c4 : w7.cell? ⟨q, 4, none⟩ = some (.int .i64 j.used) := box_cell hj7 4 _ rfl
  have f1 := box_free hj7 1
  have f2 := box_free hj7 2
  have f3 := box_free hj7 3
  have f4 := box_free hj7 4
  obtain ⟨w8, hw8⟩ : ∃ w8, w8 = ((((w7.setCell ⟨q, 1, none⟩ (.int .i64 ((1 : Int) - (j.bank : Int)))).setCell ⟨q, 2, none⟩ (.int .i64 ((j.epoch : Int) + 1))).setCell ⟨q, 3, none⟩ (.int .i64 0)).setCell ⟨q, 4, none⟩ (.int .i64 ((n : Int) + 22))) := ⟨_, rfl⟩
  have e8 : w8.heap[q]? = some (.cells #[.iface 23 (.pointer (some ⟨p, 0, none⟩)), .int .i64 ((1 : Int) - (j.bank : Int)), .int .i64 ((j.epoch : Int) + 1), .int .i64 0, .int .i64 ((n : Int) + 22), .bool (decide (E2 = 121))] 169 (0, 0)) := by rw [hw8]; exact heap_setCell_same _ q 4 _ _ _ (heap_setCell_same _ q 3 _ _ _ (heap_setCell_same _ q 2 _ _ _ (heap_setCell_same _ q 1 _ _ _ hj7)))
  have k8 : Keep [q] w7 w8 := by rw [hw8]; exact ((((Keep.refl [q] w7).setCell (p := ⟨q, 1, none⟩) (.inl (by simp)) _).setCell (p := ⟨q, 2, none⟩) (.inl (by simp)) _).setCell (p := ⟨q, 3, none⟩) (.inl (by simp)) _).setCell (p := ⟨q, 4, none⟩) (.inl (by simp)) _
  have hsub : (1 : Int) - (j.bank : Int) = ((1 - j.bank : Nat) : Int) := by omega
  have J8 : Jo w8 q p { bank := 1 - j.bank, epoch := j.epoch + 1, count := 0, used := n + 22, dead := false } := by
    unfold Jo jCells fI
    rw [e8, hsub, h2]
    simp
  have H8 := Lib.hid (H7.out.write J8 k8)
  have HW8 := Lib.hid hw8
  clear h2 hj7 hw8 e8 k8 hsub J8
  go_wp2_with fail
  refine wp_region_held_drew (S := (fun w' => True)) (by kernel_rfl) (by trivial) (fun hHeld => ?_)
  refine wpAnyH_take (i := 0) (v := ?_) (by simp only [List.getElem?_toArray, List.getElem?_cons_succ, List.getElem?_cons_zero]; rfl) (by kernel_rfl) (by kernel_rfl) (by kernel_rfl) (by exact fun _ _ _ h => h) (Or.inl ⟨by rfl, ?_⟩) (by assumption) ?_
  rotate_left
  · (intro w hSw; (try dsimp only at hSw); go_simp; try with_reducible rfl)
  try simp only [Act.put, List.setIfInBounds_toArray, List.set_cons_zero, List.set_cons_succ]
  refine wpAnyH_take (i := 1) (v := ?_) (by simp only [List.getElem?_toArray, List.getElem?_cons_succ, List.getElem?_cons_zero]; rfl) (by kernel_rfl) (by kernel_rfl) (by kernel_rfl) (by exact fun _ _ _ h => h) (Or.inl ⟨by rfl, ?_⟩) (by assumption) ?_
  rotate_left
  · (intro w hSw; (try dsimp only at hSw); go_simp; try with_reducible rfl)
  try simp only [Act.put, List.setIfInBounds_toArray, List.set_cons_zero, List.set_cons_succ]
  refine wpAnyH_take (i := 2) (v := ?_) (by simp only [List.getElem?_toArray, List.getElem?_cons_succ, List.getElem?_cons_zero]; rfl) (by kernel_rfl) (by kernel_rfl) (by kernel_rfl) (by exact fun _ _ _ h => h) (Or.inl ⟨by rfl, ?_⟩) (by assumption) ?_
  rotate_left
  · (intro w hSw; (try dsimp only at hSw); go_simp; try with_reducible rfl)
  try simp only [Act.put, List.setIfInBounds_toArray, List.set_cons_zero, List.set_cons_succ]
  refine wpAnyH_take (i := 3) (v := ?_) (by simp only [List.getElem?_toArray, List.getElem?_cons_succ, List.getElem?_cons_zero]; rfl) (by kernel_rfl) (by kernel_rfl) (by kernel_rfl) (by exact fun _ _ _ h => h) (Or.inl ⟨by rfl, ?_⟩) (by assumption) ?_
  rotate_left
  · (intro w hSw; (try dsimp only at hSw); go_simp; try with_reducible rfl)
  try simp only [Act.put, List.setIfInBounds_toArray, List.set_cons_zero, List.set_cons_succ]
  refine wpAnyH_take (i := 4) (v := ?_) (by simp only [List.getElem?_toArray, List.getElem?_cons_succ, List.getElem?_cons_zero]; rfl) (by kernel_rfl) (by kernel_rfl) (by kernel_rfl) (by exact fun _ _ _ h => h) (Or.inl ⟨by rfl, ?_⟩) (by assumption) ?_
  rotate_left
  · (intro w hSw; (try dsimp only at hSw); go_simp; try with_reducible rfl)
  try simp only [Act.put, List.setIfInBounds_toArray, List.set_cons_zero, List.set_cons_succ]
  refine wpAnyH_take (i := 5) (v := ?_) (by simp only [List.getElem?_toArray, List.getElem?_cons_succ, List.getElem?_cons_zero]; rfl) (by kernel_rfl) (by kernel_rfl) (by kernel_rfl) (by exact fun _ _ _ h => h) (Or.inl ⟨by rfl, ?_⟩) (by assumption) ?_
  rotate_left
  · (intro w hSw; (try dsimp only at hSw); go_simp; try with_reducible rfl)
  try simp only [Act.put, List.setIfInBounds_toArray, List.set_cons_zero, List.set_cons_succ]
  refine wpAnyH_take (i := 6) (v := ?_) (by simp only [List.getElem?_toArray, List.getElem?_cons_succ, List.getElem?_cons_zero]; rfl) (by kernel_rfl) (by kernel_rfl) (by kernel_rfl) (by exact fun _ _ _ h => h) (Or.inl ⟨by rfl, ?_⟩) (by assumption) ?_
  rotate_left
  · (intro w hSw; (try dsimp only at hSw); go_simp; try with_reducible rfl)
  try simp only [Act.put, List.setIfInBounds_toArray, List.set_cons_zero, List.set_cons_succ]
  refine wpAnyH_take (i := 9) (v := ?_) (by simp only [List.getElem?_toArray, List.getElem?_cons_succ, List.getElem?_cons_zero]; rfl) (by kernel_rfl) (by kernel_rfl) (by kernel_rfl) (by exact fun _ _ _ h => h) (Or.inl ⟨by rfl, ?_⟩) (by assumption) ?_
  rotate_left
  · (intro w hSw; (try dsimp only at hSw); go_simp; try with_reducible rfl)
  try simp only [Act.put, List.setIfInBounds_toArray, List.set_cons_zero, List.set_cons_succ]
  refine wpAnyH_take (i := 10) (v := ?_) (by simp only [List.getElem?_toArray, List.getElem?_cons_succ, List.getElem?_cons_zero]; rfl) (by kernel_rfl) (by kernel_rfl) (by kernel_rfl) (by exact fun _ _ _ h => h) (Or.inl ⟨by rfl, ?_⟩) (by assumption) ?_
  rotate_left
  · (intro w hSw; (try dsimp only at hSw); go_simp; try with_reducible rfl)
  try simp only [Act.put, List.setIfInBounds_toArray, List.set_cons_zero, List.set_cons_succ]
  refine wpAnyH_take (i := 11) (v := ?_) (by simp only [List.getElem?_toArray, List.getElem?_cons_succ, List.getElem?_cons_zero]; rfl) (by kernel_rfl) (by kernel_rfl) (by kernel_rfl) (by exact fun _ _ _ h => h) (Or.inl ⟨by rfl, ?_⟩) (by assumption) ?_
  rotate_left
  · (intro w hSw; (try dsimp only at hSw); go_simp; try with_reducible rfl)
  try simp only [Act.put, List.setIfInBounds_toArray, List.set_cons_zero, List.set_cons_succ]
  refine wpAnyH_take (i := 14) (v := ?_) (by simp only [List.getElem?_toArray, List.getElem?_cons_succ, List.getElem?_cons_zero]; rfl) (by kernel_rfl) (by kernel_rfl) (by kernel_rfl) (by exact fun _ _ _ h => h) (Or.inl ⟨by rfl, ?_⟩) (by assumption) ?_
  rotate_left
  · (intro w hSw; (try dsimp only at hSw); go_simp; try with_reducible rfl)
  try simp only [Act.put, List.setIfInBounds_toArray, List.set_cons_zero, List.set_cons_succ]
  refine wpAnyH_take (i := 15) (v := ?_) (by simp only [List.getElem?_toArray, List.getElem?_cons_succ, List.getElem?_cons_zero]; rfl) (by kernel_rfl) (by kernel_rfl) (by kernel_rfl) (by exact fun _ _ _ h => h) (Or.inl ⟨by rfl, ?_⟩) (by assumption) ?_
  rotate_left
  · (intro w hSw; (try dsimp only at hSw); go_simp; try with_reducible rfl)
  try simp only [Act.put, List.setIfInBounds_toArray, List.set_cons_zero, List.set_cons_succ]
  refine wpAnyH_ready (rs := [7, 12]) (by kernel_rfl) (by simp) ?_
  refine AllReadyH.cons rfl (fun K hK => ?_) (AllReadyH.cons rfl (fun K hK => ?_) AllReadyH.nil)
  · skip
    rw [if_pos (by rfl)]
    go_wp2_with fail
    refine hK.out _ _ (by trivial) (fun hHeld => ?_)
    clear hK K
    try simp only [Act.put, List.setIfInBounds_toArray, List.set_cons_zero, List.set_cons_succ]
    refine wpAnyH_take (i := 8) (v := ?_) (by simp only [List.getElem?_toArray, List.getElem?_cons_succ, List.getElem?_cons_zero]; rfl) (by kernel_rfl) (by kernel_rfl) (by kernel_rfl) (by exact fun _ _ _ h => h) (Or.inl ⟨by rfl, ?_⟩) (by assumption) ?_
    rotate_left
    · (intro w hSw; (try dsimp only at hSw); go_simp; try with_reducible rfl)
    try simp only [Act.put, List.setIfInBounds_toArray, List.set_cons_zero, List.set_cons_succ]
    refine wpAnyH_ready (rs := [12]) (by kernel_rfl) (by simp) ?_
    refine AllReadyH.cons rfl (fun K hK => ?_) AllReadyH.nil
    rw [if_pos (by rfl)]
    (go_wp2_with fail)
    refine hK.out _ _ (by trivial) (fun hHeld => ?_)
    clear hK K
    try simp only [Act.put, List.setIfInBounds_toArray, List.set_cons_zero, List.set_cons_succ]
    refine wpAnyH_take (i := 13) (v := ?_) (by simp only [List.getElem?_toArray, List.getElem?_cons_succ, List.getElem?_cons_zero]; rfl) (by kernel_rfl) (by kernel_rfl) (by kernel_rfl) (by exact fun _ _ _ h => h) (Or.inl ⟨by rfl, ?_⟩) (by assumption) ?_
    rotate_left
    · (intro w hSw; (try dsimp only at hSw); go_simp; try with_reducible rfl)
    try simp only [Act.put, List.setIfInBounds_toArray, List.set_cons_zero, List.set_cons_succ]
    refine wpAnyH_take (i := 16) (v := ?_) (by simp only [List.getElem?_toArray, List.getElem?_cons_succ, List.getElem?_cons_zero]; rfl) (by kernel_rfl) (by kernel_rfl) (by kernel_rfl) (by exact fun _ _ _ h => h) (Or.inl ⟨by rfl, ?_⟩) (by assumption) ?_
    rotate_left
    · (intro w hSw; (try dsimp only at hSw); go_simp; try with_reducible rfl)
    try simp only [Act.put, List.setIfInBounds_toArray, List.set_cons_zero, List.set_cons_succ]
    refine wpAnyH_take (i := 17) (v := ?_) (by simp only [List.getElem?_toArray, List.getElem?_cons_succ, List.getElem?_cons_zero]; rfl) (by kernel_rfl) (by kernel_rfl) (by kernel_rfl) (by exact fun _ _ _ h => h) (Or.inl ⟨by rfl, ?_⟩) (by assumption) ?_
    rotate_left
    · (intro w hSw; (try dsimp only at hSw); go_simp; try with_reducible rfl)
    try simp only [Act.put, List.setIfInBounds_toArray, List.set_cons_zero, List.set_cons_succ]
    refine wpAnyH_ready (rs := [18]) (by kernel_rfl) (by simp) ?_
    refine AllReadyH.cons rfl (fun K hK => ?_) AllReadyH.nil
    rw [if_pos (by rfl)]
    (go_wp2_with fail)
    refine hK.out _ _ (by trivial) (fun hHeld => ?_)
    clear hK K
    try simp only [Act.put, List.setIfInBounds_toArray, List.set_cons_zero, List.set_cons_succ]
    refine wpAnyH_take (i := 19) (v := ?_) (by simp only [List.getElem?_toArray, List.getElem?_cons_succ, List.getElem?_cons_zero]; rfl) (by kernel_rfl) (by kernel_rfl) (by kernel_rfl) (by exact fun _ _ _ h => h) (Or.inl ⟨by rfl, ?_⟩) (by assumption) ?_
    rotate_left
    · (intro w hSw; (try dsimp only at hSw); go_simp; try with_reducible rfl)
    try simp only [Act.put, List.setIfInBounds_toArray, List.set_cons_zero, List.set_cons_succ]
    refine wpAnyH_take (i := 20) (v := ?_) (by simp only [List.getElem?_toArray, List.getElem?_cons_succ, List.getElem?_cons_zero]; rfl) (by kernel_rfl) (by kernel_rfl) (by kernel_rfl) (by exact fun _ _ _ h => h) (Or.inl ⟨by rfl, ?_⟩) (by assumption) ?_
    rotate_left
    · (intro w hSw; (try dsimp only at hSw); go_simp; try with_reducible rfl)
    try simp only [Act.put, List.setIfInBounds_toArray, List.set_cons_zero, List.set_cons_succ]
    refine wpAnyH_ready (rs := [21]) (by kernel_rfl) (by simp) ?_
    refine AllReadyH.cons rfl (fun K hK => ?_) AllReadyH.nil
    rw [if_pos (by rfl)]
    (go_wp2_with fail)
    refine hK.out _ _ (by trivial) (fun hHeld => ?_)
    clear hK K
    try simp only [Act.put, List.setIfInBounds_toArray, List.set_cons_zero, List.set_cons_succ]
    refine wpAnyH_take (i := 22) (v := ?_) (by simp only [List.getElem?_toArray, List.getElem?_cons_succ, List.getElem?_cons_zero]; rfl) (by kernel_rfl) (by kernel_rfl) (by kernel_rfl) (by exact fun _ _ _ h => h) (Or.inl ⟨by rfl, ?_⟩) (by assumption) ?_
    rotate_left
    · (intro w hSw; (try dsimp only at hSw); go_simp; try with_reducible rfl)
    try simp only [Act.put, List.setIfInBounds_toArray, List.set_cons_zero, List.set_cons_succ]
    refine wpAnyH_take (i := 23) (v := ?_) (by simp only [List.getElem?_toArray, List.getElem?_cons_succ, List.getElem?_cons_zero]; rfl) (by kernel_rfl) (by kernel_rfl) (by kernel_rfl) (by exact fun _ _ _ h => h) (Or.inl ⟨by rfl, ?_⟩) (by assumption) ?_
    rotate_left
    · (intro w hSw; (try dsimp only at hSw); go_simp; try with_reducible rfl)
    try simp only [Act.put, List.setIfInBounds_toArray, List.set_cons_zero, List.set_cons_succ]
    refine wpAnyH_ready (rs := [24]) (by kernel_rfl) (by simp) ?_
    refine AllReadyH.cons rfl (fun K hK => ?_) AllReadyH.nil
    rw [if_pos (by rfl)]
    (go_wp2_with fail)
    refine hK.out _ _ (by trivial) (fun hHeld => ?_)
    clear hK K
    try simp only [Act.put, List.setIfInBounds_toArray, List.set_cons_zero, List.set_cons_succ]
    refine wpAnyH_take (i := 25) (v := ?_) (by simp only [List.getElem?_toArray, List.getElem?_cons_succ, List.getElem?_cons_zero]; rfl) (by kernel_rfl) (by kernel_rfl) (by kernel_rfl) (by exact fun _ _ _ h => h) (Or.inl ⟨by rfl, ?_⟩) (by assumption) ?_
    rotate_left
    · (intro w hSw; (try dsimp only at hSw); go_simp; try with_reducible rfl)
    try simp only [Act.put, List.setIfInBounds_toArray, List.set_cons_zero, List.set_cons_succ]
    refine wpAnyH_take (i := 26) (v := ?_) (by simp only [List.getElem?_toArray, List.getElem?_cons_succ, List.getElem?_cons_zero]; rfl) (by kernel_rfl) (by kernel_rfl) (by kernel_rfl) (by exact fun _ _ _ h => h) (Or.inl ⟨by rfl, ?_⟩) (by assumption) ?_
    rotate_left
    · (intro w hSw; (try dsimp only at hSw); go_simp; try with_reducible rfl)
    try simp only [Act.put, List.setIfInBounds_toArray, List.set_cons_zero, List.set_cons_succ]
    refine wpAnyH_ready (rs := [27]) (by kernel_rfl) (by simp) ?_
    refine AllReadyH.cons rfl (fun K hK => ?_) AllReadyH.nil
    rw [if_pos (by rfl)]
    (go_wp2_with fail)
    refine hK.out _ _ (by trivial) (fun hHeld => ?_)
    clear hK K
    try simp only [Act.put, List.setIfInBounds_toArray, List.set_cons_zero, List.set_cons_succ]
    refine wpAnyH_done (by kernel_rfl) ?_ _
    rw [← HW8.out]
    clear c1 c2 c3 c4 f1 f2 f3 f4 HW8
    go_wp2
    go_ret
    rw [HC1.out, if_neg HX.out, ← HE1.out, if_neg (by rw [HX1.out]; simp), if_neg (by rw [HX2.out]; simp)]
    exact ⟨rfl, (JStep.ahead HK2.out (H8.out.below (by first | exact Below.refl _ _ | exact (Below.refl _ _).drew)).done).ahead HB1.out⟩
  · skip
    rw [if_pos (by rfl)]
    go_wp2_with fail
    refine hK.out _ _ (by trivial) (fun hHeld => ?_)
    clear hK K
    try simp only [Act.put, List.setIfInBounds_toArray, List.set_cons_zero, List.set_cons_succ]
    refine wpAnyH_take (i := 13) (v := ?_) (by simp only [List.getElem?_toArray, List.getElem?_cons_succ, List.getElem?_cons_zero]; rfl) (by kernel_rfl) (by kernel_rfl) (by kernel_rfl) (by exact fun _ _ _ h => h) (Or.inl ⟨by rfl, ?_⟩) (by assumption) ?_
    rotate_left
    · (intro w hSw; (try dsimp only at hSw); go_simp; try with_reducible rfl)
    try simp only [Act.put, List.setIfInBounds_toArray, List.set_cons_zero, List.set_cons_succ]
    refine wpAnyH_ready (rs := [7]) (by kernel_rfl) (by simp) ?_
    refine AllReadyH.cons rfl (fun K hK => ?_) AllReadyH.nil
    rw [if_pos (by rfl)]
    (go_wp2_with fail)
    refine hK.out _ _ (by trivial) (fun hHeld => ?_)
    clear hK K
    try simp only [Act.put, List.setIfInBounds_toArray, List.set_cons_zero, List.set_cons_succ]
    refine wpAnyH_take (i := 8) (v := ?_) (by simp only [List.getElem?_toArray, List.getElem?_cons_succ, List.getElem?_cons_zero]; rfl) (by kernel_rfl) (by kernel_rfl) (by kernel_rfl) (by exact fun _ _ _ h => h) (Or.inl ⟨by rfl, ?_⟩) (by assumption) ?_
    rotate_left
    · (intro w hSw; (try dsimp only at hSw); go_simp; try with_reducible rfl)
    try simp only [Act.put, List.setIfInBounds_toArray, List.set_cons_zero, List.set_cons_succ]
    refine wpAnyH_take (i := 16) (v := ?_) (by simp only [List.getElem?_toArray, List.getElem?_cons_succ, List.getElem?_cons_zero]; rfl) (by kernel_rfl) (by kernel_rfl) (by kernel_rfl) (by exact fun _ _ _ h => h) (Or.inl ⟨by rfl, ?_⟩) (by assumption) ?_
    rotate_left
    · (intro w hSw; (try dsimp only at hSw); go_simp; try with_reducible rfl)
    try simp only [Act.put, List.setIfInBounds_toArray, List.set_cons_zero, List.set_cons_succ]
    refine wpAnyH_take (i := 17) (v := ?_) (by simp only [List.getElem?_toArray, List.getElem?_cons_succ, List.getElem?_cons_zero]; rfl) (by kernel_rfl) (by kernel_rfl) (by kernel_rfl) (by exact fun _ _ _ h => h) (Or.inl ⟨by rfl, ?_⟩) (by assumption) ?_
    rotate_left
    · (intro w hSw; (try dsimp only at hSw); go_simp; try with_reducible rfl)
    try simp only [Act.put, List.setIfInBounds_toArray, List.set_cons_zero, List.set_cons_succ]
    refine wpAnyH_ready (rs := [18]) (by kernel_rfl) (by simp) ?_
    refine AllReadyH.cons rfl (fun K hK => ?_) AllReadyH.nil
    rw [if_pos (by rfl)]
    (go_wp2_with fail)
    refine hK.out _ _ (by trivial) (fun hHeld => ?_)
    clear hK K
    try simp only [Act.put, List.setIfInBounds_toArray, List.set_cons_zero, List.set_cons_succ]
    refine wpAnyH_take (i := 19) (v := ?_) (by simp only [List.getElem?_toArray, List.getElem?_cons_succ, List.getElem?_cons_zero]; rfl) (by kernel_rfl) (by kernel_rfl) (by kernel_rfl) (by exact fun _ _ _ h => h) (Or.inl ⟨by rfl, ?_⟩) (by assumption) ?_
    rotate_left
    · (intro w hSw; (try dsimp only at hSw); go_simp; try with_reducible rfl)
    try simp only [Act.put, List.setIfInBounds_toArray, List.set_cons_zero, List.set_cons_succ]
    refine wpAnyH_take (i := 20) (v := ?_) (by simp only [List.getElem?_toArray, List.getElem?_cons_succ, List.getElem?_cons_zero]; rfl) (by kernel_rfl) (by kernel_rfl) (by kernel_rfl) (by exact fun _ _ _ h => h) (Or.inl ⟨by rfl, ?_⟩) (by assumption) ?_
    rotate_left
    · (intro w hSw; (try dsimp only at hSw); go_simp; try with_reducible rfl)
    try simp only [Act.put, List.setIfInBounds_toArray, List.set_cons_zero, List.set_cons_succ]
    refine wpAnyH_ready (rs := [21]) (by kernel_rfl) (by simp) ?_
    refine AllReadyH.cons rfl (fun K hK => ?_) AllReadyH.nil
    rw [if_pos (by rfl)]
    (go_wp2_with fail)
    refine hK.out _ _ (by trivial) (fun hHeld => ?_)
    clear hK K
    try simp only [Act.put, List.setIfInBounds_toArray, List.set_cons_zero, List.set_cons_succ]
    refine wpAnyH_take (i := 22) (v := ?_) (by simp only [List.getElem?_toArray, List.getElem?_cons_succ, List.getElem?_cons_zero]; rfl) (by kernel_rfl) (by kernel_rfl) (by kernel_rfl) (by exact fun _ _ _ h => h) (Or.inl ⟨by rfl, ?_⟩) (by assumption) ?_
    rotate_left
    · (intro w hSw; (try dsimp only at hSw); go_simp; try with_reducible rfl)
    try simp only [Act.put, List.setIfInBounds_toArray, List.set_cons_zero, List.set_cons_succ]
    refine wpAnyH_take (i := 23) (v := ?_) (by simp only [List.getElem?_toArray, List.getElem?_cons_succ, List.getElem?_cons_zero]; rfl) (by kernel_rfl) (by kernel_rfl) (by kernel_rfl) (by exact fun _ _ _ h => h) (Or.inl ⟨by rfl, ?_⟩) (by assumption) ?_
    rotate_left
    · (intro w hSw; (try dsimp only at hSw); go_simp; try with_reducible rfl)
    try simp only [Act.put, List.setIfInBounds_toArray, List.set_cons_zero, List.set_cons_succ]
    refine wpAnyH_ready (rs := [24]) (by kernel_rfl) (by simp) ?_
    refine AllReadyH.cons rfl (fun K hK => ?_) AllReadyH.nil
    rw [if_pos (by rfl)]
    (go_wp2_with fail)
    refine hK.out _ _ (by trivial) (fun hHeld => ?_)
    clear hK K
    try simp only [Act.put, List.setIfInBounds_toArray, List.set_cons_zero, List.set_cons_succ]
    refine wpAnyH_take (i := 25) (v := ?_) (by simp only [List.getElem?_toArray, List.getElem?_cons_succ, List.getElem?_cons_zero]; rfl) (by kernel_rfl) (by kernel_rfl) (by kernel_rfl) (by exact fun _ _ _ h => h) (Or.inl ⟨by rfl, ?_⟩) (by assumption) ?_
    rotate_left
    · (intro w hSw; (try dsimp only at hSw); go_simp; try with_reducible rfl)
    try simp only [Act.put, List.setIfInBounds_toArray, List.set_cons_zero, List.set_cons_succ]
    refine wpAnyH_take (i := 26) (v := ?_) (by simp only [List.getElem?_toArray, List.getElem?_cons_succ, List.getElem?_cons_zero]; rfl) (by kernel_rfl) (by kernel_rfl) (by kernel_rfl) (by exact fun _ _ _ h => h) (Or.inl ⟨by rfl, ?_⟩) (by assumption) ?_
    rotate_left
    · (intro w hSw; (try dsimp only at hSw); go_simp; try with_reducible rfl)
    try simp only [Act.put, List.setIfInBounds_toArray, List.set_cons_zero, List.set_cons_succ]
    refine wpAnyH_ready (rs := [27]) (by kernel_rfl) (by simp) ?_
    refine AllReadyH.cons rfl (fun K hK => ?_) AllReadyH.nil
    rw [if_pos (by rfl)]
    (go_wp2_with fail)
    refine hK.out _ _ (by trivial) (fun hHeld => ?_)
    clear hK K
    try simp only [Act.put, List.setIfInBounds_toArray, List.set_cons_zero, List.set_cons_succ]
    refine wpAnyH_done (by kernel_rfl) ?_ _
    rw [← HW8.out]
    clear c1 c2 c3 c4 f1 f2 f3 f4 HW8
    go_wp2
    go_ret
    rw [HC1.out, if_neg HX.out, ← HE1.out, if_neg (by rw [HX1.out]; simp), if_neg (by rw [HX2.out]; simp)]
    exact ⟨rfl, (JStep.ahead HK2.out (H8.out.below (by first | exact Below.refl _ _ | exact (Below.refl _ _).drew)).done).ahead HB1.out⟩
end Go.Proofs.Ytpjmbhhfpoamnaa
