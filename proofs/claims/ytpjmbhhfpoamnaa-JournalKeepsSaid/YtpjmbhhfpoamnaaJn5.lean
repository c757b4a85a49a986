import Derived.Test.YtpjmbhhfpoamnaaJn4
set_option linter.unusedVariables false
set_option linter.unusedSimpArgs false
namespace Go.Proofs.Ytpjmbhhfpoamnaa
open Go.RowKit
theorem JEpoch_any (w : World) {q p : Nat} {j : JSt} (hj : Jo w q p j) :
    Calls Try.prog 63 #[.pointer (some ⟨q, 0, none⟩)] w fun e w' => e = .returned (.int .i64 ((if j.dead then 0 else j.epoch : Nat) : Int)) ∧ w = w' := by
  unfold Jo jCells at hj
  have c2 : w.cell? ⟨q, 2, none⟩ = some (.int .i64 j.epoch) := box_cell hj 2 _ rfl
  have c5 : w.cell? ⟨q, 5, none⟩ = some (.bool j.dead) := box_cell hj 5 _ rfl
  clear hj
  cases hd : j.dead with
  | true =>
    rw [hd] at c5
    clear hd
    go_enter Try.func63, Try.ntmps63
    go_wp2
    go_ret
    exact ⟨rfl, rfl⟩
  | false =>
    rw [hd] at c5
    clear hd
    go_enter Try.func63, Try.ntmps63
    go_wp2
    go_ret
    exact ⟨rfl, rfl⟩
theorem JCount_any (w : World) {q p : Nat} {j : JSt} (hj : Jo w q p j) :
    Calls Try.prog 60 #[.pointer (some ⟨q, 0, none⟩)] w fun e w' => e = .returned (.int .i64 ((if j.dead then 0 else j.count : Nat) : Int)) ∧ w = w' := by
  unfold Jo jCells at hj
  have c3 : w.cell? ⟨q, 3, none⟩ = some (.int .i64 j.count) := box_cell hj 3 _ rfl
  have c5 : w.cell? ⟨q, 5, none⟩ = some (.bool j.dead) := box_cell hj 5 _ rfl
  clear hj
  cases hd : j.dead with
  | true =>
    rw [hd] at c5
    clear hd
    go_enter Try.func60, Try.ntmps60
    go_wp2
    go_ret
    exact ⟨rfl, rfl⟩
  | false =>
    rw [hd] at c5
    clear hd
    go_enter Try.func60, Try.ntmps60
    go_wp2
    go_ret
    exact ⟨rfl, rfl⟩
theorem JWrite_any (w : World) {q p : Nat} {j : JSt} (hj : Jo w q p j) (E : Nat) :
    Calls Try.prog 108 #[.pointer (some ⟨q, 0, none⟩), .int .i64 E] w fun e w' => e = .returned (.int .i64 E) ∧ Jo w' q p { j with dead := decide (E = 121) } ∧ Keep [q] w w' := by
  have hj2 := hj
  unfold Jo jCells at hj2
  have c5 : w.cell? ⟨q, 5, none⟩ = some (.bool j.dead) := box_cell hj2 5 _ rfl
  have f5 := box_free hj2 5
  obtain ⟨D, hD⟩ : ∃ D : Bool, D = decide (E = 121) := ⟨_, rfl⟩
  have q0 : ((E : Int) == 121) = D := by
    rw [hD]
    by_cases h : E = 121
    · subst h; rfl
    · rw [decide_eq_false h]; simp; omega
  have HJ : Hid (Jo (w.setCell ⟨q, 5, none⟩ (.bool D)) q p { j with dead := D }) := Lib.hid (heap_setCell_same _ q 5 _ _ _ hj2)
  rw [← hD]
  clear hD hj hj2
  go_enter Try.func108, Try.ntmps108
  go_wp2
  go_ret
  exact ⟨rfl, HJ.out, (Keep.refl [q] w).setCell (p := ⟨q, 5, none⟩) (.inl (by simp)) _⟩
/-- what a call on a journal leaves -/
structure JStep (w w' : World) (q p : Nat) (G : List Nat) (j : JSt) (s : FSt) : Prop where
  out : ∃ G', Fl w' p G' s ∧ Jo w' q p j ∧ Keep (q :: G) w w' ∧ ∀ x ∈ G', x ∈ G ∨ w.heap.size ≤ x
theorem JStep.of_below {w w' : World} {q p : Nat} {G : List Nat} {j : JSt} {s : FSt} (hj : Jo w q p j) (h : Fl w p G s) (k : Below w.heap.size w w') : JStep w w' q p G j s := ⟨G, h.below k, hj.below k, Keep.of_below k _, fun x hx => .inl hx⟩
/-- Append, as a function -/
def jappF (j : JSt) (s : FSt) (r : List UInt8) : JSt × FSt × Nat :=
  if j.dead then (j, s, 121) else if 262144 < r.length then (j, s, 1) else if jroom j s < r.length + 10 then (j, s, 122) else
  if (appF s j.bank (frB 82 r)).2 = 0 then ({ j with dead := false, count := j.count + 1, used := j.used + (r.length + 10) }, (appF s j.bank (frB 82 r)).1, 0)
  else ({ j with dead := decide ((appF s j.bank (frB 82 r)).2 = 121) }, (appF s j.bank (frB 82 r)).1, (appF s j.bank (frB 82 r)).2)
set_option maxRecDepth 100000 in
set_option maxHeartbeats 3200000 in
theorem JAppend_any (w : World) {q p : Nat} {G : List Nat} {j : JSt} {s : FSt} (hj : Jo w q p j) (h : Fl w p G s) (hqG : q ∉ G) (hk : FOk s) (hb : j.bank ≤ 1) (hc : j.count ≤ 4611686018427387904) (hu : j.used ≤ 4611686018427387904) {A : Option Addr} {n c : Nat} {l : List UInt8} (hs : Sl w 1 A n c (l.map by8)) :
    Calls Try.prog 64 #[.pointer (some ⟨q, 0, none⟩), .slice A n c] w fun e w' => e = .returned (.int .i64 ((jappF j s l).2.2 : Nat)) ∧ JStep w w' q p G (jappF j s l).1 (jappF j s l).2.1 := by
  have hl : l.length = n := by simpa using hs.len
  have hj2 := hj
  unfold Jo jCells fI at hj2
  have c5 : w.cell? ⟨q, 5, none⟩ = some (.bool j.dead) := box_cell hj2 5 _ rfl
  have HJ := Lib.hid hj; have HF := Lib.hid h; have HK := Lib.hid hk
  have HL := Lib.hid hl
  clear hj2
  by_cases hd : j.dead = true
  · have HC : Hid (jappF j s l = (j, s, 121)) := Lib.hid (by rw [jappF, if_pos hd])
    rw [hd] at c5
    clear hd hj h hk hs hl
    go_enter Try.func64, Try.ntmps64
    go_wp2
    go_ret
    rw [HC.out]
    exact ⟨rfl, JStep.of_below HJ.out HF.out (Below.refl _ _)⟩
  have hd0 : j.dead = false := by simpa using hd
  by_cases hbig : 262144 < n
  · have HC : Hid (jappF j s l = (j, s, 1)) := Lib.hid (by rw [jappF, if_neg hd, if_pos (by rw [hl]; exact hbig)])
    have HE := Lib.hid (Encode_no w 82 (A := A) (c := c) hbig)
    rw [hd0] at c5
    clear hd hd0 hj h hk hs hl hbig
    go_enter Try.func64, Try.ntmps64
    go_wp2_with fail
    refine HE.out.mono ?_
    rintro e w1 ⟨rfl, rfl⟩
    clear HE
    go_wp2
    go_ret
    rw [HC.out]
    exact ⟨rfl, JStep.of_below HJ.out HF.out (Below.refl _ _)⟩
  have HE : Hid (Calls Try.prog 45 #[.int .u8 82, .slice A n c] w fun r w' => ∃ g, r = .returned (.tuple #[.slice (some ⟨g, 0, none⟩) (n + 10) (n + 10), .bool true]) ∧ w'.ownsRow w.heap.size 5 1 (.slice (some ⟨g, 0, none⟩) (n + 10) (n + 10)) (n + 10) ((frB 82 l).map by8) ∧ Below w.heap.size w w') := Lib.hid (Encode_yes w 82 hs (by omega))
  have HR : Hid (∀ w1, Below w.heap.size w w1 → Calls Try.prog 62 #[.pointer (some ⟨q, 0, none⟩)] w1 fun e w' => e = .returned (.int .i64 (jroom j s : Nat)) ∧ Below w1.heap.size w1 w') := Lib.hid fun w1 k => JRoom_any w1 (hj.below k) (h.below k) hk hb
  rw [hd0] at c5
  by_cases hroom : jroom j s < n + 10
  · have HC : Hid (jappF j s l = (j, s, 122)) := Lib.hid (by rw [jappF, if_neg hd, if_neg (by rw [hl]; exact hbig), if_pos (by rw [hl]; exact hroom)])
    obtain ⟨R, hR⟩ : ∃ R, R = jroom j s := ⟨_, rfl⟩
    rw [← hR] at HR hroom
    have q1 : (R : Int) < (n : Int) + 10 := by omega
    clear hd hd0 hj h hk hs hl hR hroom
    go_enter Try.func64, Try.ntmps64
    go_wp2_with fail
    refine HE.out.mono ?_
    rintro e w1 ⟨g, rfl, -, hb1⟩
    clear HE
    go_wp2_with fail
    refine (HR.out _ hb1).mono ?_
    rintro e w2 ⟨rfl, hb2⟩
    clear HR
    go_wp2
    go_ret
    rw [HC.out]
    exact ⟨rfl, JStep.of_below HJ.out HF.out (bthen hb1 hb2)⟩
  obtain ⟨E, hE⟩ : ∃ E, E = (appF s j.bank (frB 82 l)).2 := ⟨_, rfl⟩
  have HC : Hid (jappF j s l = if E = 0 then ({ j with dead := false, count := j.count + 1, used := j.used + (n + 10) }, (appF s j.bank (frB 82 l)).1, 0) else ({ j with dead := decide (E = 121) }, (appF s j.bank (frB 82 l)).1, E)) := Lib.hid (by rw [jappF, if_neg hd, if_neg (by rw [hl]; exact hbig), if_neg (by rw [hl]; exact hroom), hE, hl])
  obtain ⟨R, hR⟩ : ∃ R, R = jroom j s := ⟨_, rfl⟩
  rw [← hR] at HR hroom
  have q1 : decide ((R : Int) < (n : Int) + 10) = false := decide_eq_false (by omega)
  have HQ := Lib.hid (And.intro hqG (And.intro hb (And.intro hc hu)))
  have HFr := Lib.hid (show (frB 82 l).length = n + 10 by rw [frB_len, hl])
  have HEE := Lib.hid hE
  have hn3 : n ≤ 262144 := by omega
  clear hd hd0 hj h hk hs hl hR hroom hqG hb hc hu hE hbig
  go_enter Try.func64, Try.ntmps64
  go_wp2_with fail
  refine HE.out.mono ?_
  rintro e w1 ⟨g, rfl, o1, hb1⟩
  clear HE c5
  go_wp2_with fail
  refine (HR.out _ hb1).mono ?_
  rintro e w2 ⟨rfl, hb2⟩
  clear HR
  have hB2 := bthen hb1 hb2
  have j2 := HJ.out.below hB2
  have f2 := HF.out.below hB2
  have o2 := own_below o1 hb2
  have hj2 := j2
  unfold Jo jCells fI at hj2
  have c0 : w2.cell? ⟨q, 0, none⟩ = some (.iface 23 (.pointer (some ⟨p, 0, none⟩))) := box_cell hj2 0 _ rfl
  have c1 : w2.cell? ⟨q, 1, none⟩ = some (.int .i64 j.bank) := box_cell hj2 1 _ rfl
  have mA := mAppend p
  have sF := (own_sl' o2).2.1
  have hg2 := o2.lt g rfl
  have hgG : g ∉ G := fun hx => by have := HF.out.lts g hx; omega
  have HA : Hid (∀ w3, Below w2.heap.size w2 w3 → Calls Try.prog 23 #[.pointer (some ⟨p, 0, none⟩), .int .i64 j.bank, .slice (some ⟨g, 0, none⟩) (n + 10) (n + 10)] w3 fun e w' => e = .returned (.int .i64 (E : Nat)) ∧ FStep w3 w' p G (appF s j.bank (frB 82 l)).1) := Lib.hid fun w3 k => by rw [HEE.out]; exact flash_Append w3 (f2.below k) HK.out j.bank (sF.below k) (fun ad e _ => by obtain rfl := Option.some.inj e; exact hgG) (by omega)
  have HB2 := Lib.hid hB2
  have HJ2 := Lib.hid j2
  clear hj2 o1 o2 hb1 hb2 hB2 j2 f2 sF hg2 hgG
  go_wp2_with fail
  refine wp_region_held_drew (S := (fun w' => w'.cell? ⟨q, 0, none⟩ = some (.iface 23 (.pointer (some ⟨p, 0, none⟩))) ∧ w'.cell? ⟨q, 1, none⟩ = some (.int .i64 j.bank))) (by kernel_rfl) (by (first | exact S5 | exact S4 | exact ⟨c0, c1⟩)) (fun hHeld => ?_)
  refine wpAnyH_take (i := 0) (v := ?_) (by simp only [List.getElem?_toArray, List.getElem?_cons_succ, List.getElem?_cons_zero]; rfl) (by kernel_rfl) (by kernel_rfl) (by kernel_rfl) (by exact fun _ _ _ h => h) (Or.inl ⟨by rfl, ?_⟩) (by assumption) ?_
  rotate_left
  · (intro w hSw; (try dsimp only at hSw); go_simp; try with_reducible rfl)
  try simp only [Act.put, List.setIfInBounds_toArray, List.set_cons_zero, List.set_cons_succ]
  refine wpAnyH_take (i := 1) (v := ?_) (by simp only [List.getElem?_toArray, List.getElem?_cons_succ, List.getElem?_cons_zero]; rfl) (by kernel_rfl) (by kernel_rfl) (by kernel_rfl) (by exact fun _ _ _ h => h) (Or.inl ⟨by rfl, ?_⟩) (by assumption) ?_
  rotate_left
  · (intro w hSw; (try dsimp only at hSw); go_simp; try with_reducible rfl)
  try simp only [Act.put, List.setIfInBounds_toArray, List.set_cons_zero, List.set_cons_succ]
  refine wpAnyH_take (i := 2) (v := ?_) (by simp only [List.getElem?_toArray, List.getElem?_cons_succ, List.getElem?_cons_zero]; rfl) (by kernel_rfl) (by kernel_rfl) (by kernel_rfl) (by exact fun _ _ _ h => h) (Or.inl ⟨by rfl, ?_⟩) (by assumption) ?_
  rotate_left
  · (intro w hSw; (try dsimp only at hSw); go_simp; try with_reducible rfl)
  try simp only [Act.put, List.setIfInBounds_toArray, List.set_cons_zero, List.set_cons_succ]
  refine wpAnyH_take (i := 3) (v := ?_) (by simp only [List.getElem?_toArray, List.getElem?_cons_succ, List.getElem?_cons_zero]; rfl) (by kernel_rfl) (by kernel_rfl) (by kernel_rfl) (by exact fun _ _ _ h => h) (Or.inl ⟨by rfl, ?_⟩) (by assumption) ?_
  rotate_left
  · (intro w hSw; (try dsimp only at hSw); go_simp; try with_reducible rfl)
  try simp only [Act.put, List.setIfInBounds_toArray, List.set_cons_zero, List.set_cons_succ]
  refine wpAnyH_take (i := 4) (v := ?_) (by simp only [List.getElem?_toArray, List.getElem?_cons_succ, List.getElem?_cons_zero]; rfl) (by kernel_rfl) (by kernel_rfl) (by kernel_rfl) (by exact fun _ _ _ h => h) (Or.inl ⟨by rfl, ?_⟩) (by assumption) ?_
  rotate_left
  · (intro w hSw; (try dsimp only at hSw); go_simp; try with_reducible rfl)
  try simp only [Act.put, List.setIfInBounds_toArray, List.set_cons_zero, List.set_cons_succ]
  refine wpAnyH_take (i := 5) (v := ?_) (by simp only [List.getElem?_toArray, List.getElem?_cons_succ, List.getElem?_cons_zero]; rfl) (by kernel_rfl) (by kernel_rfl) (by kernel_rfl) (by exact fun _ _ _ h => h) (Or.inl ⟨by rfl, ?_⟩) (by assumption) ?_
  rotate_left
  · (intro w hSw; (try dsimp only at hSw); go_simp; try with_reducible rfl)
  try simp only [Act.put, List.setIfInBounds_toArray, List.set_cons_zero, List.set_cons_succ]
  refine wpAnyH_take (i := 6) (v := ?_) (by simp only [List.getElem?_toArray, List.getElem?_cons_succ, List.getElem?_cons_zero]; rfl) (by kernel_rfl) (by kernel_rfl) (by kernel_rfl) (by exact fun _ _ _ h => h) (Or.inl ⟨by rfl, ?_⟩) (by assumption) ?_
  rotate_left
  · (intro w hSw; (try dsimp only at hSw); go_simp; try with_reducible rfl)
  try simp only [Act.put, List.setIfInBounds_toArray, List.set_cons_zero, List.set_cons_succ]
  refine wpAnyH_take (i := 7) (v := ?_) (by simp only [List.getElem?_toArray, List.getElem?_cons_succ, List.getElem?_cons_zero]; rfl) (by kernel_rfl) (by kernel_rfl) (by kernel_rfl) (by exact fun _ _ _ h => h) (Or.inl ⟨by rfl, ?_⟩) (by assumption) ?_
  rotate_left
  · (intro w hSw; (try dsimp only at hSw); go_simp; try with_reducible rfl)
  try simp only [Act.put, List.setIfInBounds_toArray, List.set_cons_zero, List.set_cons_succ]
  refine wpAnyH_take (i := 8) (v := ?_) (by simp only [List.getElem?_toArray, List.getElem?_cons_succ, List.getElem?_cons_zero]; rfl) (by kernel_rfl) (by kernel_rfl) (by kernel_rfl) (by exact fun _ _ _ h => h) (Or.inl ⟨by rfl, ?_⟩) (by assumption) ?_
  rotate_left
  · (intro w hSw; (try dsimp only at hSw); go_simp; try with_reducible rfl)
  try simp only [Act.put, List.setIfInBounds_toArray, List.set_cons_zero, List.set_cons_succ]
  refine wpAnyH_take (i := 9) (v := ?_) (by simp only [List.getElem?_toArray, List.getElem?_cons_succ, List.getElem?_cons_zero]; rfl) (by kernel_rfl) (by kernel_rfl) (by kernel_rfl) (by exact fun _ _ _ h => h) (Or.inl ⟨by rfl, ?_⟩) (by assumption) ?_
  rotate_left
  · (intro w hSw; (try dsimp only at hSw); go_simp; try with_reducible rfl)
  try simp only [Act.put, List.setIfInBounds_toArray, List.set_cons_zero, List.set_cons_succ]
  refine wpAnyH_take (i := 10) (v := ?_) (by simp only [List.getElem?_toArray, List.getElem?_cons_succ, List.getElem?_cons_zero]; rfl) (by kernel_rfl) (by kernel_rfl) (by kernel_rfl) (by exact fun _ _ _ h => h) (Or.inl ⟨by rfl, ?_⟩) (by assumption) ?_
  rotate_left
  · (intro w hSw; (try dsimp only at hSw); go_simp; try with_reducible rfl)
  try simp only [Act.put, List.setIfInBounds_toArray, List.set_cons_zero, List.set_cons_succ]
  refine wpAnyH_take (i := 11) (v := ?_) (by simp only [List.getElem?_toArray, List.getElem?_cons_succ, List.getElem?_cons_zero]; rfl) (by kernel_rfl) (by kernel_rfl) (by kernel_rfl) (by exact fun _ _ _ h => h) (Or.inl ⟨by rfl, ?_⟩) (by assumption) ?_
  rotate_left
  · (intro w hSw; (try dsimp only at hSw); go_simp; try with_reducible rfl)
  try simp only [Act.put, List.setIfInBounds_toArray, List.set_cons_zero, List.set_cons_succ]
  refine wpAnyH_ready (rs := [12]) (by kernel_rfl) (by simp) ?_
  refine AllReadyH.cons rfl (fun K hK => ?_) AllReadyH.nil
  rw [if_pos (by rfl)]
  (go_wp2_with fail; refine (HA.out _ (by first | exact (Below.refl _ _).drew | exact below_drewN (Below.refl _ _) _)).mono ?_; rintro e w4 ⟨rfl, k4⟩; have kk4 : Keep G w2 w4 := (Keep.of_below (by first | exact (Below.refl _ _).drew | exact below_drewN (Below.refl _ _) _) G).trans k4.keep; have j4 := HJ2.out.keep kk4 HQ.out.1; have S4 := And.intro (kk4.cell c0 (by exact HQ.out.1)) (kk4.cell c1 (by exact HQ.out.1)); try dsimp only)
  refine hK.out _ _ (by (first | exact S5 | exact S4 | exact ⟨c0, c1⟩)) (fun hHeld => ?_)
  clear hK K
  try simp only [Act.put, List.setIfInBounds_toArray, List.set_cons_zero, List.set_cons_succ]
  refine wpAnyH_ready (rs := [13]) (by kernel_rfl) (by simp) ?_
  refine AllReadyH.cons rfl (fun K hK => ?_) AllReadyH.nil
  rw [if_pos (by rfl)]
  (go_wp2_with fail; refine (JWrite_any _ j4 E).mono ?_; rintro e w5 ⟨rfl, j5, k5⟩; have S5 : w5.cell? ⟨q, 0, none⟩ = some (.iface 23 (.pointer (some ⟨p, 0, none⟩))) ∧ w5.cell? ⟨q, 1, none⟩ = some (.int .i64 j.bank) := ⟨box_cell j5 0 _ rfl, box_cell j5 1 _ rfl⟩; try dsimp only)
  refine hK.out _ _ (by (first | exact S5 | exact S4 | exact ⟨c0, c1⟩)) (fun hHeld => ?_)
  clear hK K
  try simp only [Act.put, List.setIfInBounds_toArray, List.set_cons_zero, List.set_cons_succ]
  refine wpAnyH_take (i := 14) (v := ?_) (by simp only [List.getElem?_toArray, List.getElem?_cons_succ, List.getElem?_cons_zero]; rfl) (by kernel_rfl) (by kernel_rfl) (by kernel_rfl) (by exact fun _ _ _ h => h) (Or.inl ⟨by rfl, ?_⟩) (by assumption) ?_
  rotate_left
  · (intro w hSw; (try dsimp only at hSw); go_simp; try with_reducible rfl)
  try simp only [Act.put, List.setIfInBounds_toArray, List.set_cons_zero, List.set_cons_succ]
  refine wpAnyH_done (by kernel_rfl) ?_ _
  obtain ⟨G4, f4, -, g4⟩ := k4.out
  have hqw : q < w.heap.size := (Array.getElem?_eq_some_iff.1 HJ.out).1
  have hs2 : w.heap.size ≤ w2.heap.size := HB2.out.size
  have hq4 : q ∉ G4 := fun hx => by
    rcases g4 q hx with h1 | h1
    · exact HQ.out.1 h1
    · simp at h1; omega
  have f5 := f4.keep k5 (fun x hx hm => by obtain rfl := List.mem_singleton.1 hm; exact hq4 hx)
  have K5 : Keep (q :: G) w w5 := ((Keep.of_below HB2.out (q :: G)).trans (kk4.mono (fun x hx => List.mem_cons_of_mem _ hx))).trans (k5.mono (fun x hx => by simp at hx; simp [hx]))
  have G5 : ∀ x ∈ G4, x ∈ G ∨ w.heap.size ≤ x := fun x hx => (g4 x hx).imp id (fun h1 => by simp at h1; omega)
  have H5 := Lib.hid (And.intro f5 (And.intro j5 (And.intro K5 (And.intro G5 hq4))))
  have hjj := j5
  unfold Jo jCells fI at hjj
  clear k4 kk4 j4 S4 S5 f4 g4 k5 f5 K5 G5 hq4 c0 c1 j5 hqw hs2 HA
  by_cases h0 : E = 0
  · have q2 : ((E : Int) != 0) = false := by simp [h0]
    have c3 : w5.cell? ⟨q, 3, none⟩ = some (.int .i64 j.count) := box_cell hjj 3 _ rfl
    have f3 := box_free hjj 3
    obtain ⟨w6, hw6⟩ : ∃ w6, w6 = w5.setCell ⟨q, 3, none⟩ (.int .i64 ((j.count : Int) + 1)) := ⟨_, rfl⟩
    have z6 : w6.heap[q]? = some (.cells #[.iface 23 (.pointer (some ⟨p, 0, none⟩)), .int .i64 j.bank, .int .i64 j.epoch, .int .i64 ((j.count : Int) + 1), .int .i64 j.used, .bool (decide (E = 121))] 169 (0, 0)) := by rw [hw6]; exact heap_setCell_same _ q 3 _ _ _ hjj
    have c4 : w6.cell? ⟨q, 4, none⟩ = some (.int .i64 j.used) := box_cell z6 4 _ rfl
    have f4 := box_free z6 4
    obtain ⟨w7, hw7⟩ : ∃ w7, w7 = w6.setCell ⟨q, 4, none⟩ (.int .i64 ((j.used : Int) + ((n : Int) + 10))) := ⟨_, rfl⟩
    have z7 : w7.heap[q]? = some (.cells #[.iface 23 (.pointer (some ⟨p, 0, none⟩)), .int .i64 j.bank, .int .i64 j.epoch, .int .i64 ((j.count : Int) + 1), .int .i64 ((j.used : Int) + ((n : Int) + 10)), .bool (decide (E = 121))] 169 (0, 0)) := by rw [hw7]; exact heap_setCell_same _ q 4 _ _ _ z6
    have k7 : Keep [q] w5 w7 := by rw [hw7, hw6]; exact ((Keep.refl [q] w5).setCell (p := ⟨q, 3, none⟩) (.inl (by simp)) _).setCell (p := ⟨q, 4, none⟩) (.inl (by simp)) _
    have HW6 := Lib.hid hw6; have HW7 := Lib.hid hw7
    have H7 := Lib.hid (show JStep w w7 q p G { j with dead := false, count := j.count + 1, used := j.used + (n + 10) } (appF s j.bank (frB 82 l)).1 from ⟨G4, H5.out.1.keep k7 (fun x hx hm => by obtain rfl := List.mem_singleton.1 hm; exact H5.out.2.2.2.2 hx), by unfold Jo jCells fI; rw [z7, h0]; simp, H5.out.2.2.1.trans (k7.mono (fun x hx => by simp at hx; simp [hx])), H5.out.2.2.2.1⟩)
    have hc := HQ.out.2.2.1; have hu := HQ.out.2.2.2
    have H0 := Lib.hid h0
    clear hjj z6 z7 k7 hw6 hw7 h0 H5
    go_wp2_with (first | rw [← HW6.out] | rw [← HW7.out])
    go_ret
    rw [HC.out, if_pos H0.out]
    exact ⟨rfl, H7.out⟩
  · have q2 : ((E : Int) != 0) = true := by simp; omega
    have H0 := Lib.hid h0
    clear hjj h0
    go_wp2
    go_ret
    rw [HC.out, if_neg H0.out]
    exact ⟨rfl, G4, H5.out.1, H5.out.2.1, H5.out.2.2.1, H5.out.2.2.2.1⟩
end Go.Proofs.Ytpjmbhhfpoamnaa
