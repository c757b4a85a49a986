import Derived.Test.YtpjmbhhfpoamnaaJn25a
import Derived.Test.YtpjmbhhfpoamnaaJn25b
import Derived.Test.YtpjmbhhfpoamnaaJn25c
set_option linter.unusedVariables false
set_option linter.unusedSimpArgs false
namespace Go.Proofs.Ytpjmbhhfpoamnaa
open Go.RowKit
/-- between two rounds -/
structure RfI (W wr : World) (p q k : Nat) : Prop where
  out : ∃ G j s h, JW W wr p q G j s ∧ JI 0 j s h ∧ s.armed = [] ∧ FOkN (1 + 5 * k) s
set_option maxRecDepth 100000 in
set_option maxHeartbeats 6400000 in
theorem JournalRefuses_walk (W : World) (z : Int) {A : Option Addr} {n c : Nat} {l : List UInt8} (hs : Sl W 1 A n c (l.map by8)) (hn : n ≤ 140737488351232) {B : Option Addr} {m d : Nat} {vs : List Value} {ss : List Op14} (hO : Ops14 W B m d vs ss) (hm : m ≤ 1954687338213) :
    Calls Try.prog 17 #[.int .i64 z, .slice A n c, .slice B m d] W fun e w' => e = .returned (.bool true) ∧ Below W.heap.size W w' := by
  go_enter Try.func17, Try.ntmps17
  go_wp2_with fail
  refine (flash_New _ z).mono ?_
  rintro e w1 ⟨G, rfl, f1, hb1, hG⟩
  have HF := Lib.hid (And.intro f1 (And.intro hb1 hG))
  clear f1 hb1 hG
  go_wp2_with fail
  refine (Format_any w1 HF.out.1 ((FOkN.new z).more (Nat.zero_le 1)) (by omega) (hs.below HF.out.2.1) hn).mono ?_
  rintro e w3 ⟨rfl, k3⟩
  rcases fmtF_new z l with ⟨E, e3, h3, _⟩ | ⟨st, e3, ha3, J3, hb3, hok3, hsz3⟩
  · rw [e3] at k3 ⊢
    obtain ⟨G3, f3, k3, g3⟩ := k3.out
    have hbW := k3.below HF.out.2.1 HF.out.2.1.size HF.out.2.2
    have q1 : ((E : Int) != 0) = true := by simp; omega
    have hlo3 : ∀ x ∈ G3, W.heap.size ≤ x := fun x hx => by
      rcases g3 x hx with h | h
      · exact HF.out.2.2 x h
      · have := HF.out.2.1.size; omega
    have H3 := Lib.hid (And.intro f3 (And.intro hbW hlo3))
    clear f3 k3 g3 hbW hlo3 h3 e3
    go_wp2_with fail
    refine (Open_err w3 H3.out.1 ((FOkN.new z).more (Nat.zero_le 1)) (by omega) (openF_new z)).mono ?_
    rintro e w4 ⟨rfl, k4⟩
    obtain ⟨G4, _, k4, _⟩ := k4.out
    have hb4 := Lib.hid (k4.below H3.out.2.1 H3.out.2.1.size H3.out.2.2)
    clear k4
    go_wp2_with fail
    refine (works_any _).mono ?_
    rintro e w5 ⟨rfl, k5⟩
    go_wp2_with fail
    go_ret
    exact ⟨rfl, bthen (bthen hb4.out ((Below.refl _ _).alloc (Nat.le_refl _) _)) k5⟩
  rw [e3] at k3 ⊢
  obtain ⟨G3, f3, k3, g3⟩ := k3.out
  have hbW := k3.below HF.out.2.1 HF.out.2.1.size HF.out.2.2
  have hlo3 : ∀ x ∈ G3, W.heap.size ≤ x := fun x hx => by
    rcases g3 x hx with h | h
    · exact HF.out.2.2 x h
    · have := HF.out.2.1.size; omega
  have H3 := Lib.hid (And.intro f3 (And.intro hbW (And.intro hlo3 (And.intro J3 (And.intro hb3 (And.intro hok3 ha3))))))
  clear f3 k3 g3 hbW hlo3 J3 hb3 hok3 hsz3 ha3 e3
  go_wp2_with fail
  refine (Open_again w3 H3.out.1 H3.out.2.2.2.2.2.1 (by omega) H3.out.2.2.2.1 H3.out.2.2.2.2.1).mono ?_
  rintro e w4 ⟨q, G4, v0, v1, rfl, O4⟩
  obtain ⟨A2, a2, b2, Av2, c2, d2, vs2, rfl, rfl, _⟩ := O4.hin.out
  have H4 := Lib.hid (O4.jw H3.out.2.1 H3.out.2.2.1)
  clear O4
  go_wp2_with fail
  obtain ⟨w5, hw5⟩ : ∃ x, x = w4.alloc (.cells #[.int .i64 1, .slice A2 a2 b2, .slice Av2 c2 d2, .int .i64 0] 100) := ⟨_, rfl⟩
  have hR : RfI W w5 W.heap.size q 0 := ⟨G4, _, st, _, by rw [hw5]; exact H4.out.below ((Below.refl _ _).alloc (Nat.le_refl _) _), H3.out.2.2.2.1, H3.out.2.2.2.2.2.2, H3.out.2.2.2.2.2.1⟩
  rw [← hw5]
  clear hw5 H4 H3
  have n1 := hO.sl.le; have n2 := hO.sl.max
  have hln := hO.len
  go_loopw [12] (fun i wr => ∃ k : Nat, k ≤ m ∧ i = .int .i64 k ∧ Hid (RfI W wr W.heap.size q k)) (fun i _ => m - (intOf i).toNat)
  case atStart => exact ⟨0, by omega, rfl, Lib.hid hR⟩
  case round =>
    clear hR
    obtain ⟨k, hk, rfl, HI⟩ := hrel
    obtain ⟨G, j, s, h, JJ, J, har, hok⟩ := HI.out.out
    by_cases hlt : k < m
    rotate_left
    · obtain rfl : k = m := by omega
      have HJ := Lib.hid JJ
      clear JJ J har hok
      go_wp2_with fail
      refine (works_any _).mono ?_
      rintro e w9 ⟨rfl, k9⟩
      go_wp2_with fail
      go_ret
      exact ⟨rfl, bthen HJ.out.b k9⟩
    have hk0 : (0 : Int) ≤ (k : Int) := Int.natCast_nonneg _
    have hk1 : (k : Int) < (m : Int) := by omega
    obtain ⟨b, off, rfl⟩ := hO.sl.form (by omega)
    obtain ⟨da, dn, dc, sa, sn, sc, g0, g1, g2, g3, g4, dW, dm, sW, sm⟩ := hO.get k (by omega)
    obtain ⟨o, ho⟩ : ∃ o, o = ss[k]'(by omega) := ⟨_, rfl⟩
    rw [← ho] at g0 g3 g4 dW sW
    have g0 := cell_below g0 JJ.b; have g1 := cell_below g1 JJ.b; have g2 := cell_below g2 JJ.b; have g3 := cell_below g3 JJ.b; have g4 := cell_below g4 JJ.b
    obtain ⟨od, hod⟩ : ∃ x, x = o.data := ⟨_, rfl⟩
    obtain ⟨os, hos⟩ : ∃ x, x = o.snap := ⟨_, rfl⟩
    obtain ⟨kd, hkd⟩ : ∃ x, x = o.kd := ⟨_, rfl⟩
    rw [← hod] at dW; rw [← hos] at sW; rw [← hkd] at g0
    obtain ⟨R, hR⟩ : ∃ x, x = jroom j s := ⟨_, rfl⟩
    obtain ⟨E, hE⟩ : ∃ x, x = j.epoch := ⟨_, rfl⟩
    obtain ⟨C, hC⟩ : ∃ x, x = j.count := ⟨_, rfl⟩
    obtain ⟨V, hV⟩ : ∃ x, x = s.writes := ⟨_, rfl⟩
    have HQ : Hid (∀ wx G, JW W wx W.heap.size q G j s → Four wx W.heap.size q R E C V) := Lib.hid (fun wx G h => by rw [hR, hE, hC, hV]; exact four J hok (by omega) h)
    have hR1 : R ≤ 1048576 := by have := J.size hok; omega
    have hE1 : E ≤ 9773436691076 := by have := J.ep; have := hok.writes; omega
    have hC1 : C ≤ 1048576 := by have := J.size hok; have := J.count; have := J.lens; omega
    have hV1 : V ≤ 9773436691076 := by have := hok.writes; omega
    have HX := Lib.hid (And.intro hR (And.intro hE (And.intro hC hV)))
    have HJ := Lib.hid (And.intro J (And.intro har hok))
    have HJ2 := Lib.hid (And.intro J.bank (And.intro (show j.count ≤ 4611686018427387904 by have := hC; omega) (And.intro (show j.used ≤ 4611686018427387904 by have := J.used; have := J.size hok; omega) (J.lens.2.2.2.2))))
    have HD := Lib.hid (And.intro dW (And.intro sW (And.intro dm sm)))
    obtain ⟨w6, hw6⟩ : ∃ x, x = wr.alloc (.cells #[.int .i64 kd, .slice da dn dc, .slice sa sn sc, .int .i64 o.after, .int .i64 o.keep] 97) := ⟨_, rfl⟩
    have b6 : Below wr.heap.size wr w6 := by rw [hw6]; exact (Below.refl _ _).alloc (Nat.le_refl _) _
    have x6 : w6.heap[wr.heap.size]? = some (.cells #[.int .i64 kd, .slice da dn dc, .slice sa sn sc, .int .i64 o.after, .int .i64 o.keep] 97 (0, 0)) := by rw [hw6]; exact heap_alloc_new _ _
    have H6 := Lib.hid (And.intro (JJ.below b6) x6)
    clear ho hod hos hkd dW sW JJ J har hok hR hE hC hV b6 x6 dm sm
    go_wp2_with fail
    rw [← hw6]
    clear hw6
    refine (HQ.out _ _ H6.out.1).1.mono ?_
    rintro e w7 ⟨rfl, b7⟩
    have H7 := Lib.hid (And.intro (H6.out.1.below b7) (heap_below H6.out.2 b7))
    clear b7 H6
    go_wp2_with fail
    refine (HQ.out _ _ H7.out.1).2.1.mono ?_
    rintro e w8 ⟨rfl, rfl⟩
    go_wp2_with fail
    refine (HQ.out _ _ H7.out.1).2.2.1.mono ?_
    rintro e w8 ⟨rfl, rfl⟩
    go_wp2_with fail
    refine (HQ.out _ _ H7.out.1).2.2.2.mono ?_
    rintro e w8 ⟨rfl, rfl⟩
    have y7 := H7.out.2
    have m0 : w7.cell? ⟨wr.heap.size, 0, none⟩ = some (.int .i64 kd) := box_cell y7 0 _ rfl
    have m1 : w7.cell? ⟨wr.heap.size, 1, none⟩ = some (.slice da dn dc) := box_cell y7 1 _ rfl
    have m2 : w7.cell? ⟨wr.heap.size, 2, none⟩ = some (.slice sa sn sc) := box_cell y7 2 _ rfl
    have m3 : w7.cell? ⟨wr.heap.size, 3, none⟩ = some (.int .i64 o.after) := box_cell y7 3 _ rfl
    have m4 : w7.cell? ⟨wr.heap.size, 4, none⟩ = some (.int .i64 o.keep) := box_cell y7 4 _ rfl
    clear y7 g0 g1 g2 g3 g4 m2 m3 m4
    go_wp2_with fail
    refine (Encode_rec w7 (HD.out.1.below H7.out.1.b)).mono ?_
    rintro e w8 ⟨fa, fb, fd, ff, rfl, hff, b8⟩
    have y8 := heap_below H7.out.2 b8
    have H8 := Lib.hid (And.intro (H7.out.1.below b8) y8)
    have p0 : w8.cell? ⟨wr.heap.size, 0, none⟩ = some (.int .i64 kd) := box_cell y8 0 _ rfl
    have p1 : w8.cell? ⟨wr.heap.size, 1, none⟩ = some (.slice da dn dc) := box_cell y8 1 _ rfl
    have p2 : w8.cell? ⟨wr.heap.size, 2, none⟩ = some (.slice sa sn sc) := box_cell y8 2 _ rfl
    have p3 : w8.cell? ⟨wr.heap.size, 3, none⟩ = some (.int .i64 o.after) := box_cell y8 3 _ rfl
    have p4 : w8.cell? ⟨wr.heap.size, 4, none⟩ = some (.int .i64 o.keep) := box_cell y8 4 _ rfl
    clear m0 m1 b8 H7 y8 p3 p4
    have hNk : Hid (∀ x, FOkN (1 + 5 * k + 4) x → FOkN (1 + 5 * (k + 1)) x) := Lib.hid (fun x hx => hx.more (by omega))
    have v1 : ((V : Int) != (V : Int)) = false := by simp
    have r1 : ((R : Int) != (R : Int)) = false := by simp
    have e1 : ((E : Int) != (E : Int)) = false := by simp
    have c1 : ((C : Int) != (C : Int)) = false := by simp
    go_upto_block 2 with fail
    go_cut [20] from 49 to 213 (fun g wx => ∃ gn : Nat, g = .int .i64 (gn : Nat) ∧ Hid (RfC W wx W.heap.size q k R E C V gn))
    case first =>
      rename_i J' K' hJ' hK'
      suffices hkey : ∀ C' : Code, C' = (cB (cA (cB (cB (cB (cB (cB (cB (cB (cK (cA (cB (cK (cK (cB (cA (cB (cB (cB (cB (cB (cB (Try.f17.body.getD .skip))))))))))))))))))))))) → Code.wp Try.prog C' _ _ _ from hkey _ (by kernel_rfl)
      intro C' hC'
      subst hC'
      by_cases kd3 : kd = 3
      · have HS := swRf3 (fa := fa) (fd := fd) W w8 q k R E C V wr.heap.size kd H8.out.1 HJ.out.1 HJ.out.2.1 HJ.out.2.2 (by omega) HX.out.1 HX.out.2.1 HX.out.2.2.1 HX.out.2.2.2 HD.out.1 HD.out.2.2.1 HD.out.2.1 HD.out.2.2.2 H8.out.2 hff kd3
        subst kd3
        exact HS _ _ _ _ _ _ _ _ _ _ _ _ _ _ _ _ _ _ _ _ _ _ _ _ _ _ _ _ _ _ _ _ _ _ _ _ _ _ _ _ _ _ _ _ _ _ _ _ _ _ _ _ _ _ _ _ _ _ _ _ _ _ _ _ _ _ _ _ _ _ _ _ _ _ _ _ _ _ _ _ _ _ _ _ _ _ _ _ _ _ _ _ _ _ _ _ _ _ _ _ _ _ _ _ _ _ _ _ _ _ _ _ _ _ _ _ _ _ _ _ _ _ _ _ _ _ _ _ _ _ _ _ _ _ _ _ _ _ _ _ _ _ _ _ _ _ _ _ _ _ _ _ _ _ _ _ _ _ _ _ _ _ _ _ _ _ _ _ _ _ _ _ _ _ _ _ _ _ _ _ _ _ _ _ _ _ _ _ _ _ _ _ _ _ _ _ _ _ _ _ _ _ _ _ _ J' K' _ hJ' hK'
      by_cases kd4 : kd = 4
      · have HS := swRf4 (fa := fa) (fd := fd) W w8 q k R E C V wr.heap.size kd H8.out.1 HJ.out.1 HJ.out.2.1 HJ.out.2.2 (by omega) HX.out.1 HX.out.2.1 HX.out.2.2.1 HX.out.2.2.2 HD.out.1 HD.out.2.2.1 HD.out.2.1 HD.out.2.2.2 H8.out.2 hff kd4
        subst kd4
        exact HS _ _ _ _ _ _ _ _ _ _ _ _ _ _ _ _ _ _ _ _ _ _ _ _ _ _ _ _ _ _ _ _ _ _ _ _ _ _ _ _ _ _ _ _ _ _ _ _ _ _ _ _ _ _ _ _ _ _ _ _ _ _ _ _ _ _ _ _ _ _ _ _ _ _ _ _ _ _ _ _ _ _ _ _ _ _ _ _ _ _ _ _ _ _ _ _ _ _ _ _ _ _ _ _ _ _ _ _ _ _ _ _ _ _ _ _ _ _ _ _ _ _ _ _ _ _ _ _ _ _ _ _ _ _ _ _ _ _ _ _ _ _ _ _ _ _ _ _ _ _ _ _ _ _ _ _ _ _ _ _ _ _ _ _ _ _ _ _ _ _ _ _ _ _ _ _ _ _ _ _ _ _ _ _ _ _ _ _ _ _ _ _ _ _ _ _ _ _ _ _ _ _ _ _ _ J' K' _ hJ' hK'
      by_cases kd5 : kd = 5
      · have HS := swRf5 (fa := fa) (fd := fd) W w8 q k R E C V wr.heap.size kd H8.out.1 HJ.out.1 HJ.out.2.1 HJ.out.2.2 (by omega) HX.out.1 HX.out.2.1 HX.out.2.2.1 HX.out.2.2.2 HD.out.1 HD.out.2.2.1 HD.out.2.1 HD.out.2.2.2 H8.out.2 hff kd5
        subst kd5
        exact HS _ _ _ _ _ _ _ _ _ _ _ _ _ _ _ _ _ _ _ _ _ _ _ _ _ _ _ _ _ _ _ _ _ _ _ _ _ _ _ _ _ _ _ _ _ _ _ _ _ _ _ _ _ _ _ _ _ _ _ _ _ _ _ _ _ _ _ _ _ _ _ _ _ _ _ _ _ _ _ _ _ _ _ _ _ _ _ _ _ _ _ _ _ _ _ _ _ _ _ _ _ _ _ _ _ _ _ _ _ _ _ _ _ _ _ _ _ _ _ _ _ _ _ _ _ _ _ _ _ _ _ _ _ _ _ _ _ _ _ _ _ _ _ _ _ _ _ _ _ _ _ _ _ _ _ _ _ _ _ _ _ _ _ _ _ _ _ _ _ _ _ _ _ _ _ _ _ _ _ _ _ _ _ _ _ _ _ _ _ _ _ _ _ _ _ _ _ _ _ _ _ _ _ _ _ J' K' _ hJ' hK'
      exact swRf0 W w8 q k R E C V wr.heap.size kd H8.out.1 HJ.out.1 HJ.out.2.1 HJ.out.2.2 (by omega) HX.out.1 HX.out.2.1 HX.out.2.2.1 HX.out.2.2.2 HD.out.1 HD.out.2.2.1 HD.out.2.1 HD.out.2.2.2 H8.out.2 hff kd3 kd4 kd5 _ _ _ _ _ _ _ _ _ _ _ _ _ _ _ _ _ _ _ _ _ _ _ _ _ _ _ _ _ _ _ _ _ _ _ _ _ _ _ _ _ _ _ _ _ _ _ _ _ _ _ _ _ _ _ _ _ _ _ _ _ _ _ _ _ _ _ _ _ _ _ _ _ _ _ _ _ _ _ _ _ _ _ _ _ _ _ _ _ _ _ _ _ _ _ _ _ _ _ _ _ _ _ _ _ _ _ _ _ _ _ _ _ _ _ _ _ _ _ _ _ _ _ _ _ _ _ _ _ _ _ _ _ _ _ _ _ _ _ _ _ _ _ _ _ _ _ _ _ _ _ _ _ _ _ _ _ _ _ _ _ _ _ _ _ _ _ _ _ _ _ _ _ _ _ _ _ _ _ _ _ _ _ _ _ _ _ _ _ _ _ _ _ _ _ _ _ _ _ _ _ _ _ _ _ J' K' _ hJ' hK'
    case rest =>
      obtain ⟨gn, rfl, HC⟩ := hcut
      obtain ⟨G9, j9, s9, h9, J9, I9, ar9, ok9, same9⟩ := HC.out.out
      by_cases hg : gn = 0
      · subst hg
        have HR9 : Hid (RfI W wc W.heap.size q (k + 1)) := Lib.hid ⟨G9, j9, s9, h9, J9, I9, ar9, hNk.out _ ok9⟩
        clear J9 I9 ar9 ok9 same9 HC
        go_wp2_with fail
        first | go_roundw | refine ⟨?rel, ?measure⟩
        case rel => exact ⟨k + 1, by omega, by go_num, HR9⟩
        case measure => simp [intOf]; omega
      · have HQ9 : Hid (∀ wx G, JW W wx W.heap.size q G j9 s9 → Four wx W.heap.size q R E C V) := Lib.hid (fun wx G h => by
          obtain ⟨x1, x2, x3, x4⟩ := same9 hg
          rw [← x1, ← x2, ← x3, ← x4]; exact four I9 ok9 (by omega) h)
        have HW := Lib.hid J9
        have HN9 := Lib.hid (And.intro I9 (And.intro ar9 (hNk.out _ ok9)))
        have hg2 : ((gn : Int) != 0) = true := by simp; omega
        clear J9 I9 ar9 ok9 same9 HC hg
        go_wp2_with fail
        refine (HQ9.out _ _ HW.out).2.2.2.mono ?_
        rintro e wz ⟨rfl, rfl⟩
        go_wp2_with fail
        refine (HQ9.out _ _ HW.out).1.mono ?_
        rintro e wz ⟨rfl, bz⟩
        have HW := Lib.hid (HW.out.below bz)
        clear bz
        go_wp2_with fail
        refine (HQ9.out _ _ HW.out).2.1.mono ?_
        rintro e wz ⟨rfl, rfl⟩
        go_wp2_with fail
        refine (HQ9.out _ _ HW.out).2.2.1.mono ?_
        rintro e wz ⟨rfl, rfl⟩
        go_wp2_with fail
        first | go_roundw | refine ⟨?rel, ?measure⟩
        case rel => exact ⟨k + 1, by omega, by go_num, Lib.hid ⟨_, j9, s9, h9, HW.out, HN9.out⟩⟩
        case measure => simp [intOf]; omega
end Go.Proofs.Ytpjmbhhfpoamnaa
