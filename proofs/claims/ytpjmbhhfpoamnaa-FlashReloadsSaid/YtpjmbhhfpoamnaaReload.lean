import Derived.Test.YtpjmbhhfpoamnaaCore12
import Derived.Test.YtpjmbhhfpoamnaaFlApart
import Derived.Test.YtpjmbhhfpoamnaaFlW
set_option linter.unusedVariables false
set_option linter.unusedSimpArgs false
namespace Go.Proofs.Ytpjmbhhfpoamnaa
open Go.RowKit
set_option maxRecDepth 100000 in
set_option maxHeartbeats 1500000 in
theorem FlashReloads_walk (W : World) (z : Int) {A B : Option Addr} {n c m d : Nat} {vs us : List Value} {ss ts : List St12} (hs : Sts W A n c vs ss) (ht : Sts W B m d us ts) :
    Calls Try.prog 8 #[.int .i64 z, .slice A n c, .slice B m d] W fun e w' => e = .returned (.bool true) ∧ Below W.heap.size W w' := by
  have n1 := hs.sl.le; have n2 := hs.sl.max; have m1 := ht.sl.le; have m2 := ht.sl.max
  by_cases g1 : 400 < n
  · have i0 : (400 : Int) < (n : Int) := by omega
    go_enter Try.func8, Try.ntmps8
    go_wp2
    go_ret
    exact ⟨rfl, Below.refl _ _⟩
  have i0 : decide ((400 : Int) < (n : Int)) = false := decide_eq_false (by omega)
  have hn : n ≤ 400 := by omega
  clear g1
  by_cases g2 : 400 < m
  · have i1 : (400 : Int) < (m : Int) := by omega
    go_enter Try.func8, Try.ntmps8
    go_wp2
    go_ret
    exact ⟨rfl, Below.refl _ _⟩
  have i1 : decide ((400 : Int) < (m : Int)) = false := decide_eq_false (by omega)
  have hm : m ≤ 400 := by omega
  clear g2
  have HLs := Lib.hid (And.intro hs.len ht.len)
  go_enter Try.func8, Try.ntmps8
  go_wp2_with (first | (at_builtin; refine Stopped.out ?_) | (at_make; refine Stopped.out ?_))
  refine (size12_any _ hs hn).mono ?_
  rintro e w1 ⟨r1, rfl, a1, a2, a3, hd1⟩
  go_wp2_with (first | (at_builtin; refine Stopped.out ?_) | (at_make; refine Stopped.out ?_))
  refine (size12_any _ (ht.below hd1.below) hm).mono ?_
  rintro e w2 ⟨r2, rfl, b1, b2, b3, hd2⟩
  by_cases g3 : 2097152 < r1 + r2
  · have i3 : (2097152 : Int) < (r1 : Int) + (r2 : Int) := by omega
    go_wp2
    go_ret
    exact ⟨by simp, bthen hd1.below hd2.below⟩
  have i3 : decide ((2097152 : Int) < (r1 : Int) + (r2 : Int)) = false := decide_eq_false (by omega)
  have HZ := Lib.hid (show size12 ss ≤ 2097152 ∧ size12 ts ≤ 2097152 from ⟨by rw [← a2 (by omega)]; omega, by rw [← b2 (by omega)]; omega⟩)
  have hB2 := bthen hd1.below hd2.below
  clear a1 a2 b1 b2 g3 hd1 hd2
  go_wp2_with (first | (at_builtin; refine Stopped.out ?_) | (at_make; refine Stopped.out ?_))
  refine (flash_New _ z).mono ?_
  rintro e w3 ⟨G, rfl, f1, hb1, hG⟩
  have F1 : FlW W w3 w2.heap.size ⟨capF z, [], [], [], 0, 0, false⟩ := ⟨⟨G, f1, fun x hx => Nat.le_trans hB2.size (hG x hx)⟩, bthen hB2 hb1⟩
  clear f1 hb1 hG hB2
  obtain ⟨p, hp⟩ : ∃ p, p = w2.heap.size := ⟨_, rfl⟩
  rw [← hp] at F1
  rw [← hp]
  clear hp
  go_wp2_with (first | (at_builtin; refine Stopped.out ?_) | (at_make; refine Stopped.out ?_))
  refine (holds12 _).mono ?_
  rintro e w4 ⟨rfl, hb4⟩
  have HF := Lib.hid (F1.then_ hb4)
  clear F1 hb4
  clear i0 i1 i3 a3 b3
  go_wp2_with (first | (at_builtin; refine Stopped.out ?_) | (at_make; refine Stopped.out ?_))
  go_loopw [8] (fun i wr => ∃ (j : Nat) (s : FSt), j ≤ n ∧ i = .int .i64 j ∧ FlW W wr p s ∧ FOkN j s ∧ s.size = capF z) (fun i _ => n - (intOf i).toNat)
  case atStart => exact ⟨0, _, Nat.zero_le _, rfl, HF.out, FOkN.new z, rfl⟩
  case round =>
    clear HF
    obtain ⟨j, s, hj, rfl, F, hok, hsz⟩ := hrel
    by_cases hlt : j < n
    · obtain ⟨b, off, rfl⟩ := hs.sl.form (by omega)
      have hjl : j < ss.length := by rw [HLs.out.1]; exact hlt
      obtain ⟨ba, bn, bc, c0, c1, c2, c3, c4, sb, _, _⟩ := (hs.below F.below).get j hjl
      have hbn : bn ≤ 2097152 := by have h1 := size12_get ss j hjl; have h2 := HZ.out.1; have h3 : ss[j].b.length = bn := by simpa using sb.len
                                    omega
      have k0 : (0 : Int) ≤ (j : Int) := Int.natCast_nonneg _
      have k1 : (j : Int) < (n : Int) := by omega
      generalize ss[j] = t at c0 c1 c2 c3 c4 sb
      have hkk := hok.ok (by omega)
      have HD := Lib.hid (F.step (fun G hf _ => does12 wr hf hkk t sb hbn))
      have HK := Lib.hid (And.intro (doesF_ok hok t) hsz)
      clear hok hkk hsz sb hbn
      go_wp2_with (first | (at_builtin; refine Stopped.out ?_) | (at_make; refine Stopped.out ?_))
      refine HD.out.mono ?_
      rintro e w5 ⟨rfl, F5⟩
      have HF := Lib.hid F5
      clear F F5 HD
      go_wp2
      first | go_roundw | refine ⟨?rel, ?measure⟩
      case rel => exact ⟨j + 1, _, by omega, by go_num, HF.out, HK.out.1.1, HK.out.1.2.trans HK.out.2⟩
      case measure => simp [intOf]; omega
    · have HO := Lib.hid (And.intro (hok.more (show j ≤ 400 by omega)) hsz)
      clear hok hsz
      go_wp2_with (first | (at_builtin; refine Stopped.out ?_) | (at_make; refine Stopped.out ?_))
      obtain ⟨Gx, fx, _⟩ := F.out
      refine (flash_Files _ fx (by have h1 := HO.out.1.b0; have h2 := HO.out.1.size; omega) (by have h1 := HO.out.1.b1; have h2 := HO.out.1.size; omega)).mono ?_
      rintro e w5 ⟨A5, B5, rfl, o5, q5, _, hb5⟩
      have F5 := F.then_ hb5
      have s5 := (own_sl' o5).2.1
      have t5 := (own_sl' q5).2.1
      clear F fx o5 q5 hb5
      go_wp2_with (first | (at_builtin; refine Stopped.out ?_) | (at_make; refine Stopped.out ?_))
      refine (flash_Load _ z s5 t5).mono ?_
      rintro e w6 ⟨H, rfl, g6, hb6, hH⟩
      have e6 : s.b0.take (capF z) = s.b0 := List.take_of_length_le (by have h1 := HO.out.1.b0; have h2 := HO.out.2; omega)
      have e7 : s.b1.take (capF z) = s.b1 := List.take_of_length_le (by have h1 := HO.out.1.b1; have h2 := HO.out.2; omega)
      rw [e6, e7] at g6
      have T6 : Two W w6 p w5.heap.size s ⟨capF z, s.b0, s.b1, [], 0, 0, false⟩ [] [] := by
        obtain ⟨G, f5, hG⟩ := F5.out
        exact ⟨⟨G, H, f5.below hb6, g6, fun x hx hy => by have h1 := f5.lts x hx; have h2 := hH x hy; omega, Many.nil _ _ _ _, fun x hx => (List.mem_append.1 hx).elim (hG x) (fun h => Nat.le_trans F5.below.size (hH x h))⟩, bthen F5.below hb6⟩
      obtain ⟨q, hq⟩ : ∃ q, q = w5.heap.size := ⟨_, rfl⟩
      rw [← hq] at T6
      rw [← hq]
      clear hq e6 e7 g6 hb6 hH F5 s5 t5
      go_wp2_with (first | (at_builtin; refine Stopped.out ?_) | (at_make; refine Stopped.out ?_))
      refine (T6.step (fun G hf _ => flash_Disarm _ hf)).mono ?_
      rintro e w7 ⟨rfl, T7⟩
      clear T6
      go_wp2_with (first | (at_builtin; refine Stopped.out ?_) | (at_make; refine Stopped.out ?_))
      refine (T7.step (fun G hf _ => flash_Restart _ hf)).mono ?_
      rintro e w8 ⟨rfl, T8⟩
      clear T7
      obtain ⟨rs, hrs⟩ : ∃ r : Int, r = (if s.down = true then (0 : Int) else 123) := ⟨_, rfl⟩
      rw [← hrs]
      clear hrs
      go_wp2_with (first | (at_builtin; refine Stopped.out ?_) | (at_make; refine Stopped.out ?_))
      obtain ⟨Gx, gx⟩ := T8.snd
      refine (flash_Down _ gx).mono ?_
      rintro e w9 ⟨rfl, rfl⟩
      go_wp2_with (first | (at_builtin; refine Stopped.out ?_) | (at_make; refine Stopped.out ?_))
      refine (flash_Writes _ gx).mono ?_
      rintro e w9 ⟨rfl, rfl⟩
      clear gx
      obtain ⟨Gy, fy⟩ := T8.fst
      go_wp2_with (first | (at_builtin; refine Stopped.out ?_) | (at_make; refine Stopped.out ?_))
      refine (flash_Down _ fy).mono ?_
      rintro e w9 ⟨rfl, rfl⟩
      clear fy
      have HT : Hid (∃ s' t', Two W w8 p q s' t' [] [] ∧ FOkN 401 s' ∧ FOkN 401 t' ∧ core s' = core t') := Lib.hid ⟨_, _, T8,
        ⟨HO.out.1.size, HO.out.1.b0, HO.out.1.b1, by have := HO.out.1.writes; simp only; omega, Nat.zero_le _, by simp, by simp⟩,
        ⟨capF_le z, by rw [← HO.out.2]; exact HO.out.1.b0, by rw [← HO.out.2]; exact HO.out.1.b1, Nat.zero_le _, Nat.zero_le _, by simp, by simp⟩,
        by simp [core, HO.out.2]⟩
      clear T8
      go_wp2_with (first | (at_builtin; refine Stopped.out ?_) | (at_make; refine Stopped.out ?_))
      go_loopw [12] (fun i wr => ∃ (j : Nat) (s t : FSt), j ≤ m ∧ i = .int .i64 j ∧ Two W wr p q s t [] [] ∧ FOkN (401 + j) s ∧ FOkN (401 + j) t ∧ core s = core t) (fun i _ => m - (intOf i).toNat)
      case atStart =>
        obtain ⟨s', t', h1, h2, h3, h4⟩ := HT.out
        exact ⟨0, s', t', Nat.zero_le _, rfl, h1, h2, h3, h4⟩
      case round =>
        clear HT HO
        obtain ⟨j, s, t, hj, rfl, T, ok1, ok2, hc⟩ := hrel
        by_cases hlt : j < m
        · obtain ⟨b, off, rfl⟩ := ht.sl.form (by omega)
          have hjl : j < ts.length := by rw [HLs.out.2]; exact hlt
          obtain ⟨ba, bn, bc, a0, a1, a2, a3, a4, sb, _, _⟩ := ht.get j hjl
          have HC := Lib.hid (And.intro a0 (And.intro a1 (And.intro a2 (And.intro a3 a4))))
          have T0 := T.then_ ((Below.refl _ wr).drew)
          have c0 := cell_below a0 T0.below
          have c1 := cell_below a1 T0.below
          have c2 := cell_below a2 T0.below
          have c3 := cell_below a3 T0.below
          have c4 := cell_below a4 T0.below
          have hbn : bn ≤ 2097152 := by have h1 := size12_get ts j hjl; have h2 := HZ.out.2; have h3 : ts[j].b.length = bn := by simpa using sb.len
                                        omega
          have k0 : (0 : Int) ≤ (j : Int) := Int.natCast_nonneg _
          have k1 : (j : Int) < (m : Int) := by omega
          generalize ts[j] = x at a0 a1 a2 a3 a4 c0 c1 c2 c3 c4 sb HC
          have ok1' := ok1.ok (by omega)
          have ok2' := ok2.ok (by omega)
          have HD := Lib.hid (T0.step (fun G hf _ => does12 wr.drew hf ok1' x (sb.below T0.below) hbn))
          have HX := Lib.hid (fun (w9 : World) (T9 : Two W w9 p q (doesF s x).1 t [] []) => T9.swap.step (fun G hf _ => does12 w9 hf ok2' x (sb.below T9.below) hbn))
          have HK := Lib.hid (And.intro (And.intro (doesF_ok ok1 x).1 (doesF_ok ok2 x).1) (doesF_core hc x))
          clear a0 a1 a2 a3 a4 ok1 ok2 ok1' ok2' hc sb hbn T T0
          go_wp2_with fail
          go_region_held3 (fun w' => w'.cell? ⟨b, off + j * 5, none⟩ = some (.int .i64 x.kd) ∧ w'.cell? ⟨b, off + j * 5 + 1, none⟩ = some (.int .i64 x.bank) ∧ w'.cell? ⟨b, off + j * 5 + 2, none⟩ = some (.slice ba bn bc) ∧ w'.cell? ⟨b, off + j * 5 + 3, none⟩ = some (.int .i64 x.x) ∧ w'.cell? ⟨b, off + j * 5 + 4, none⟩ = some (.int .i64 x.y))
            (first | exact e0 | exact d0 | exact ⟨c0, c1, c2, c3, c4⟩ | go_keep)
            (first
              | (go_at_call 37; refine (HX.out _ T9).mono ?_; rintro e w10 ⟨rfl, T10⟩; have e0 := And.intro (cell_below HC.out.1 T10.below) (And.intro (cell_below HC.out.2.1 T10.below) (And.intro (cell_below HC.out.2.2.1 T10.below) (And.intro (cell_below HC.out.2.2.2.1 T10.below) (cell_below HC.out.2.2.2.2 T10.below)))))
              | (go_at_call 37; refine HD.out.mono ?_; rintro e w9 ⟨rfl, T9⟩; have d0 := And.intro (cell_below HC.out.1 T9.below) (And.intro (cell_below HC.out.2.1 T9.below) (And.intro (cell_below HC.out.2.2.1 T9.below) (And.intro (cell_below HC.out.2.2.2.1 T9.below) (cell_below HC.out.2.2.2.2 T9.below))))))
          rw [← HK.out.2.2]
          have HF := Lib.hid T10.swap
          clear T9 T10 d0 e0 HD HX
          obtain ⟨er, her⟩ : ∃ er : Nat, er = (doesF s x).2 := ⟨_, rfl⟩
          rw [← her]
          have q1 : ((er : Int) != (er : Int)) = false := by simp
          clear her
          go_wp2
          first | go_roundw | refine ⟨?rel, ?measure⟩
          case rel => exact ⟨j + 1, _, _, by omega, by go_num, HF.out, HK.out.1.1, HK.out.1.2, HK.out.2.1⟩
          case measure => simp [intOf]; omega
        · obtain ⟨k, rfl⟩ := core_eq hc
          have HO := Lib.hid ok1
          clear ok1 ok2 hc
          go_wp2_with (first | (at_builtin; refine Stopped.out ?_) | (at_make; refine Stopped.out ?_))
          obtain ⟨Gx, fx⟩ := T.fst
          refine (flash_Files _ fx (by have h1 := HO.out.b0; have h2 := HO.out.size; omega) (by have h1 := HO.out.b1; have h2 := HO.out.size; omega)).mono ?_
          rintro e w9 ⟨A9, B9, rfl, o9, q9, _, hb9⟩
          have T9 := T.then_ hb9
          have s9 := (own_sl' o9).2.1
          have t9 := (own_sl' q9).2.1
          clear T fx o9 q9 hb9
          go_wp2_with (first | (at_builtin; refine Stopped.out ?_) | (at_make; refine Stopped.out ?_))
          obtain ⟨Gx, gx⟩ := T9.snd
          refine (flash_Files _ gx (by have h1 := HO.out.b0; have h2 := HO.out.size; show s.b0.length ≤ _; omega) (by have h1 := HO.out.b1; have h2 := HO.out.size; show s.b1.length ≤ _; omega)).mono ?_
          rintro e w10 ⟨A10, B10, rfl, o10, q10, _, hb10⟩
          have T10 := T9.then_ hb10
          have s10 := (own_sl' o10).2.1
          have t10 := (own_sl' q10).2.1
          have s9' := s9.below hb10
          have t9' := t9.below hb10
          clear T9 gx o10 q10 hb10 s9 t9
          go_wp2_with (first | (at_builtin; refine Stopped.out ?_) | (at_make; refine Stopped.out ?_))
          refine (same12 _ s9' s10).mono ?_
          rintro e w11 ⟨rfl, hd11⟩
          rw [decide_eq_true (show s.b0 = s.b0 from rfl)]
          go_wp2_with (first | (at_builtin; refine Stopped.out ?_) | (at_make; refine Stopped.out ?_))
          refine (same12 _ (t9'.below hd11.below) (t10.below hd11.below)).mono ?_
          rintro e w12 ⟨rfl, hd12⟩
          rw [decide_eq_true (show s.b1 = s.b1 from rfl)]
          have T12 := (T10.then_ hd11.below).then_ hd12.below
          clear T10 s9' s10 t9' t10 hd11 hd12
          obtain ⟨Gx, fx⟩ := T12.fst
          obtain ⟨Gy, gx⟩ := T12.snd
          go_wp2_with (first | (at_builtin; refine Stopped.out ?_) | (at_make; refine Stopped.out ?_))
          refine (flash_Down _ fx).mono ?_
          rintro e w13 ⟨rfl, rfl⟩
          go_wp2_with (first | (at_builtin; refine Stopped.out ?_) | (at_make; refine Stopped.out ?_))
          refine (flash_Down _ gx).mono ?_
          rintro e w13 ⟨rfl, rfl⟩
          go_wp2
          go_ret
          exact ⟨by simp, T12.below⟩
end Go.Proofs.Ytpjmbhhfpoamnaa
