import Derived.Test.YtpjmbhhfpoamnaaDoes13
import Derived.Test.YtpjmbhhfpoamnaaMarks
set_option linter.unusedVariables false
set_option linter.unusedSimpArgs false
namespace Go.Proofs.Ytpjmbhhfpoamnaa
open Go.RowKit
def roomL12 (l : List UInt8) : List UInt8 := l ++ List.replicate 64 201
theorem roomL12_len (l : List UInt8) : (roomL12 l).length = l.length + 64 := by simp [roomL12]
set_option maxRecDepth 100000 in
set_option maxHeartbeats 800000 in
theorem roomy12 (w : World) {A : Option Addr} {n c : Nat} {l : List UInt8} (ha : Sl w 1 A n c (l.map by8)) (hn : n ≤ 100000000) :
    Calls Try.prog 40 #[.slice A n c] w fun e w' => ∃ v, e = .returned v ∧ w'.ownsRow w.heap.size 5 1 v (n + 64) ((roomL12 l).map by8) ∧ Below w.heap.size w w' := by
  have hla : l.length = n := by simpa using ha.len
  have h1 := ha.le; have h2 := ha.max
  have HA := Lib.hid hla
  clear hla
  go_enter Try.func40, Try.ntmps40
  go_wp2
  go_loopw [3, 4] (fun o i wr => ∃ (k : Nat) (v : Value), k ≤ n ∧ i = .int .i64 k ∧ o = v ∧ wr.ownsRow w.heap.size 5 1 v k ((l.take k).map by8) ∧ Below w.heap.size w wr) (fun _ i _ => n - (intOf i).toNat)
  case atStart => exact ⟨0, _, by omega, rfl, rfl, World.ownsRow_nil .., Below.refl _ _⟩
  case round =>
    obtain ⟨k, v, hk, rfl, rfl, hst, hbl⟩ := hrel
    by_cases hlt : k < n
    · obtain ⟨b, off, rfl⟩ := ha.form (by omega)
      have g := (ha.below hbl).byte k hlt
      have hk0 : (0 : Int) ≤ (k : Int) := Int.natCast_nonneg _
      have hk1 : (k : Int) < (n : Int) := by omega
      have HT := Lib.hid (take_bt l k (by rw [HA.out]; exact hlt))
      have hq := bt_lt l k
      obtain ⟨q, hqq⟩ : ∃ q, q = bt l k := ⟨_, rfl⟩
      rw [← hqq] at g HT hq
      clear hqq
      go_wp2_with (first | (at_builtin; refine Stopped.out ?_) | (at_make; refine Stopped.out ?_))
      refine Stopped.mk (ap_own EF rfl _ _ rfl rfl (hst.alloc _) rfl (Sl.fresh wr [_] 5 1 1 rfl (by decide)) (by simp [Value.oneCell']) (by simp only [maxLen]; omega) (by omega) (by have := hbl.size; simp; omega) ?_)
      intro v2 w2 hst2 hg2 _
      go_wp2
      first | go_roundw | refine ⟨?rel, ?measure⟩
      case rel =>
        refine ⟨k + 1, v2, by omega, by go_num, rfl, ?_, (hbl.alloc hbl.size _).grown hg2 (by have := hbl.size; simp; omega) (fun k hk => (hst.lt k hk).1)⟩
        rw [HT.out, List.map_append]
        have e5 : [UInt8.ofNat q].map by8 = [Value.int .u8 (q : Int)] := by simp [by8]; omega
        rw [e5]
        exact hst2
      case measure => simp [intOf]; omega
    · obtain rfl : k = n := by omega
      go_wp2
      go_loopw [3, 5] (fun o i wr => ∃ (j : Nat) (v : Value), j ≤ 64 ∧ i = .int .i64 j ∧ o = v ∧ wr.ownsRow w.heap.size 5 1 v (k + j) ((l ++ List.replicate j 201).map by8) ∧ Below w.heap.size w wr) (fun _ i _ => 64 - (intOf i).toNat)
      case atStart => exact ⟨0, _, by omega, rfl, rfl, by rw [List.take_of_length_le (Nat.le_of_eq HA.out)] at hst; simpa using hst, hbl⟩
      case round =>
        clear hst hbl
        obtain ⟨j, v, hj, rfl, rfl, hst, hbl⟩ := hrel
        by_cases hlt : j < 64
        · have hj1 : (j : Int) < 64 := by omega
          go_wp2_with (first | (at_builtin; refine Stopped.out ?_) | (at_make; refine Stopped.out ?_))
          refine Stopped.mk (ap_own EF rfl _ _ rfl rfl (hst.alloc _) rfl (Sl.fresh wr [_] 5 1 1 rfl (by decide)) (by simp [Value.oneCell']) (by simp only [maxLen]; omega) (by omega) (by have := hbl.size; simp; omega) ?_)
          intro v2 w2 hst2 hg2 _
          go_wp2
          first | go_roundw | refine ⟨?rel, ?measure⟩
          case rel =>
            refine ⟨j + 1, v2, by omega, by go_num, rfl, ?_, (hbl.alloc hbl.size _).grown hg2 (by have := hbl.size; simp; omega) (fun k hk => (hst.lt k hk).1)⟩
            rw [List.replicate_succ', ← List.append_assoc, List.map_append]
            exact hst2
          case measure => simp [intOf]; omega
        · obtain rfl : j = 64 := by omega
          go_wp2
          go_ret
          exact ⟨_, rfl, hst, hbl⟩
set_option maxRecDepth 100000 in
set_option maxHeartbeats 1600000 in
/-- a row of one's own is looked at, and written full -/
theorem wiped12 (w : World) {base : Nat} {A B : Option Addr} {n c m d : Nat} {l : List UInt8} (o : w.ownsRow base 5 1 (.slice A m c) m ((roomL12 l).map by8)) (hb : Sl w 1 B n d (l.map by8)) (hn : n ≤ 100000000) :
    Calls Try.prog 41 #[.slice A m c, .slice B n d] w fun e w' => e = .returned (.bool true) ∧ (∃ xs : List UInt8, xs.length = m ∧ w'.ownsRow base 5 1 (.slice A m c) m (xs.map by8)) ∧ Keep (Value.slice A m c).ownBlock.toList w w' := by
  have hm : (roomL12 l).length = m := by simpa using o.1
  have h1 := (own_sl' o).2.1.le; have h2 := (own_sl' o).2.1.max
  have HM := Lib.hid hm
  have hlt : m ≤ 200000000 := by rw [← hm, roomL12_len]; have : l.length = n := by simpa using hb.len
                                 omega
  clear hm
  go_enter Try.func41, Try.ntmps41
  go_wp2_with (first | (at_builtin; refine Stopped.out ?_) | (at_make; refine Stopped.out ?_))
  refine (roomy12 _ hb hn).mono ?_
  rintro e w1 ⟨v1, rfl, o1, hb1⟩
  obtain ⟨A1, c1, rfl, s1, _⟩ := own_sl o1
  have oo := own_below o hb1
  have HO := Lib.hid (And.intro oo hb1)
  clear hb1 o1 o hb
  go_wp2_with (first | (at_builtin; refine Stopped.out ?_) | (at_make; refine Stopped.out ?_))
  refine (same12 _ (own_sl' oo).2.1 s1).mono ?_
  rintro e w2 ⟨rfl, hd⟩
  rw [decide_eq_true (show roomL12 l = roomL12 l from rfl)]
  have HP := Lib.hid (And.intro (own_below HO.out.1 hd.below) (Keep.of_below (bthen HO.out.2 hd.below) (Value.slice A m c).ownBlock.toList))
  clear HO hd s1 oo
  go_wp2
  go_loopw [6] (fun i wr => ∃ (k : Nat) (xs : List UInt8), k ≤ m ∧ i = .int .i64 k ∧ xs.length = m ∧ wr.ownsRow base 5 1 (.slice A m c) m (xs.map by8) ∧ Keep (Value.slice A m c).ownBlock.toList w wr) (fun i _ => m - (intOf i).toNat)
  case atStart => exact ⟨0, _, Nat.zero_le _, rfl, HM.out, HP.out.1, HP.out.2⟩
  case round =>
    obtain ⟨k, xs, hk, rfl, hx, o2, hk2⟩ := hrel
    by_cases hlt : k < m
    · have i1 : (k : Int) < (m : Int) := by omega
      have i0 : (0 : Int) ≤ (k : Int) := Int.natCast_nonneg _
      obtain ⟨g, c', e, _⟩ := own_form o2 (by omega)
      injection e with e1 e2 e3
      subst e1
      obtain ⟨v0, hc0⟩ := own_cell o2 k (by omega)
      have hf0 := o2.frozenAt k
      have HN := Lib.hid (And.intro (o2.stored k (.int .u8 7)).1 (hk2.setCell (p := ⟨g, k, none⟩) (.inl (by simp [Value.ownBlock])) (.int .u8 7)))
      have HX := Lib.hid hx
      clear o2 hk2 hx
      go_wp2
      first | go_roundw | refine ⟨?rel, ?measure⟩
      case rel =>
        refine ⟨k + 1, xs.set k 7, by omega, by go_num, by rw [List.length_set]; exact HX.out, ?_, HN.out.2⟩
        have := HN.out.1
        rw [List.map_set]
        exact this
      case measure => simp [intOf]; omega
    · have HF := Lib.hid (And.intro hx (And.intro o2 hk2))
      clear hx o2 hk2
      go_wp2
      go_ret
      exact ⟨rfl, ⟨xs, HF.out.1, HF.out.2.1⟩, HF.out.2.2⟩
set_option maxRecDepth 100000 in
set_option maxHeartbeats 1600000 in
/-- a row of one's own is written full, and gone on with -/
theorem spoilt12 (w : World) {base : Nat} {A : Option Addr} {n c : Nat} {l : List UInt8} (o : w.ownsRow base 5 1 (.slice A n c) n (l.map by8)) (hn : n ≤ 100000000) (hbs : base ≤ w.heap.size) (q : Nat) (hq : q < 256) :
    Calls Try.prog 77 #[.slice A n c, .int .u8 q] w fun e w' => e = .returned (.bool true) ∧ Keep (Value.slice A n c).ownBlock.toList w w' := by
  have hl : l.length = n := by simpa using o.1
  have h1 := (own_sl' o).2.1.le; have h2 := (own_sl' o).2.1.max
  have hA : ∀ k, (Value.slice A n c).ownBlock = some k → k < w.heap.size := fun k hk => (o.lt k hk).2
  have HO := Lib.hid (And.intro hl (And.intro o hA))
  have HB := Lib.hid hbs
  clear hl o hA hbs
  go_enter Try.func77, Try.ntmps77
  go_wp2
  go_loopw [5] (fun i wr => ∃ (k : Nat) (xs : List UInt8), k ≤ n ∧ i = .int .i64 k ∧ xs.length = n ∧ wr.ownsRow base 5 1 (.slice A n c) n (xs.map by8) ∧ Keep (Value.slice A n c).ownBlock.toList w wr) (fun i _ => n - (intOf i).toNat)
  case atStart => exact ⟨0, l, Nat.zero_le _, rfl, HO.out.1, HO.out.2.1, Keep.refl _ _⟩
  case round =>
    obtain ⟨k, xs, hk, rfl, hx, o2, hk2⟩ := hrel
    by_cases hlt : k < n
    · have i1 : (k : Int) < (n : Int) := by omega
      have i0 : (0 : Int) ≤ (k : Int) := Int.natCast_nonneg _
      obtain ⟨g, c', e, _⟩ := own_form o2 (by omega)
      injection e with e1 e2 e3
      subst e1
      obtain ⟨v0, hc0⟩ := own_cell o2 k (by omega)
      have hf0 := o2.frozenAt k
      have HN := Lib.hid (And.intro (o2.stored k (.int .u8 q)).1 (hk2.setCell (p := ⟨g, k, none⟩) (.inl (by simp [Value.ownBlock])) (.int .u8 q)))
      have HX := Lib.hid hx
      clear o2 hk2 hx
      go_wp2
      first | go_roundw | refine ⟨?rel, ?measure⟩
      case rel =>
        refine ⟨k + 1, xs.set k (UInt8.ofNat q), by omega, by go_num, by rw [List.length_set]; exact HX.out, ?_, HN.out.2⟩
        have := HN.out.1
        rw [List.map_set, show by8 (UInt8.ofNat q) = .int .u8 (q : Int) by simp [by8]; omega]
        exact this
      case measure => simp [intOf]; omega
    · have HF := Lib.hid (And.intro hx (And.intro o2 hk2))
      obtain ⟨w1, rfl⟩ : ∃ x, x = wr := ⟨_, rfl⟩
      clear hx o2 hk2
      go_wp2
      go_loopw [6, 7] (fun o i wr => ∃ (j : Nat) (v : Value), j ≤ 64 ∧ i = .int .i64 j ∧ o = v ∧ wr.ownsRow w1.heap.size 5 1 v j ((List.replicate j (UInt8.ofNat q)).map by8) ∧ Below w1.heap.size w1 wr) (fun _ i _ => 64 - (intOf i).toNat)
      case atStart => exact ⟨0, _, by omega, rfl, rfl, World.ownsRow_nil .., Below.refl _ _⟩
      case round =>
        obtain ⟨j, v, hj, rfl, rfl, hst, hbl⟩ := hrel
        by_cases hlt : j < 64
        · have hj1 : (j : Int) < 64 := by omega
          go_wp2_with (first | (at_builtin; refine Stopped.out ?_) | (at_make; refine Stopped.out ?_))
          refine Stopped.mk (ap_own EF rfl (.tmp 24) (.tmp 26) rfl rfl (hst.alloc _) rfl (Sl.fresh wr [_] 5 1 1 rfl (by decide)) (by simp [Value.oneCell']) (by simp only [maxLen]; omega) (by omega) (by have := hbl.size; simp; omega) ?_)
          intro v2 w2 hst2 hg2 _
          have HN := Lib.hid (And.intro hst2 ((hbl.alloc hbl.size _).grown hg2 (by have := hbl.size; simp; omega) (fun k hk => (hst.lt k hk).1)))
          clear hst hbl hst2 hg2
          go_wp2
          first | go_roundw | refine ⟨?rel, ?measure⟩
          case rel =>
            refine ⟨j + 1, v2, by omega, by go_num, rfl, ?_, HN.out.2⟩
            rw [List.replicate_succ', List.map_append, show [UInt8.ofNat q].map by8 = [.int .u8 (q : Int)] by simp [by8]; omega]
            exact HN.out.1
          case measure => simp [intOf]; omega
        · have HJ2 := Lib.hid (show j = 64 by omega)
          rw [HJ2.out] at hst
          have hk3 := HF.out.2.2
          have o3 := HF.out.2.1
          have hk4 := hk3.trans (Keep.of_below hbl (Value.slice A n c).ownBlock.toList)
          have o4 := own_below o3 hbl
          obtain ⟨gt, ct, rfl, hgt, _, hct⟩ := own_form hst (by decide)
          have hgl : w.heap.size ≤ gt := Nat.le_trans hk3.size hgt
          have HS : Hid (wr.ownsRow w1.heap.size 5 1 (.slice (some ⟨gt, 0, none⟩) 64 ct) 64 ((List.replicate 64 (UInt8.ofNat q)).map by8) ∧ xs.length = n ∧ w.heap.size ≤ gt ∧ wr.ownsRow base 5 1 (.slice A n c) n (xs.map by8) ∧ Keep (Value.slice A n c).ownBlock.toList w wr) := Lib.hid ⟨hst, HF.out.1, hgl, o4, hk4⟩
          have hct2 := (own_sl' hst).2.1.max
          have hgtw := (hst.lt gt rfl).2
          clear hst hbl HF hk3 o3 hk4 o4
          obtain ⟨w2, rfl⟩ : ∃ x, x = wr := ⟨_, rfl⟩
          go_wp2
          go_loopw [8, 9] (fun o i wr => ∃ (j : Nat) (v : Value), j ≤ 64 ∧ i = .int .i64 j ∧ o = v ∧ wr.ownsRow base 5 1 v (n + j) ((xs ++ List.replicate j (UInt8.ofNat q)).map by8) ∧ wr.ownsRow w1.heap.size 5 1 (.slice (some ⟨gt, 0, none⟩) 64 ct) 64 ((List.replicate 64 (UInt8.ofNat q)).map by8) ∧ Keep (Value.slice A n c).ownBlock.toList w wr ∧ (∀ k, v.ownBlock = some k → k ≠ gt ∧ ((Value.slice A n c).ownBlock = some k ∨ w.heap.size ≤ k))) (fun _ i _ => 64 - (intOf i).toNat)
          case atStart => exact ⟨0, _, by omega, rfl, rfl, by simpa using HS.out.2.2.2.1, HS.out.1, HS.out.2.2.2.2, fun k hk => ⟨fun e => by have h5 := HO.out.2.2 k hk; have h6 := HS.out.2.2.1; omega, .inl hk⟩⟩
          case round =>
            obtain ⟨j, v, hj, rfl, rfl, hst, htl, hkk, hap⟩ := hrel
            have HX := Lib.hid HS.out.2.1
            by_cases hlt : j < 64
            · have hj1 : (j : Int) < 64 := by omega
              have hj0 : (0 : Int) ≤ (j : Int) := Int.natCast_nonneg _
              have gq : wr.cell? ⟨gt, j, none⟩ = some (.int .u8 (q : Int)) := by
                have := (own_sl' htl).2.1.byte j (by omega)
                have e2 : bt (List.replicate 64 (UInt8.ofNat q)) j = q := by
                  unfold bt
                  rw [List.getElem?_replicate, if_pos hlt]
                  simp; omega
                rw [e2, Nat.zero_add] at this
                exact this
              go_wp2_with (first | (at_builtin; refine Stopped.out ?_) | (at_make; refine Stopped.out ?_))
              refine Stopped.mk (apk_own EF rfl (.tmp 35) (.tmp 40) rfl rfl (own_below hst ((Below.refl _ wr).alloc (Nat.le_refl _) _)) rfl (Sl.fresh wr [_] 5 1 1 rfl (by decide)) (by simp [Value.oneCell']) (by simp only [maxLen]; omega) (by omega) (by have := HB.out; have := hkk.size; simp; omega) ?_)
              intro v2 w2 hst2 hg2 hb2
              have hgtl := (htl.lt gt rfl).2
              have hkv : Keep u8.ownBlock.toList (wr.alloc (.cells #[.int .u8 (q : Int)] 5)) w2 := (Keep.refl _ _).grown hg2 (fun k hk => .inl (by have hk' : u8.ownBlock = some k := hk; simp [hk']))
              have HN : Hid (w2.ownsRow base 5 1 v2 (n + (j + 1)) ((xs ++ List.replicate (j + 1) (UInt8.ofNat q)).map by8) ∧ w2.ownsRow w1.heap.size 5 1 (.slice (some ⟨gt, 0, none⟩) 64 ct) 64 ((List.replicate 64 (UInt8.ofNat q)).map by8) ∧ Keep (Value.slice A n c).ownBlock.toList w w2 ∧ (∀ k, v2.ownBlock = some k → k ≠ gt ∧ ((Value.slice A n c).ownBlock = some k ∨ w.heap.size ≤ k))) := Lib.hid (by
                refine ⟨?_, hkv.own (own_below htl ((Below.refl _ wr).alloc (Nat.le_refl _) _)) (fun k hk hx => ?_), (hkk.alloc _).grown hg2 (fun k hk => ?_), fun k hk => ?_⟩
                · rw [List.replicate_succ', ← List.append_assoc, List.map_append, show [UInt8.ofNat q].map by8 = [.int .u8 (q : Int)] by simp [by8]; omega]
                  exact hst2
                · obtain rfl := Option.some.inj hk
                  exact (hap gt (by simpa using hx)).1 rfl
                · rcases (hap k hk).2 with h | h
                  · exact .inl (by simp [h])
                  · exact .inr h
                · rcases hb2 k hk with h | h
                  · exact hap k h
                  · subst h
                    refine ⟨fun e => by simp at e; omega, .inr ?_⟩
                    have := hkk.size
                    simp; omega)
              clear hst htl hkk hap hst2 hg2 hb2 gq hkv
              go_wp2
              first | go_roundw | refine ⟨?rel, ?measure⟩
              case rel => exact ⟨j + 1, v2, by omega, by go_num, rfl, HN.out.1, HN.out.2.1, HN.out.2.2.1, HN.out.2.2.2⟩
              case measure => simp [intOf]; omega
            · have HJ := Lib.hid (show j = 64 by omega)
              rw [HJ.out] at hst
              obtain ⟨gl, cl, rfl, _, _, hcl⟩ := own_form hst (by omega)
              have sd := own_drop hst n (by omega)
              have hcm := (own_sl' hst).2.1.max
              have ed : ((xs ++ List.replicate 64 (UInt8.ofNat q)).map by8).drop n = (List.replicate 64 (UInt8.ofNat q)).map by8 := by
                rw [← List.map_drop, List.drop_append, List.drop_of_length_le (by have := HX.out; omega), show n - xs.length = 0 by have := HX.out; omega]
                rfl
              rw [ed, show n + 64 - n = 64 by omega] at sd
              have hS := same12 wr sd (own_sl' htl).2.1
              rw [decide_eq_true rfl] at hS
              have HSS := Lib.hid hS
              have HKK := Lib.hid hkk
              have q1 : (n : Int) ≤ (cl : Int) := by omega
              have q2 : ¬ cl = n := by omega
              have q3 : n + 64 - n = 64 := by omega
              clear hst sd ed hS htl hkk hap
              go_wp2_with (first | (at_builtin; refine Stopped.out ?_) | (at_make; refine Stopped.out ?_))
              refine HSS.out.mono ?_
              rintro e w9 ⟨rfl, hd⟩
              have HZ := Lib.hid (HKK.out.trans (Keep.of_below hd.below (Value.slice A n c).ownBlock.toList))
              clear hd HSS
              go_wp2
              go_ret
              exact ⟨rfl, HZ.out⟩
end Go.Proofs.Ytpjmbhhfpoamnaa
