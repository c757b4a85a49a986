import Derived.Test.YtdooabbeolfgfaaBits3
import Derived.Test.YtdooabbeolfgfaaBits5
import Derived.Test.YtdooabbeolfgfaaSame
import Derived.Test.YtdooabbeolfgfaaOpenOp
set_option linter.unusedVariables false
set_option linter.unusedSimpArgs false
namespace Go.Proofs.Ytdooabbeolfgfaa
open Go.RowKit

set_option maxRecDepth 100000 in
set_option maxHeartbeats 800000 in
theorem small01 (w : World) (kd : Int) (a l : Nat) (n : Int) (X Y P : Option Addr) (xn xc yn yc pn pc : Nat) (s : ByteArray) (vs : List Value) (ll : List (List UInt8))
    (hp : Sls w P pn pc vs ll) (hx : xn ≤ 140737488351232) (hy : yn ≤ 140737488351232) (hs : s.size ≤ 140737488351232) (hpn : pn ≤ 140737488351232) :
    Calls Try.prog 19 #[.agg #[.int .i64 kd, .int .u32 a, .int .u64 l, .int .i64 n, .slice X xn xc, .slice Y yn yc, .slice P pn pc, .string s]] w fun e w' =>
      e = .returned (.bool (decide (xn + yn + s.size + pn + ll.flatten.length ≤ 4096))) ∧ Below w.heap.size w w' := by
  have HL := Lib.hid hp.len
  have m1 := hp.sl.le; have m2 := hp.sl.max
  obtain ⟨T, hT⟩ : ∃ T, T = ll.flatten.length := ⟨_, rfl⟩
  rw [← hT]
  have HT := Lib.hid hT
  clear hT
  obtain ⟨B, hB⟩ : ∃ B, B = xn + yn + s.size + pn := ⟨_, rfl⟩
  have HB := Lib.hid hB
  have hBle : B ≤ 562949953404928 := by omega
  have e0 : (xn : Int) + yn + s.size + pn = (B : Int) := by omega
  rw [← hB]
  clear hB
  have hbw : Below w.heap.size w (w.alloc (.cells #[.int .i64 kd, .int .u32 a, .int .u64 l, .int .i64 n, .slice X xn xc, .slice Y yn yc, .slice P pn pc, .string s] 27)) := (Below.refl _ _).alloc (Nat.le_refl _) _
  have HPB := Lib.hid (hp.below hbw)
  go_enter Try.func19, Try.ntmps19
  go_wp2
  clear e0
  go_loop [3, 4] (fun m i => ∃ (k q : Nat), k ≤ pn ∧ i = .int .i64 k ∧ m = .int .i64 q ∧ Hid (q = B + (ll.take k).flatten.length) ∧ (q ≤ 4096 ∨ k = 0) ∧ q ≤ 562949953404928) (fun _ i => pn - (intOf i).toNat)
  case atStart => exact ⟨0, B, by omega, rfl, rfl, Lib.hid (by simp), by omega, hBle⟩
  case round =>
    obtain ⟨k, q, hk, rfl, rfl, hq, hq2, hq3⟩ := hrel
    by_cases hlt : k < pn
    · obtain ⟨b, off, rfl⟩ := hp.sl.form (by omega)
      obtain ⟨a2, m3, c2, g, s2, hm2⟩ := (HPB.out).get k hlt
      have HM : Hid (q + m3 = B + (ll.take (k + 1)).flatten.length) := Lib.hid (by rw [flat_take ll k (by rw [HL.out]; exact hlt), List.length_append, ← Nat.add_assoc, ← hq.out, ← hm2])
      have hle : q + m3 ≤ B + T := by rw [HM.out, HT.out]; have := flat_take_le ll (k + 1); omega
      obtain ⟨a3, m4, c3, h1, h2, h3⟩ := hp.at_ k _ (List.getElem?_eq_getElem (by rw [HL.out]; exact hlt))
      have hm3 : m3 ≤ 140737488351232 := by have := h2.len; simp at this; omega
      clear s2 hm2 h1 h2 h3
      by_cases hbig : 4096 < q + m3
      · have HF : Hid (decide (B + T ≤ 4096) = false) := Lib.hid (decide_eq_false (by omega))
        clear hq2
        go_wp2
        go_ret
        exact ⟨by (rw [HF.out]) <;> rfl, hbw⟩
      · clear hq2
        go_wp2
        first | go_round | refine ⟨?rel, ?measure⟩
        case rel => exact ⟨k + 1, q + m3, by omega, by go_num, by go_num, HM, by omega, by omega⟩
        case measure => simp [intOf]; omega
    · obtain rfl : k = pn := by omega
      have HE : Hid (q = B + T) := Lib.hid (by rw [hq.out, HT.out, List.take_of_length_le (Nat.le_of_eq HL.out)])
      have hqq := HE.out
      by_cases h4 : q ≤ 4096
      · have HF : Hid (decide (B + T ≤ 4096) = true) := Lib.hid (decide_eq_true (by omega))
        clear hqq hq2
        go_wp2
        go_ret
        exact ⟨by (rw [HF.out]) <;> (simp; try omega), hbw⟩
      · have HF : Hid (decide (B + T ≤ 4096) = false) := Lib.hid (decide_eq_false (by omega))
        clear hqq hq2
        go_wp2
        go_ret
        exact ⟨by (rw [HF.out]) <;> (simp; try omega), hbw⟩

/-! ### what is stored is loaded again -/
theorem stBE64_all (x : Nat) : stBE64 x 8 = (List.range 8).map fun i => UInt8.ofNat (x / 256 ^ (7 - i)) := by
  unfold stBE64
  refine List.map_congr_left fun i hi => ?_
  rw [if_pos (by omega)]
theorem stLE64_all (x : Nat) : stLE64 x 8 = (List.range 8).map fun i => UInt8.ofNat (x / 256 ^ i) := by
  unfold stLE64
  refine List.map_congr_left fun i hi => ?_
  rw [if_pos (by simpa using hi)]
theorem stLE32_all (x : Nat) : stLE32 x 4 = (List.range 4).map fun i => UInt8.ofNat (x / 256 ^ i) := by
  unfold stLE32
  refine List.map_congr_left fun i hi => ?_
  rw [if_pos (by simpa using hi)]
theorem st_LE32_len (a : Nat) : (stLE32 a 4).length = 4 := stLE32_len a 4
theorem be_st64 (x : Nat) (hx : x < 18446744073709551616) : be (stBE64 x 8) = x := by
  rw [stBE64_all]
  simp [List.range_succ, be]
  omega
theorem le_st32 (x : Nat) (hx : x < 4294967296) : le (stLE32 x 4) = x := by
  rw [stLE32_all]
  simp [List.range_succ, le]
  omega
theorem be_le (x i : Nat) (h : i < 8) : bt (stBE64 x 8) i = bt (stLE64 x 8) (7 - i) := by
  rw [stBE64_all, stLE64_all, bt_eq _ i (by simpa using h), bt_eq _ (7 - i) (by simp; omega)]
  simp
theorem zip_self (l : List UInt8) : List.zipWith (· ^^^ ·) l l = List.replicate l.length 0 := by
  induction l with
  | nil => rfl
  | cons c l ih => rw [List.zipWith_cons_cons, ih, UInt8.xor_self, List.length_cons, List.replicate_succ]
theorem zip_zero (l : List UInt8) : List.zipWith (· ^^^ ·) (List.replicate l.length 0) l = l := by
  induction l with
  | nil => rfl
  | cons c l ih => simp [ih, List.replicate_succ]
theorem hexVal_dig (v : Nat) (h : v < 16) : hexVal (hexDig v) = some v := by
  unfold hexVal hexDig
  by_cases h2 : v < 10
  · rw [if_pos h2, if_pos (by omega)]; congr 1; omega
  · rw [if_neg h2, if_neg (by omega), if_pos (by omega)]; congr 1; omega
theorem hexDig_val {c v : Nat} (h : hexVal c = some v) : hexDig v = c := by
  unfold hexVal at h
  split at h
  · injection h with h; unfold hexDig; rw [if_pos (by omega)]; omega
  · split at h
    · injection h with h; unfold hexDig; rw [if_neg (by omega)]; omega
    · cases h
theorem hexL_bt (l : List UInt8) (k : Nat) (h : k < l.length) : bt (hexL l) (2 * k) = hexDig (bt l k / 16) ∧ bt (hexL l) (2 * k + 1) = hexDig (bt l k % 16) := by
  have e : hexL l = hexL (l.take k) ++ ([UInt8.ofNat (hexDig (bt l k / 16)), UInt8.ofNat (hexDig (bt l k % 16))] ++ hexL (l.drop (k + 1))) := by
    have h1 : hexL l = hexL (l.take (k + 1)) ++ hexL (l.drop (k + 1)) := by
      unfold hexL
      rw [← List.flatMap_append, List.take_append_drop]
    rw [h1, hexL_take l k h, List.append_assoc]
  have hlen : (hexL (l.take k)).length = 2 * k := by rw [hexL_len, List.length_take]; omega
  have h5 := hexDig_lt (bt l k / 16) (by have := bt_lt l k; omega)
  have h6 := hexDig_lt (bt l k % 16) (by omega)
  constructor
  · rw [e, bt_append_right _ _ _ (by omega), hlen]
    generalize bt l k = q at *
    simp [bt, Nat.mod_eq_of_lt h5]
  · rw [e, bt_append_right _ _ _ (by omega), hlen]
    generalize bt l k = q at *
    simp [bt, Nat.mod_eq_of_lt h6, show 2 * k + 1 - 2 * k = 1 by omega]
theorem unhex_hex (l : List UInt8) : unhexOf (hexL l) = some l := by
  have h : ∀ k, k ≤ l.length → unhexK (hexL l) k = some (l.take k) := by
    intro k
    induction k with
    | zero => intro _; rfl
    | succ k ih =>
      intro hk
      obtain ⟨h1, h2⟩ := hexL_bt l k (by omega)
      have hb := bt_lt l k
      rw [unhexK, ih (by omega), h1, h2, hexVal_dig _ (by omega), hexVal_dig _ (by omega)]
      simp only
      rw [take_bt l k (by omega), show 16 * (bt l k / 16) + bt l k % 16 = bt l k by omega]
  unfold unhexOf
  rw [hexL_len, if_pos (by omega), Nat.mul_div_cancel_left _ (by decide), h _ (Nat.le_refl _), List.take_length]
theorem hex_unhex (l o : List UInt8) (h : unhexOf l = some o) : hexL o = l := by
  unfold unhexOf at h
  split at h
  · rename_i he
    have hk : ∀ k o, k ≤ l.length / 2 → unhexK l k = some o → hexL o = l.take (2 * k) := by
      intro k
      induction k with
      | zero => intro o _ h; injection h with h; subst h; rfl
      | succ k ih =>
        intro o hk h
        rw [unhexK] at h
        split at h
        · rename_i o' a b h1 h2 h3
          injection h with h
          subst h
          have ha := hexVal_lt h2
          have hb := hexVal_lt h3
          have e : hexL (o' ++ [UInt8.ofNat (16 * a + b)]) = hexL o' ++ [UInt8.ofNat (hexDig a), UInt8.ofNat (hexDig b)] := by
            unfold hexL
            rw [List.flatMap_append]
            congr 1
            simp [Nat.mod_eq_of_lt (show 16 * a + b < 256 by omega), show (16 * a + b) / 16 = a by omega, show (16 * a + b) % 16 = b by omega]
          rw [e, ih o' (by omega) h1, show 2 * (k + 1) = 2 * k + 1 + 1 by omega, take_bt l (2 * k + 1) (by omega), take_bt l (2 * k) (by omega), hexDig_val h2, hexDig_val h3]
          simp
        · cases h
    have := hk _ o (Nat.le_refl _) h
    rw [this, List.take_of_length_le (by omega)]
  · cases h

set_option maxRecDepth 100000 in
set_option maxHeartbeats 3200000 in
theorem BitsBack_walk (W : World) (kd : Int) (a l : Nat) (n : Int) (X Y P : Option Addr) (xn xc yn yc pn pc : Nat) (s : ByteArray) (x y : List UInt8) (vs : List Value) (ll : List (List UInt8))
    (ha : a < 4294967296) (hl : l < 18446744073709551616) (sx : Sl W 1 X xn xc (x.map by8)) (sy : Sl W 1 Y yn yc (y.map by8))
    (hp : Sls W P pn pc vs ll) (hx : xn ≤ 140737488351232) (hy : yn ≤ 140737488351232) (hs : s.size ≤ 140737488351232) (hpn : pn ≤ 140737488351232) :
    Calls Try.prog 4 #[.agg #[.int .i64 kd, .int .u32 a, .int .u64 l, .int .i64 n, .slice X xn xc, .slice Y yn yc, .slice P pn pc, .string s]] W fun e w' =>
      e = .returned (.bool true) ∧ Below W.heap.size W w' := by
  obtain ⟨cs, hcs⟩ : ∃ cs : Array Value, cs = #[.int .i64 kd, .int .u32 a, .int .u64 l, .int .i64 n, .slice X xn xc, .slice Y yn yc, .slice P pn pc, .string s] := ⟨_, rfl⟩
  have hB0 : Below W.heap.size W (W.alloc (.cells cs 27)) := (Below.refl _ _).alloc (Nat.le_refl _) _
  have hx0 : (W.alloc (.cells cs 27)).heap[W.heap.size]? = some (.cells cs 27 (0, 0)) := heap_alloc_new W _
  rw [hcs] at hB0 hx0
  have SM := Lib.hid (fun w hp => small01 w kd a l n X Y P xn xc yn yc pn pc s vs ll hp hx hy hs hpn)
  have hxl : x.length = xn := by simpa using sx.len
  have hyl : y.length = yn := by simpa using sy.len
  have HXL := Lib.hid hxl; have HYL := Lib.hid hyl
  clear hcs hxl hyl
  go_enter Try.func4, Try.ntmps4
  go_wp2_with (first | (at_builtin; refine Stopped.out ?_) | (at_make; refine Stopped.out ?_))
  refine (SM.out _ (hp.below hB0)).mono ?_
  rintro e w1 ⟨rfl, hb1⟩
  have hB1 := bthen hB0 hb1
  have hx1 := heap_below hx0 hb1
  clear hb1 hB0 hx0
  by_cases hsm : xn + yn + s.size + pn + ll.flatten.length ≤ 4096
  · rw [decide_eq_true hsm]
    have a1 : xn ≤ 4096 := by omega
    have a2 : yn ≤ 4096 := by omega
    have a3 : s.size ≤ 4096 := by omega
    clear hsm SM hp
    have c2 := box_cell hx1 2 (.int .u64 l) rfl
    go_wp2_with (first | (at_builtin; refine Stopped.out ?_) | (at_make; refine Stopped.out ?_))
    refine (StoreBE64 _ l hl).mono ?_
    rintro e w2 ⟨rfl, o1, hb2⟩
    have hB2 := bthen hB1 hb2
    have hx2 := heap_below hx1 hb2
    clear c2
    have c2 := box_cell hx2 2 (.int .u64 l) rfl
    go_wp2_with (first | (at_builtin; refine Stopped.out ?_) | (at_make; refine Stopped.out ?_))
    refine (StoreLE64 _ l hl).mono ?_
    rintro e w3 ⟨rfl, o2, hb3⟩
    have hB3 := bthen hB2 hb3
    have hx3 := heap_below hx2 hb3
    have o1' := own_below o1 hb3
    clear c2 o1
    have c1 := box_cell hx3 1 (.int .u32 a) rfl
    go_wp2_with (first | (at_builtin; refine Stopped.out ?_) | (at_make; refine Stopped.out ?_))
    refine (StoreBE32 _ a ha).mono ?_
    rintro e w4 ⟨rfl, _, hb4⟩
    have hB4 := bthen hB3 hb4
    have hx4 := heap_below hx3 hb4
    have o1 := own_below o1' hb4
    have o2' := own_below o2 hb4
    clear c1 o1' o2
    obtain ⟨be8, hbe8⟩ : ∃ be8, be8 = stBE64 l 8 := ⟨_, rfl⟩
    obtain ⟨le8, hle8⟩ : ∃ le8, le8 = stLE64 l 8 := ⟨_, rfl⟩
    have HBE : Hid (be be8 = l) := Lib.hid (by rw [hbe8]; exact be_st64 l hl)
    have HBL : Hid (be8.length = 8) := Lib.hid (by rw [hbe8]; exact stBE64_len l 8)
    have HEQ : Hid (∀ i, i < 8 → bt be8 i = bt le8 (7 - i)) := Lib.hid (fun i hi => by rw [hbe8, hle8]; exact be_le l i hi)
    rw [← hbe8] at o1
    rw [← hle8] at o2'
    have s1 := (own_sl' o1).2.1
    have s2 := (own_sl' o2').2.1
    clear hbe8 hle8 o2'
    go_wp2_with (first | (at_builtin; refine Stopped.out ?_) | (at_make; refine Stopped.out ?_))
    go_loopw [5] (fun i wr => ∃ k : Nat, k ≤ 8 ∧ i = .int .i64 k ∧ Drawn w4 wr) (fun i _ => 8 - (intOf i).toNat)
    case atStart => exact ⟨0, by omega, rfl, Drawn.refl _⟩
    case round =>
      obtain ⟨k, hk, rfl, hw⟩ := hrel
      obtain ⟨q, rfl⟩ := hw.out
      by_cases hlt : k < 8
      · have ga := s1.byte k hlt
        have gb := s2.byte (7 - k) (by omega)
        have hk0 : (0 : Int) ≤ (k : Int) := Int.natCast_nonneg _
        have hk1 : (k : Int) < (8 : Int) := by omega
        have hk2 : (0 : Int) ≤ 7 - (k : Int) := by omega
        have hk3 : 7 - (k : Int) < (8 : Int) := by omega
        have hk4 : (7 - (k : Int)).toNat = 7 - k := by omega
        rw [Nat.zero_add] at ga gb
        rw [HEQ.out k hlt] at ga
        obtain ⟨z, hz⟩ : ∃ z : Nat, z = bt le8 (7 - k) := ⟨_, rfl⟩
        rw [← hz] at ga gb
        clear hz
        have hzz : ((z : Int) != z) = false := by simp
        go_wp2
        go_quiet (fail)
        go_wp2
        first | go_roundw | refine ⟨?rel, ?measure⟩
        case rel => exact ⟨k + 1, by omega, by go_num, (by first | exact ⟨⟨_, rfl⟩⟩ | exact ⟨⟨_, World.drewN_drewN ..⟩⟩)⟩
        case measure => simp [intOf]; omega
      · obtain rfl : k = 8 := by omega
        clear s2 hw
        obtain ⟨w5, hw5⟩ : ∃ w5, w5 = w4.drewN q := ⟨_, rfl⟩
        have hb5 : Below w4.heap.size w4 w5 := by rw [hw5]; exact below_drewN (Below.refl _ _) q
        rw [← hw5]
        clear hw5
        have hB5 := bthen hB4 hb5
        have hx5 := heap_below hx4 hb5
        have o5 := own_below o1 hb5
        clear o1 s1 hx1 hx2 hx3 hx4 hB1 hB2 hB3 hB4 hb2 hb3 hb4 hb5
        have c1 := box_cell hx5 1 (.int .u32 a) rfl
        have c4 := box_cell hx5 4 (.slice X xn xc) rfl
        have c5 := box_cell hx5 5 (.slice Y yn yc) rfl
        have lt0 := lt_of_block hx5
        have HX5 := Lib.hid hx5
        clear hx5
        go_wp2_with fail
        go_region_held3 (fun w' => w'.cell? ⟨W.heap.size, 1, none⟩ = some (.int .u32 a) ∧ w'.cell? ⟨W.heap.size, 4, none⟩ = some (.slice X xn xc) ∧ w'.cell? ⟨W.heap.size, 5, none⟩ = some (.slice Y yn yc))
          (first | exact ⟨cell_below (cell_al (cell_below (w := w5.drew) c1 hb6) _) hb7, cell_below (cell_al (cell_below (w := w5.drew) c4 hb6) _) hb7, cell_below (cell_al (cell_below (w := w5.drew) c5 hb6) _) hb7⟩ | exact ⟨cell_al (cell_below (w := w5.drew) c1 hb6) _, cell_al (cell_below (w := w5.drew) c4 hb6) _, cell_al (cell_below (w := w5.drew) c5 hb6) _⟩ | exact ⟨cell_below (w := w5.drew) c1 hb6, cell_below (w := w5.drew) c4 hb6, cell_below (w := w5.drew) c5 hb6⟩ | go_keep)
          (first
            | (go_at_call 24; refine (StoreLE32 _ a ha).mono ?_; rintro e w6 ⟨rfl, o6, hb6⟩)
            | (go_at_call 23; refine (Join_any _ (Sls.fresh4 24 (sx.below (bthen hB5.drew hb6)) hx ((own_sl' o5).2.1.drew.below hb6) (by decide) (sy.below (bthen hB5.drew hb6)) hy (own_sl' o6).2.1 (by decide)) ?_).mono ?_; (simp [HXL.out, HYL.out, HBL.out, st_LE32_len]; omega); rintro e w7 ⟨rfl, o7, hb7⟩))
        have hB7 : Below W.heap.size W w7 := bthen ((bthen hB5.drew hb6).alloc (bthen hB5.drew hb6).size _) hb7
        have hx7 := heap_below (heap_below (heap_below (w := w5.drew) HX5.out hb6) ((Below.refl _ _).alloc (Nat.le_refl _) _)) hb7
        obtain ⟨J, hJ⟩ : ∃ J, J = x ++ (be8 ++ (y ++ stLE32 a 4)) := ⟨_, rfl⟩
        obtain ⟨m, hm⟩ : ∃ m, m = xn + 8 + yn + 4 := ⟨_, rfl⟩
        have hL : x.length + (be8.length + (y.length + (stLE32 a 4).length)) = m := by rw [HXL.out, HBL.out, HYL.out, st_LE32_len, hm]; omega
        have hL2 : [x, be8, y, stLE32 a 4].flatten.length = m := by rw [← hL]; simp
        have hJ0 : [x, be8, y, stLE32 a 4].flatten = J := by rw [hJ]; simp
        rw [hL2, hJ0] at o7
        rw [hL]
        have hgs : ∀ o, (w6.alloc o).heap.size = w6.heap.size + 1 := fun o => Array.size_push _
        rw [hgs] at o7
        obtain ⟨g, hg⟩ : ∃ g, g = w6.heap.size + 1 := ⟨_, rfl⟩
        rw [← hg] at o7 ⊢
        clear hgs hg
        have HJ1 : Hid (be ((J.drop xn).take 8) = l) := Lib.hid (by
          rw [hJ, List.drop_append_of_le_length (by rw [HXL.out]; omega), List.drop_of_length_le (by rw [HXL.out]; omega), List.nil_append, List.take_append_of_le_length (by rw [HBL.out]; omega), List.take_of_length_le (by rw [HBL.out]; omega), HBE.out])
        have HJ2 : Hid (le ((J.drop (xn + 8 + yn)).take 4) = a) := Lib.hid (by
          rw [hJ, ← List.append_assoc, ← List.append_assoc, List.drop_append_of_le_length (by simp [HXL.out, HYL.out, HBL.out]; omega), List.drop_of_length_le (by simp [HXL.out, HYL.out, HBL.out]; omega), List.nil_append, List.take_of_length_le (by rw [st_LE32_len]; omega), le_st32 a ha])
        have sJ := (own_sl' o7).2.1
        have HJL : Hid (J.length = m) := Lib.hid (by rw [← hL, hJ]; simp)
        have hmle : m ≤ 8204 := by omega
        have HM := Lib.hid hm
        clear hJ hm hL hL2 hJ0 o5 o6 hb6 hb7 c1 c4 c5 lt0 HX5 hB5
        have c1 := box_cell hx7 1 (.int .u32 a) rfl
        have c2 := box_cell hx7 2 (.int .u64 l) rfl
        have c4 := box_cell hx7 4 (.slice X xn xc) rfl
        have c5 := box_cell hx7 5 (.slice Y yn yc) rfl
        have c7 := box_cell hx7 7 (.string s) rfl
        have HX7 := Lib.hid hx7
        clear hx7
        go_wp2_with (first | (at_builtin; refine Stopped.out ?_) | (at_make; refine Stopped.out ?_))
        refine (LoadBE64_yes _ sJ xn (by have := HM.out; omega)).mono ?_
        rintro e w' ⟨rfl, rfl⟩
        rw [HJ1.out]
        go_wp2_with (first | (at_builtin; refine Stopped.out ?_) | (at_make; refine Stopped.out ?_))
        refine (LoadLE32_yes _ sJ (xn + 8 + yn) (by have := HM.out; omega)).mono ?_
        rintro e w' ⟨rfl, rfl⟩
        rw [HJ2.out]
        have q1 : ((l : Int) != l) = false := by simp
        have q2 : ((a : Int) != a) = false := by simp
        have q3 : ((m : Int) != (xn : Int) + yn + 12) = false := by have := HM.out; simp; omega
        go_wp2_with (first | (at_builtin; refine Stopped.out ?_) | (at_make; refine Stopped.out ?_))
        refine (Xor_yes _ sJ sJ (by omega)).mono ?_
        clear q1 q2 q3 c1 c2 c4 c5
        rintro e w8 ⟨rfl, o8, hb8⟩
        rw [zip_self] at o8
        have sJ8 := sJ.below hb8
        have hB8 := bthen hB7 hb8
        have HX8 := Lib.hid (heap_below HX7.out hb8)
        have s8 := (own_sl' o8).2.1
        clear c7
        go_wp2_with (first | (at_builtin; refine Stopped.out ?_) | (at_make; refine Stopped.out ?_))
        refine (Xor_yes _ s8 sJ8 (by omega)).mono ?_
        rintro e w9 ⟨rfl, o9, hb9⟩
        rw [zip_zero] at o9
        have sJ9 := sJ8.below hb9
        have hB9 := bthen hB8 hb9
        have HX9 := Lib.hid (heap_below HX8.out hb9)
        have s9 := (own_sl' o9).2.1
        clear s8 sJ8 o8 o9 hB8 hb8 hb9
        go_wp2_with (first | (at_builtin; refine Stopped.out ?_) | (at_make; refine Stopped.out ?_))
        refine (same01 _ s9 sJ9).mono ?_
        rintro e w10 ⟨rfl, hd⟩
        rw [decide_eq_true rfl]
        have sJ10 := sJ9.below hd.below
        have s10 := s9.below hd.below
        have hB10 := bthen hB9 hd.below
        have HX10 := Lib.hid (heap_below HX9.out hd.below)
        clear s9 sJ9 hB9 hd
        go_wp2_with (first | (at_builtin; refine Stopped.out ?_) | (at_make; refine Stopped.out ?_))
        refine (Equal_any _ s10 sJ10).mono ?_
        rintro e w11 ⟨rfl, hd⟩
        rw [decide_eq_true rfl]
        have sJ11 := sJ10.below hd.below
        have hB11 := bthen hB10 hd.below
        have HX11 := Lib.hid (heap_below HX10.out hd.below)
        clear s10 sJ10 hB10 hd
        go_wp2_with (first | (at_builtin; refine Stopped.out ?_) | (at_make; refine Stopped.out ?_))
        refine (Hex_any _ sJ11 (by omega)).mono ?_
        rintro e w12 ⟨rfl, hb12⟩
        have sJ12 := sJ11.below hb12
        have hB12 := bthen hB11 hb12
        have HX12 := Lib.hid (heap_below HX11.out hb12)
        clear sJ11 hB11 hb12
        go_wp2_with (first | (at_builtin; refine Stopped.out ?_) | (at_make; refine Stopped.out ?_))
        refine (Unhex_any _ _ ?_).mono ?_
        · show (hexL J).length ≤ _
          rw [hexL_len, HJL.out]; omega
        rintro e w13 hpost
        have hpost2 : UnhexPost w12 (hexL J) e w13 := hpost
        clear hpost
        obtain ⟨hb13, ⟨hn, _⟩ | ⟨o, v, ho, rfl, own13⟩⟩ := hpost2
        · rw [unhex_hex] at hn; cases hn
        rw [unhex_hex] at ho
        obtain rfl := Option.some.inj ho
        obtain ⟨A13, c13, rfl, s13, _⟩ := own_sl own13
        have sJ13 := sJ12.below hb13
        have hB13 := bthen hB12 hb13
        have HX13 := Lib.hid (heap_below HX12.out hb13)
        clear ho own13 hb13 hB12 sJ12
        go_wp2_with (first | (at_builtin; refine Stopped.out ?_) | (at_make; refine Stopped.out ?_))
        refine (same01 _ s13 sJ13).mono ?_
        rintro e w14 ⟨rfl, hd⟩
        rw [decide_eq_true rfl]
        have hB14 := bthen hB13 hd.below
        have hx14 := heap_below HX13.out hd.below
        clear s13 sJ13 hB13 hd
        have c7 := box_cell hx14 7 (.string s) rfl
        have HX14 := Lib.hid hx14
        clear hx14
        go_wp2_with (first | (at_builtin; refine Stopped.out ?_) | (at_make; refine Stopped.out ?_))
        refine (Unhex_any _ s (by omega)).mono ?_
        rintro e w15 ⟨hb15, ⟨hn, rfl⟩ | ⟨o, v, ho, rfl, own15⟩⟩
        · have hB15 := bthen hB14 hb15
          have d7 := cell_below c7 hb15
          clear c7 hb15 hn HX14
          go_wp2_with fail
          go_quiet (fail)
          go_wp2
          go_ret
          exact ⟨rfl, below_drewN hB15 _⟩

        · obtain ⟨A15, c15, rfl, s15, _⟩ := own_sl own15
          have hB15 := bthen hB14 hb15
          have d7 := cell_below c7 hb15
          have lt0 := cell_lt d7
          have hHX := hex_unhex _ _ ho
          have ho2 : 2 * o.length = s.size := by rw [← hexL_len, hHX]; rfl
          have HS : Hid ((⟨(hexL o).toArray⟩ : ByteArray) = s) := Lib.hid (by rw [hHX])
          clear c7 hb15 HX14 own15 ho hHX
          go_wp2_with fail
          go_region_held3 (fun w' => w'.cell? ⟨W.heap.size, 7, none⟩ = some (.string s)) (first | exact cell_below (w := w15.drew) d7 hb16 | go_keep)
            (first | (go_at_call 31; refine (Hex_any _ s15.drew (by omega)).mono ?_; rintro e w16 ⟨rfl, hb16⟩; rw [HS.out]))
          all_goals
            go_wp2
            go_ret
            exact ⟨by simp, bthen hB15.drew hb16⟩
  · rw [decide_eq_false hsm]
    clear hsm SM hp
    go_wp2_with (first | (at_builtin; refine Stopped.out ?_) | (at_make; refine Stopped.out ?_))
    go_ret
    exact ⟨rfl, hB1⟩
end Go.Proofs.Ytdooabbeolfgfaa
