import Derived.Test.YtpjmbhhfpoamnaaFrSum
import Derived.Deep.RegionHeld3
set_option linter.unusedVariables false
set_option linter.unusedSimpArgs false
namespace Go.Proofs.Ytpjmbhhfpoamnaa
open Go.RowKit
theorem EB : ElemT Try.prog 22 5 (.int .u8 0) 1 1 := ⟨Try.underlying22, by kernel_rfl, rfl, by decide⟩

theorem bits_xor_bv (x y : BitVec 32) : bits .xor .u32 (x.toNat : Int) (y.toNat : Int) = ((x ^^^ y).toNat : Int) := by
  rw [bits_xor32 _ _ x.isLt y.isLt, BitVec.toNat_xor]
/-- the bitwise difference of three lists, as far as place k -/
def xor3 (l1 l2 l3 : List UInt8) (k : Nat) : List UInt8 := List.zipWith (· ^^^ ·) (List.zipWith (· ^^^ ·) (l1.take k) (l2.take k)) (l3.take k)
theorem xor_byte (x y : UInt8) : bits .xor .u8 (x.toNat : Int) (y.toNat : Int) = ((x ^^^ y).toNat : Int) := by
  rw [bits_xor8 _ _ (u8_lt x) (u8_lt y), UInt8.toNat_xor]
theorem xor3_succ (l1 l2 l3 : List UInt8) (k : Nat) (h1 : k < l1.length) (h2 : k < l2.length) (h3 : k < l3.length) :
    (xor3 l1 l2 l3 (k + 1)).map u8 = (xor3 l1 l2 l3 k).map u8 ++ [.int .u8 (bits .xor .u8 (bits .xor .u8 (bt l1 k) (bt l2 k)) (bt l3 k))] := by
  unfold xor3
  rw [bt_eq l1 k h1, bt_eq l2 k h2, bt_eq l3 k h3, xor_byte, xor_byte]
  rw [List.take_succ_eq_append_getElem h1, List.take_succ_eq_append_getElem h2, List.take_succ_eq_append_getElem h3]
  rw [List.zipWith_append (by simp; omega), List.zipWith_append (by simp; omega)]
  simp [u8]
theorem xor3_sum (l1 l2 l3 : List UInt8) (k : Nat) (h1 : k ≤ l1.length) (h2 : k ≤ l2.length) (h3 : k ≤ l3.length) :
    bits .xor .u32 (bits .xor .u32 ((crcSum (l1.take k)).toNat : Int) ((crcSum (l2.take k)).toNat : Int)) ((crcSum (l3.take k)).toNat : Int) = ((crcSum (xor3 l1 l2 l3 k)).toNat : Int) := by
  rw [bits_xor_bv, bits_xor_bv]
  unfold xor3
  rw [crcSum_three _ _ _ (by simp; omega) (by simp; omega)]
set_option maxRecDepth 100000 in
set_option maxHeartbeats 1600000 in
theorem FrameSums_walk (w : World) {A B C : Option Addr} {n1 c1 n2 c2 n3 c3 : Nat} {l1 l2 l3 : List UInt8} (ha : Sl w 1 A n1 c1 (l1.map u8)) (hb : Sl w 1 B n2 c2 (l2.map u8)) (hc : Sl w 1 C n3 c3 (l3.map u8))
    (last : Nat) (hlast : last < 4294967296) (r1 : n1 ≤ 140737488351232) (r2 : n2 ≤ 140737488351232) (r3 : n3 ≤ 140737488351232) :
    Calls Try.prog 10 #[.slice A n1 c1, .slice B n2 c2, .slice C n3 c3, .int .u32 last] w fun e w' => e = .returned (.bool true) ∧ Below w.heap.size w w' := by
  obtain ⟨N, hN1, hN2, hN3, hN⟩ : ∃ N : Nat, N ≤ n1 ∧ N ≤ n2 ∧ N ≤ n3 ∧ N = min (min n1 n2) n3 := ⟨_, by omega, by omega, by omega, rfl⟩
  have HN := Lib.hid hN
  clear hN
  have m1 := ha.le; have m2 := ha.max; have m3 := hb.le; have m4 := hb.max; have m5 := hc.le; have m6 := hc.max
  go_enter Try.func10, Try.ntmps10
  go_upto_if 19 with fail
  go_cut [9] (fun v wx => v = .int .i64 (min n1 n2 : Nat) ∧ w = wx)
  case first =>
    go_wp2
    all_goals go_meet
    all_goals (refine ⟨?_, rfl⟩; congr 2; omega)
  case rest =>
    obtain ⟨rfl, rfl⟩ := hcut
    go_upto_if 25 with fail
    go_cut [9] (fun v wx => v = .int .i64 (N : Nat) ∧ w = wx)
    case first =>
      have HN2 := HN.out
      have HN3 : min n1 n2 ≤ 140737488351232 := by omega
      obtain ⟨M, hM⟩ : ∃ M, M = min n1 n2 := ⟨_, rfl⟩
      rw [← hM] at HN2 HN3 ⊢
      have HM := Lib.hid HN2
      clear HN2 hM
      go_wp2
      all_goals go_meet
      all_goals (refine ⟨?_, rfl⟩; rw [HM.out]; congr 2; omega)
    case rest =>
      obtain ⟨rfl, rfl⟩ := hcut
      go_wp2
      go_loopw [10, 11] (fun d i wr => ∃ k : Nat, k ≤ N ∧ i = .int .i64 k ∧ wr.ownsRow w.heap.size 5 1 d k ((xor3 l1 l2 l3 k).map u8) ∧ Below w.heap.size w wr) (fun _ i _ => N - (intOf i).toNat)
      case atStart => exact ⟨0, by omega, rfl, by simpa [xor3] using World.ownsRow_nil _ _ _ _, Below.refl _ _⟩
      case round =>
        obtain ⟨k, hk, rfl, hown, hbl⟩ := hrel
        by_cases hlt : k < N
        · obtain ⟨b1, o1, rfl⟩ := ha.form (by omega)
          obtain ⟨b2, o2, rfl⟩ := hb.form (by omega)
          obtain ⟨b3, o3, rfl⟩ := hc.form (by omega)
          have ga := (ha.below hbl).byte k (by omega)
          have gb := (hb.below hbl).byte k (by omega)
          have gc := (hc.below hbl).byte k (by omega)
          have HX := Lib.hid (xor3_succ l1 l2 l3 k (by have := ha.len; simp at this; omega) (by have := hb.len; simp at this; omega) (by have := hc.len; simp at this; omega))
          have q1 := own_ne hown (cell_lt (ha.byte k (by omega)))
          have q2 := own_ne hown (cell_lt (hb.byte k (by omega)))
          have q3 := own_ne hown (cell_lt (hc.byte k (by omega)))
          have hk0 : (0 : Int) ≤ (k : Int) := Int.natCast_nonneg _
          have hk1 : (k : Int) < (n1 : Int) := by omega
          have hk2 : (k : Int) < (n2 : Int) := by omega
          have hk3 : (k : Int) < (n3 : Int) := by omega
          go_wp2
          go_region_held3 (fun w' => w'.cell? ⟨b1, o1 + k, none⟩ = some (.int .u8 (bt l1 k : Int)) ∧ w'.cell? ⟨b2, o2 + k, none⟩ = some (.int .u8 (bt l2 k : Int)) ∧ w'.cell? ⟨b3, o3 + k, none⟩ = some (.int .u8 (bt l3 k : Int)))
            (first | go_keep | exact ⟨hgrow.cell (cell_ald ga _) q1, hgrow.cell (cell_ald gb _) q2, hgrow.cell (cell_ald gc _) q3⟩)
            ((refine ap_step EB (by rfl) _ _ (by rfl) (by rfl) ((hown.alloc _).drew) (by rfl) (Sl.drew (Sl.fresh wr [_] 5 1 1 (by rfl) (by decide))) (by simp [Value.oneCell']) (by simp only [maxLen]; omega) (by omega) (by have := hbl.size; simp; omega) ?_; intro v' w1 hown1 hgrow hnil))
          clear ga gb gc q1 q2 q3 hk0 hk1 hk2 hk3
          go_wp2
          go_roundw
          case rel => exact ⟨k + 1, by omega, by go_num, by rw [HX.out]; exact hown1, ((hbl.alloc hbl.size _).drew).grown hgrow (by have := hbl.size; simp; omega) (fun k hk => (hown.lt k hk).1)⟩
          case measure => simp [intOf]; omega
        · obtain rfl : k = N := by omega
          obtain ⟨D, cd, rfl, hd, _⟩ := own_sl hown
          have sa := (ha.below hbl).preB hN1
          have sb := (hb.below hbl).preB hN2
          have sc := (hc.below hbl).preB hN3
          go_wp2
          have hx1 := xor3_sum l1 l2 l3 k (by have := ha.len; simp at this; omega) (by have := hb.len; simp at this; omega) (by have := hc.len; simp at this; omega)
          go_quiet ((go_at_call 44; (first | with_reducible exact quiet_id (Sum_any _ (hd.drewN _)) | with_reducible exact quiet_id (Sum_any _ (sa.drewN _)) | with_reducible exact quiet_id (Sum_any _ (sb.drewN _)) | with_reducible exact quiet_id (Sum_any _ (sc.drewN _)))))
          have hbq : Below w.heap.size w (wr.drewN nq) := below_drewN hbl nq
          have hsz := hbl.size
          clear hown hd sa sb sc
          go_wp2_with (first | (at_builtin; refine Stopped.out ?_) | (at_make; refine Stopped.out ?_))
          refine Stopped.mk (ap_own EB rfl (.tmp 67) (.tmp 68) rfl rfl (World.ownsRow_lit (base := w.heap.size) _ #[] 0 hsz (by decide) rfl) rfl ((ha.below hbq).alloc _) (u8_one l1) (by simp only [maxLen]; omega) (by omega) (by simp; omega) ?_)
          intro v1 w1 hown1 hgrow1 hnil1
          have hb1 : Below w.heap.size w w1 := (hbq.alloc hsz _).grown hgrow1 (by simp; omega) (fun k hk => (Option.some.inj hk) ▸ hsz)
          clear hgrow1 hnil1
          go_wp2_with (first | (at_builtin; refine Stopped.out ?_) | (at_make; refine Stopped.out ?_))
          refine Stopped.mk (ap_own EB rfl (.tmp 69) (.tmp 70) rfl rfl (hown1.alloc _) rfl (Sl.fresh w1 [_, _, _, _] 5 4 1 rfl (by decide)) (by simp [Value.oneCell']) (by simp only [maxLen]; omega) (by omega) (by have := hb1.size; have := hown1; simp; omega) ?_)
          intro v2 w2 hown2 hgrow2 hnil2
          have hb2 : Below w.heap.size w w2 := (hb1.alloc hb1.size _).grown hgrow2 (by have := hb1.size; simp; omega) (fun k hk => by have := (hown1.lt k hk).1; omega)
          clear hgrow2 hnil2 hown1 hb1
          go_wp2_with (first | (at_builtin; refine Stopped.out ?_) | (at_make; refine Stopped.out ?_))
          refine Stopped.mk (ap_own EB rfl (.tmp 72) (.tmp 73) rfl rfl (World.ownsRow_lit (base := w2.heap.size) _ #[] 0 (by simp) (by decide) rfl) rfl ((ha.below hb2).alloc _) (u8_one l1) (by simp only [maxLen]; omega) (by omega) (by simp) ?_)
          intro v3 w3 hown3 hgrow3 hnil3
          have hb3 : Below w2.heap.size w2 w3 := ((Below.refl _ w2).alloc (Nat.le_refl _) _).grown hgrow3 (by simp) (fun k hk => (Option.some.inj hk) ▸ Nat.le_refl _)
          clear hgrow3 hnil3
          go_wp2_with (first | (at_builtin; refine Stopped.out ?_) | (at_make; refine Stopped.out ?_))
          refine Stopped.mk (ap_own EB rfl (.tmp 74) (.tmp 86) rfl rfl (hown3.alloc _) rfl (Sl.fresh w3 [_, _, _, _] 5 4 1 rfl (by decide)) (by simp [Value.oneCell']) (by simp only [maxLen]; omega) (by omega) (by have := hb3.size; simp; omega) ?_)
          intro v4 w4 hown4 hgrow4 hnil4
          have hb4 : Below w2.heap.size w2 w4 := (hb3.alloc hb3.size _).grown hgrow4 (by have := hb3.size; simp; omega) (fun k hk => (hown3.lt k hk).1)
          clear hgrow4 hnil4 hown3 hb3
          obtain ⟨A2, d2, rfl, s2, _⟩ := own_sl hown2
          obtain ⟨A4, d4, rfl, s4, _⟩ := own_sl hown4
          have s2' := s2.below hb4
          have hbw : Below w.heap.size w w4 := hb2.trans (hb4.mono hb2.size)
          clear hown2 hown4 s2
          rw [show [] ++ l1.map u8 ++ [Value.int .u8 0, .int .u8 0, .int .u8 0, .int .u8 0] = (l1 ++ [0, 0, 0, 0]).map u8 by simp [u8], Nat.zero_add] at s2'
          rw [Nat.zero_add] at s4
          have e4 : [] ++ l1.map u8 ++ [Value.int .u8 ((last : Int) % 256), .int .u8 ((last : Int) / 256 % 256), .int .u8 ((last : Int) / 65536 % 256), .int .u8 ((last : Int) / 16777216)] =
              (l1 ++ [UInt8.ofNat last, UInt8.ofNat (last / 256), UInt8.ofNat (last / 65536), UInt8.ofNat (last / 16777216)]).map u8 := by
            simp [u8]
            omega
          rw [e4] at s4
          have HS := Lib.hid (crcSum_last l1 last hlast)
          obtain ⟨x, hx⟩ : ∃ x, x = l1 ++ [0, 0, 0, 0] := ⟨_, rfl⟩
          obtain ⟨y, hy⟩ : ∃ y, y = l1 ++ [UInt8.ofNat last, UInt8.ofNat (last / 256), UInt8.ofNat (last / 65536), UInt8.ofNat (last / 16777216)] := ⟨_, rfl⟩
          rw [← hx] at s2' HS
          rw [← hy] at s4 HS
          clear hx hy e4
          go_wp2_with (first | (at_builtin; refine Stopped.out ?_) | (at_make; refine Stopped.out ?_))
          refine (Sum_any _ s2').mono ?_
          rintro e w' ⟨rfl, rfl⟩
          go_wp2_with (first | (at_builtin; refine Stopped.out ?_) | (at_make; refine Stopped.out ?_))
          refine (Sum_any _ s4).mono ?_
          rintro e w' ⟨rfl, rfl⟩
          have HB : Hid (((((crcSum x).toNat : Int) == ((crcSum y).toNat : Int)) == ((last : Int) == 0)) = true) := Lib.hid (by
            have h1 : (((crcSum x).toNat : Int) == ((crcSum y).toNat : Int)) = decide (crcSum x = crcSum y) := by
              rw [Bool.eq_iff_iff]; simp; exact ⟨fun h => BitVec.eq_of_toNat_eq (by exact_mod_cast h), fun h => by rw [h]⟩
            have h2 : ((last : Int) == 0) = decide (last = 0) := by
              rw [Bool.eq_iff_iff]; simp
            rw [h1, h2]
            simp [HS.out])
          go_wp2_with (first | (at_builtin; refine Stopped.out ?_) | (at_make; refine Stopped.out ?_))
          go_ret
          exact ⟨by (rw [HB.out]) <;> rfl, hbw⟩
end Go.Proofs.Ytpjmbhhfpoamnaa
