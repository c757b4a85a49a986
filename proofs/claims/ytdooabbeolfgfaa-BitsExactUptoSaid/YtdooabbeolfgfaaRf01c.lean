import Derived.Test.YtdooabbeolfgfaaShelfPut1
import Derived.Test.YtdooabbeolfgfaaBits2
set_option linter.unusedVariables false
set_option linter.unusedSimpArgs false
namespace Go.Proofs.Ytdooabbeolfgfaa
open Go.RowKit
def storeL (x W : Nat) : List UInt8 := (List.range W).map fun i => UInt8.ofNat (x / 256 ^ i)
theorem storeL_len (x W : Nat) : (storeL x W).length = W := by simp [storeL]
theorem storeL_succ (x W : Nat) : storeL x (W + 1) = storeL x W ++ [UInt8.ofNat (x / 256 ^ W)] := by simp [storeL, List.range_succ]
set_option maxHeartbeats 800000 in
theorem refStoreLE (w : World) (x W : Nat) (hx : x < 18446744073709551616) (hW : W ≤ 8) :
    Calls Try.prog 134 #[.int .u64 (x : Int), .int .i64 (W : Int)] w fun e w' => ∃ v, e = .returned v ∧ w'.ownsRow w.heap.size 5 1 v W ((storeL x W).map by8) ∧ Below w.heap.size w w' := by
  go_enter Try.func134, Try.ntmps134
  go_wp2
  go_loopw [0, 5, 6] (fun y b i wr => ∃ (k : Nat) (v : Value), k ≤ W ∧ i = .int .i64 k ∧ b = v ∧ y = .int .u64 ((x / 256 ^ k : Nat) : Int) ∧ wr.ownsRow w.heap.size 5 1 v k ((storeL x k).map by8) ∧ Below w.heap.size w wr) (fun _ _ i _ => W - (intOf i).toNat)
  case atStart => exact ⟨0, _, by omega, rfl, rfl, by simp, World.ownsRow_nil .., Below.refl _ _⟩
  case round =>
    obtain ⟨k, v, hk, rfl, rfl, rfl, hst, hbl⟩ := hrel
    by_cases hlt : k < W
    · have hk0 : (0 : Int) ≤ (k : Int) := Int.natCast_nonneg _
      have hk1 : (k : Int) < (W : Int) := by omega
      have HD := Lib.hid (show x / 256 ^ (k + 1) = x / 256 ^ k / 256 by rw [Nat.pow_succ, Nat.div_div_eq_div_mul])
      have HS := Lib.hid (storeL_succ x k)
      have hy : x / 256 ^ k < 18446744073709551616 := Nat.lt_of_le_of_lt (Nat.div_le_self _ _) hx
      obtain ⟨y, hye⟩ : ∃ y, y = x / 256 ^ k := ⟨_, rfl⟩
      rw [← hye] at HD HS hy ⊢
      clear hye
      go_wp2_with (first | (at_builtin; refine Stopped.out ?_) | (at_make; refine Stopped.out ?_))
      refine Stopped.mk (apk_own EBsh rfl (.tmp 12) (.tmp 16) rfl rfl (hst.alloc _) rfl (Sl.fresh wr [_] 5 1 1 rfl (by decide)) (by simp [Value.oneCell']) (by simp only [maxLen]; omega) (by omega) (by have := hbl.size; simp; omega) ?_)
      intro v2 w2 hst2 hg2 _
      have e5 : [Value.int .u8 ((y : Int) % 256)] = [UInt8.ofNat y].map by8 := by simp [by8]
      rw [e5] at hst2
      have HN := Lib.hid (And.intro hst2 ((hbl.alloc hbl.size _).grown hg2 (by have := hbl.size; simp; omega) (fun k hk => (hst.lt k hk).1)))
      clear hst hbl hst2 hg2 e5
      go_wp2
      first | go_roundw | refine ⟨?rel, ?measure⟩
      case rel => exact ⟨k + 1, v2, by omega, by go_num, rfl, by rw [HD.out]; simp, by rw [HS.out, List.map_append]; exact HN.out.1, HN.out.2⟩
      case measure => simp [intOf]; omega
    · have HN := Lib.hid (And.intro (show k = W by omega) (And.intro hst hbl))
      have k1 : (W : Int) ≤ (k : Int) := by omega
      clear hst hbl
      go_wp2
      go_ret
      exact ⟨_, rfl, by have := HN.out.2.1; rw [HN.out.1] at this; exact this, HN.out.2.2⟩
set_option maxHeartbeats 800000 in
theorem refStoreBE (w : World) (x W : Nat) (hx : x < 18446744073709551616) (hW : W ≤ 8) :
    Calls Try.prog 133 #[.int .u64 (x : Int), .int .i64 (W : Int)] w fun e w' => ∃ v, e = .returned v ∧ w'.ownsRow w.heap.size 5 1 v W ((storeL x W).reverse.map by8) ∧ Below w.heap.size w w' := by
  have HC := Lib.hid (refStoreLE w x W hx hW)
  go_enter Try.func133, Try.ntmps133
  go_wp2_with (first | (at_builtin; refine Stopped.out ?_) | (at_make; refine Stopped.out ?_))
  refine HC.out.mono ?_
  rintro e w2 ⟨v, rfl, o2, hb2⟩
  obtain ⟨A, c, rfl, s2, _⟩ := own_sl o2
  have H2 := Lib.hid (And.intro s2 hb2)
  have hc := s2.le; have hcm := s2.max
  clear o2 hb2 s2
  go_wp2
  go_loopw [6, 7] (fun b i wr => ∃ (k : Nat) (v : Value), k ≤ W ∧ i = .int .i64 ((W : Int) - (k : Int) - 1) ∧ b = v ∧ wr.ownsRow w2.heap.size 5 1 v k ((((storeL x W).drop (W - k)).reverse).map by8) ∧ Below w2.heap.size w2 wr) (fun _ i _ => (intOf i + 1).toNat)
  case atStart => exact ⟨0, _, by omega, by simp, rfl, by rw [List.drop_of_length_le (by rw [storeL_len]; omega)]; exact World.ownsRow_nil .., Below.refl _ _⟩
  case round =>
    obtain ⟨k, v, hk, rfl, rfl, hst, hbl⟩ := hrel
    by_cases hlt : k < W
    · obtain ⟨p, hp⟩ : ∃ p, p = W - k - 1 := ⟨_, rfl⟩
      have ep : (W : Int) - (k : Int) - 1 = (p : Int) := by omega
      have hpl : p < (storeL x W).length := by rw [storeL_len]; omega
      have hT : ((storeL x W).drop (W - (k + 1))).reverse = ((storeL x W).drop (W - k)).reverse ++ [UInt8.ofNat (bt (storeL x W) p)] := by
        rw [show W - (k + 1) = p by omega, show W - k = p + 1 by omega, List.drop_eq_getElem_cons hpl, List.reverse_cons]
        congr 2
        unfold bt
        rw [List.getElem?_eq_getElem hpl]
        simp
      have HT := Lib.hid (And.intro hT hp)
      obtain ⟨b, off, rfl⟩ := H2.out.1.form (by omega)
      have g := (H2.out.1.below hbl).byte p (by omega)
      have hq := bt_lt (storeL x W) p
      obtain ⟨q, hqe⟩ : ∃ q, q = bt (storeL x W) p := ⟨_, rfl⟩
      rw [← hqe] at g HT hq
      rw [ep]
      have k0 : (0 : Int) ≤ (p : Int) := Int.natCast_nonneg _
      have k2 : (p : Int) < (W : Int) := by omega
      clear hqe ep hpl hT hp
      go_wp2_with (first | (at_builtin; refine Stopped.out ?_) | (at_make; refine Stopped.out ?_))
      refine Stopped.mk (apk_own EBsh rfl (.tmp 18) (.tmp 23) rfl rfl (hst.alloc _) rfl (Sl.fresh wr [_] 5 1 1 rfl (by decide)) (by simp [Value.oneCell']) (by simp only [maxLen]; omega) (by omega) (by have := hbl.size; simp; omega) ?_)
      intro v2 w3 hst2 hg2 _
      have e5 : [Value.int .u8 (q : Int)] = [UInt8.ofNat q].map by8 := by simp [by8] <;> omega
      rw [e5] at hst2
      have HN := Lib.hid (And.intro hst2 ((hbl.alloc hbl.size _).grown hg2 (by have := hbl.size; simp; omega) (fun k hk => (hst.lt k hk).1)))
      clear hst hbl hst2 hg2 e5 g
      go_wp2
      first | go_roundw | refine ⟨?rel, ?measure⟩
      case rel => exact ⟨k + 1, v2, by omega, by have := HT.out.2; congr 1; omega, rfl, by rw [HT.out.1, List.map_append]; exact HN.out.1, HN.out.2⟩
      case measure => simp [intOf] <;> omega
    · have HN := Lib.hid (And.intro (show k = W by omega) (And.intro hst hbl))
      have ep : (W : Int) - (k : Int) - 1 = -1 := by omega
      rw [ep]
      clear hst hbl ep
      go_wp2
      go_ret
      exact ⟨_, rfl, by have := HN.out.2.1; rw [HN.out.1, Nat.sub_self] at this; exact own_mono this H2.out.2.size, bthen H2.out.2 HN.out.2.2⟩
end Go.Proofs.Ytdooabbeolfgfaa
