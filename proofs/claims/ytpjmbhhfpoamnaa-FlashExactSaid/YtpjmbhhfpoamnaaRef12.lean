import Derived.Test.YtpjmbhhfpoamnaaFlash8
set_option linter.unusedVariables false
set_option linter.unusedSimpArgs false
namespace Go.Proofs.Ytpjmbhhfpoamnaa
open Go.RowKit
set_option maxRecDepth 100000 in
set_option maxHeartbeats 800000 in
theorem ref_upTo (w : World) {A : Option Addr} {m c : Nat} {l : List UInt8} (h : Sl w 1 A m c (l.map by8)) (n : Nat) (hm : m ≤ 140737488351232) :
    Calls Try.prog 81 #[.slice A m c, .int .i64 n] w fun e w' => ∃ v, e = .returned v ∧ w'.ownsRow w.heap.size 5 1 v (l.take n).length ((l.take n).map by8) ∧ Below w.heap.size w w' := by
  have hla : l.length = m := by simpa using h.len
  have h1 := h.le; have h2 := h.max
  have HA := Lib.hid hla
  clear hla
  go_enter Try.func81, Try.ntmps81
  go_wp2
  go_loopw [5, 6] (fun o i wr => ∃ (k : Nat) (v : Value), k ≤ m ∧ k ≤ n ∧ i = .int .i64 k ∧ o = v ∧ wr.ownsRow w.heap.size 5 1 v k ((l.take k).map by8) ∧ Below w.heap.size w wr) (fun _ i _ => m - (intOf i).toNat)
  case atStart => exact ⟨0, _, by omega, by omega, rfl, rfl, World.ownsRow_nil .., Below.refl _ _⟩
  case round =>
    obtain ⟨k, v, hk, hkn, rfl, rfl, hst, hbl⟩ := hrel
    by_cases hlt : k < m
    · have i1 : (k : Int) < (m : Int) := by omega
      by_cases hlt2 : k < n
      · have i2 : (k : Int) < (n : Int) := by omega
        obtain ⟨b, off, rfl⟩ := h.form (by omega)
        have g := (h.below hbl).byte k hlt
        have hk0 : (0 : Int) ≤ (k : Int) := Int.natCast_nonneg _
        have HT := Lib.hid (take_bt l k (by rw [HA.out]; exact hlt))
        have hq := bt_lt l k
        obtain ⟨q, hqq⟩ : ∃ q, q = bt l k := ⟨_, rfl⟩
        rw [← hqq] at g HT hq
        clear hqq
        go_wp2_with (first | (at_builtin; refine Stopped.out ?_) | (at_make; refine Stopped.out ?_))
        refine Stopped.mk (ap_own EF rfl _ _ rfl rfl (hst.alloc _) rfl (Sl.fresh wr [_] 5 1 1 rfl (by decide)) (by simp [Value.oneCell']) (by simp only [maxLen]; omega) (by omega) (by have := hbl.size; simp; omega) ?_)
        intro v2 w2 hst2 hg2 _
        go_wp2
        first | go_roundw | refine ⟨?rel, ?measure⟩
        case rel =>
          refine ⟨k + 1, v2, by omega, by omega, by go_num, rfl, ?_, (hbl.alloc hbl.size _).grown hg2 (by have := hbl.size; simp; omega) (fun k hk => (hst.lt k hk).1)⟩
          rw [HT.out, List.map_append]
          have e5 : [UInt8.ofNat q].map by8 = [Value.int .u8 (q : Int)] := by simp [by8]; omega
          rw [e5]
          exact hst2
        case measure => simp [intOf]; omega
      · obtain rfl : k = n := by omega
        have HE : Hid ((l.take k).length = k) := Lib.hid (by rw [List.length_take, HA.out]; omega)
        go_wp2
        go_ret
        exact ⟨_, rfl, by rw [HE.out]; exact hst, hbl⟩
    · obtain rfl : k = m := by omega
      have HE : Hid (l.take n = l.take k ∧ (l.take k).length = k) := Lib.hid (by
        have e0 := HA.out
        rw [List.take_of_length_le (by omega), List.take_of_length_le (by omega)]
        exact ⟨rfl, e0⟩)
      go_wp2
      go_ret
      exact ⟨_, rfl, by rw [HE.out.1, HE.out.2]; exact hst, hbl⟩
end Go.Proofs.Ytpjmbhhfpoamnaa
