import Derived.Test.YtdooabbeolfgfaaRf01e
set_option linter.unusedVariables false
set_option linter.unusedSimpArgs false
namespace Go.Proofs.Ytdooabbeolfgfaa
open Go.RowKit
set_option maxRecDepth 100000 in
set_option maxHeartbeats 1600000 in
theorem refJoin (w : World) {A : Option Addr} {n c : Nat} {vs : List Value} {ll : List (List UInt8)} (h : Sls w A n c vs ll) (hr : ll.flatten.length ≤ 100000000) :
    Calls Try.prog 137 #[.slice A n c] w fun e w' => ∃ v, e = .returned v ∧ w'.ownsRow w.heap.size 5 1 v ll.flatten.length (ll.flatten.map by8) ∧ Below w.heap.size w w' := by
  have hlen := h.len
  have hc := h.sl.le; have hcm := h.sl.max
  have HL := Lib.hid (And.intro hlen (And.intro h hr))
  obtain ⟨J, hJ⟩ : ∃ J, J = ll.flatten := ⟨_, rfl⟩
  have HJ := Lib.hid hJ
  rw [← hJ]
  clear hlen h hr hJ
  go_enter Try.func137, Try.ntmps137
  go_wp2
  go_loopw [3, 4] (fun o i wr => ∃ (j q : Nat) (v : Value), j ≤ n ∧ i = .int .i64 j ∧ o = v ∧ q ≤ 100000000 ∧ Hid (q = (ll.take j).flatten.length) ∧ wr.ownsRow w.heap.size 5 1 v q ((ll.take j).flatten.map by8) ∧ Below w.heap.size w wr) (fun _ i _ => n - (intOf i).toNat)
  case atStart => exact ⟨0, 0, _, by omega, rfl, rfl, by omega, Lib.hid (by simp), by simpa using World.ownsRow_nil .., Below.refl _ _⟩
  case round =>
    obtain ⟨j, q, v, hj, rfl, rfl, hq, hqh, hst, hbl⟩ := hrel
    by_cases hlt : j < n
    · obtain ⟨b, off, rfl⟩ := HL.out.2.1.sl.form (by omega)
      obtain ⟨a, m, c2, g, s2, hm⟩ := HL.out.2.1.get j hlt
      obtain ⟨x, hx⟩ : ∃ x, x = ll[j]'(by rw [HL.out.1]; exact hlt) := ⟨_, rfl⟩
      rw [← hx] at s2 hm
      have HF := Lib.hid (show (ll.take (j + 1)).flatten = (ll.take j).flatten ++ x by rw [flat_take ll j (by rw [HL.out.1]; exact hlt), ← hx])
      have hle : q + m ≤ 100000000 := by
        have h1 := flat_take_le ll (j + 1)
        rw [HF.out, List.length_append, ← hqh.out, ← hm] at h1
        have := HL.out.2.2
        omega
      have HX := Lib.hid (And.intro hm (And.intro s2 g))
      have hm1 := s2.le; have hm2 := s2.max
      have HO := Lib.hid (And.intro hst hbl)
      have g1 := cell_below g hbl
      have j0 : (0 : Int) ≤ (j : Int) := Int.natCast_nonneg _
      have j1 : (j : Int) < (n : Int) := by omega
      clear hm s2 g hx hst hbl
      go_wp2
      clear g1
      go_loopw [3, 5] (fun o i wr => ∃ (k : Nat) (v : Value), k ≤ m ∧ i = .int .i64 k ∧ o = v ∧ wr.ownsRow w.heap.size 5 1 v (q + k) (((ll.take j).flatten ++ x.take k).map by8) ∧ Below w.heap.size w wr) (fun _ i _ => m - (intOf i).toNat)
      case atStart => exact ⟨0, _, by omega, rfl, rfl, by simpa using HO.out.1, HO.out.2⟩
      case round =>
        clear HO
        obtain ⟨k, v, hk, rfl, rfl, hst, hbl⟩ := hrel
        have g := cell_below HX.out.2.2 hbl
        by_cases hkl : k < m
        · have hk0 : (0 : Int) ≤ (k : Int) := Int.natCast_nonneg _
          have hk1 : (k : Int) < (m : Int) := by omega
          obtain ⟨b3, o3, rfl⟩ := HX.out.2.1.form (by omega)
          have gx := (HX.out.2.1.below hbl).byte k hkl
          have HT := Lib.hid (take_bt x k (by rw [← HX.out.1]; exact hkl))
          have hy := bt_lt x k
          obtain ⟨y, hye⟩ : ∃ y, y = bt x k := ⟨_, rfl⟩
          rw [← hye] at gx HT hy
          clear hye
          go_wp2_with (first | (at_builtin; refine Stopped.out ?_) | (at_make; refine Stopped.out ?_))
          refine Stopped.mk (apk_own EBsh rfl (.tmp 21) (.tmp 29) rfl rfl (hst.alloc _) rfl (Sl.fresh wr [_] 5 1 1 rfl (by decide)) (by simp [Value.oneCell']) (by simp only [maxLen]; omega) (by omega) (by have := hbl.size; simp; omega) ?_)
          intro v2 w2 hst2 hg2 _
          have e5 : [Value.int .u8 (y : Int)] = [UInt8.ofNat y].map by8 := by simp [by8] <;> omega
          rw [e5] at hst2
          have HN := Lib.hid (And.intro hst2 ((hbl.alloc hbl.size _).grown hg2 (by have := hbl.size; simp; omega) (fun k hk => (hst.lt k hk).1)))
          clear hst hbl hst2 hg2 e5 g gx
          go_wp2
          first | go_roundw | refine ⟨?rel, ?measure⟩
          case rel => exact ⟨k + 1, v2, by omega, by go_num, rfl, by rw [HT.out, ← List.append_assoc, List.map_append, ← Nat.add_assoc]; exact HN.out.1, HN.out.2⟩
          case measure => simp [intOf] <;> omega
        · have HN := Lib.hid (And.intro (show k = m by omega) (And.intro hst hbl))
          have k1 : (m : Int) ≤ (k : Int) := by omega
          clear hst hbl
          go_wp2
          first | go_roundw | refine ⟨?rel, ?measure⟩
          case rel =>
            refine ⟨j + 1, q + m, _, by omega, by go_num, rfl, hle, Lib.hid ?_, ?_, HN.out.2.2⟩
            · rw [HF.out, List.length_append, ← hqh.out, ← HX.out.1]
            · have := HN.out.2.1
              rw [HN.out.1, List.take_of_length_le (Nat.le_of_eq HX.out.1.symm)] at this
              rw [HF.out]
              exact this
          case measure => simp [intOf] <;> omega
    · have HN := Lib.hid (And.intro (show j = n by omega) (And.intro hst (And.intro hbl hqh.out)))
      have k1 : (n : Int) ≤ (j : Int) := by omega
      clear hst hbl hqh
      go_wp2
      go_ret
      refine ⟨_, rfl, ?_, HN.out.2.2.1⟩
      have h1 := HN.out.2.1
      have h2 := HN.out.2.2.2
      rw [HN.out.1, List.take_of_length_le (Nat.le_of_eq HL.out.1)] at h1 h2
      rw [HJ.out, ← h2]
      exact h1
end Go.Proofs.Ytdooabbeolfgfaa
