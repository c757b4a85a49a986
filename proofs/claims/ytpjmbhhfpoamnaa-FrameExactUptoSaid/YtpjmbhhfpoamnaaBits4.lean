import Derived.Test.YtpjmbhhfpoamnaaBits2
import Derived.Deep.RegionHeld3
set_option linter.unusedVariables false
set_option linter.unusedSimpArgs false
namespace Go.Proofs.Ytpjmbhhfpoamnaa
open Go.RowKit

theorem flat_take (ll : List (List UInt8)) (k : Nat) (h : k < ll.length) : (ll.take (k + 1)).flatten = (ll.take k).flatten ++ ll[k] := by
  rw [List.take_succ_eq_append_getElem h, List.flatten_append]; simp
theorem flat_take_le (ll : List (List UInt8)) (k : Nat) : (ll.take k).flatten.length ≤ ll.flatten.length := by
  conv => rhs; rw [← List.take_append_drop k ll]
  rw [List.flatten_append, List.length_append]
  omega
theorem Sls.get {w : World} {b off n c : Nat} {vs : List Value} {ll : List (List UInt8)} (h : Sls w (some ⟨b, off, none⟩) n c vs ll) (k : Nat) (hk : k < n) :
    ∃ a m c, w.cell? ⟨b, off + k, none⟩ = some (.slice a m c) ∧ Sl w 1 a m c ((ll[k]'(by rw [h.len]; exact hk)).map by8) ∧ m = (ll[k]'(by rw [h.len]; exact hk)).length := by
  obtain ⟨a, m, c, h1, h2, h3⟩ := h.at_ k _ (List.getElem?_eq_getElem (by rw [h.len]; exact hk))
  obtain ⟨hk2, h4⟩ := List.getElem?_eq_some_iff.1 h1
  refine ⟨a, m, c, by rw [h.sl.cell k hk2, h4], h2, ?_⟩
  have := h2.len
  simpa using this.symm
set_option maxHeartbeats 800000 in
theorem Join_any (w : World) {A : Option Addr} {n c : Nat} {vs : List Value} {ll : List (List UInt8)} (h : Sls w A n c vs ll) (hr : ll.flatten.length ≤ 140737488355328) :
    Calls Try.prog 89 #[.slice A n c] w fun e w' => e = .returned (.slice (some ⟨w.heap.size, 0, none⟩) ll.flatten.length ll.flatten.length) ∧
      w'.ownsRow w.heap.size 5 1 (.slice (some ⟨w.heap.size, 0, none⟩) ll.flatten.length ll.flatten.length) ll.flatten.length (ll.flatten.map by8) ∧ Below w.heap.size w w' := by
  have HL := Lib.hid h.len
  have h1 := h.sl.le; have h2 := h.sl.max
  obtain ⟨J, hJ⟩ : ∃ J, J = ll.flatten := ⟨_, rfl⟩
  rw [← hJ] at hr ⊢
  obtain ⟨T, hT⟩ : ∃ T, T = J.length := ⟨_, rfl⟩
  rw [← hT] at hr ⊢
  have HJ := Lib.hid hJ
  have HT : Hid (T = ll.flatten.length) := Lib.hid (by rw [hT, hJ])
  clear hT hJ
  go_enter Try.func89, Try.ntmps89
  go_wp2
  go_loop [3, 11] (fun s i => ∃ k m : Nat, k ≤ n ∧ i = .int .i64 k ∧ s = .int .i64 m ∧ Hid (m = (ll.take k).flatten.length) ∧ m ≤ T) (fun _ i => n - (intOf i).toNat)
  case atStart => exact ⟨0, 0, by omega, rfl, rfl, Lib.hid (by simp), by omega⟩
  case round =>
    obtain ⟨k, m, hk, rfl, rfl, hm, hmT⟩ := hrel
    by_cases hlt : k < n
    · obtain ⟨b, off, rfl⟩ := h.sl.form (by omega)
      obtain ⟨a, m2, c2, g, s2, hm2⟩ := h.get k hlt
      have HM : Hid (m + m2 = (ll.take (k + 1)).flatten.length) := Lib.hid (by rw [flat_take ll k (by rw [HL.out]; exact hlt), List.length_append, ← hm.out, ← hm2])
      have hle : m + m2 ≤ T := by rw [HM.out, HT.out]; exact flat_take_le ll (k + 1)
      have z1 := s2.le; have z2 := s2.max
      clear s2 hm2
      go_wp2
      go_round
      case rel => exact ⟨k + 1, m + m2, by omega, by go_num, by go_num, HM, hle⟩
      case measure => simp [intOf]; omega
    · obtain rfl : k = n := by omega
      have hmT2 : Hid (m = T) := Lib.hid (by rw [hm.out, HT.out, List.take_of_length_le (Nat.le_of_eq HL.out)])
      obtain rfl : m = T := hmT2.out
      clear hmT2
      go_wp2_with (first | (at_builtin; refine Stopped.out ?_) | (at_make; refine Stopped.out ?_))
      refine Stopped.mk (mk_own EB rfl _ _ rfl w.heap.size m rfl rfl rfl (by omega) (by simp only [maxLen]; omega) (Nat.le_refl _) ?_)
      intro w1 hown hg
      have hb1 := below_grown hg
      clear hg
      go_wp2_with (first | (at_builtin; refine Stopped.out ?_) | (at_make; refine Stopped.out ?_))
      go_loopw [6, 24] (fun o i wr => ∃ j q : Nat, j ≤ k ∧ i = .int .i64 j ∧ q ≤ m ∧ o = .slice (some ⟨w.heap.size, 0, none⟩) q m ∧ Hid (q = (ll.take j).flatten.length) ∧
        wr.ownsRow w.heap.size 5 1 (.slice (some ⟨w.heap.size, 0, none⟩) q m) q ((ll.take j).flatten.map by8) ∧ Below w.heap.size w wr) (fun _ i _ => k - (intOf i).toNat)
      case atStart => exact ⟨0, 0, by omega, rfl, by omega, rfl, Lib.hid (by simp), by simpa using hown, hb1⟩
      case round =>
        obtain ⟨j, q, hj, rfl, hq, rfl, hqh, hst, hbl⟩ := hrel
        by_cases hlt2 : j < k
        · obtain ⟨b, off, rfl⟩ := h.sl.form (by omega)
          have h' := h.below hbl
          obtain ⟨a, m2, c2, g, s2, hm2⟩ := h'.get j hlt2
          have HM : Hid (q + m2 = (ll.take (j + 1)).flatten.length) := Lib.hid (by rw [flat_take ll j (by rw [HL.out]; exact hlt2), List.length_append, ← hqh.out, ← hm2])
          have hle : q + m2 ≤ m := by rw [HM.out, HT.out]; exact flat_take_le ll (j + 1)
          have HF := Lib.hid (flat_take ll j (by rw [HL.out]; exact hlt2))
          clear hm2
          go_wp2_with (first | (at_builtin; refine Stopped.out ?_) | (at_make; refine Stopped.out ?_))
          refine Stopped.mk (fit_own EB rfl _ _ rfl rfl hst rfl s2 (u8_one _) hle ?_)
          intro w2 hst2 hg2
          clear s2 g
          go_wp2
          go_roundw
          case rel => exact ⟨j + 1, q + m2, by omega, by go_num, hle, rfl, HM, by rw [HF.out, List.map_append]; exact hst2, hbl.grown hg2 hbl.size (fun k hk => (Option.some.inj hk) ▸ Nat.le_refl _)⟩
          case measure => simp [intOf]; omega
        · obtain rfl : j = k := by omega
          have HE : Hid (q = m) := Lib.hid (by rw [hqh.out, HT.out, List.take_of_length_le (Nat.le_of_eq HL.out)])
          obtain rfl : q = m := HE.out
          have HF : Hid ((ll.take j).flatten = J) := Lib.hid (by rw [List.take_of_length_le (Nat.le_of_eq HL.out), HJ.out])
          go_wp2
          go_ret
          exact ⟨rfl, by rw [← HF.out]; exact hst, hbl⟩

/-! ### hex -/
/-- a hex digit's value -/
def hexVal (c : Nat) : Option Nat := if 48 ≤ c ∧ c ≤ 57 then some (c - 48) else if 97 ≤ c ∧ c ≤ 102 then some (c - 87) else none
theorem hexVal_lt {c v : Nat} (h : hexVal c = some v) : v < 16 := by
  unfold hexVal at h
  split at h
  · injection h with h; omega
  · split at h
    · injection h with h; omega
    · cases h
end Go.Proofs.Ytpjmbhhfpoamnaa
