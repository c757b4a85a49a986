import Derived.Test.YtpjmbhhfpoamnaaChecked
import Derived.Test.YtpjmbhhfpoamnaaJm1
set_option linter.unusedVariables false
set_option linter.unusedSimpArgs false
namespace Go.Proofs.Ytpjmbhhfpoamnaa
open Go.RowKit
set_option maxHeartbeats 400000 in
theorem same14 (w : World) {A B : Option Addr} {n c m d : Nat} {l r : List UInt8} (ha : Sl w 1 A n c (l.map by8)) (hb : Sl w 1 B m d (r.map by8)) :
    Calls Try.prog 71 #[.slice A n c, .slice B m d] w fun e w' => e = .returned (.bool (decide (l = r))) ∧ Drawn w w' := by
  have hla : l.length = n := by simpa using ha.len
  have hlb : r.length = m := by simpa using hb.len
  have h1 := ha.le; have h2 := ha.max; have h3 := hb.le; have h4 := hb.max
  by_cases hnm : n = m
  · subst hnm
    have HA := Lib.hid hla; have HB := Lib.hid hlb
    have HRes : Hid (n ≤ n) := Lib.hid (Nat.le_refl _)
    clear hla hlb
    have hne : ((n : Int) != n) = false := by simp
    go_enter Try.func71, Try.ntmps71
    go_wp2
    go_loopw [5] (fun i wr => ∃ k : Nat, k ≤ n ∧ i = .int .i64 k ∧ Hid (l.take k = r.take k) ∧ Drawn w wr) (fun i _ => n - (intOf i).toNat)
    case atStart => exact ⟨0, by omega, rfl, Lib.hid (by simp), Drawn.refl _⟩
    case round =>
      obtain ⟨k, hk, rfl, heq, hw⟩ := hrel
      obtain ⟨q, rfl⟩ := hw.out
      by_cases hlt : k < n
      · obtain ⟨b, off, rfl⟩ := ha.form (by omega)
        obtain ⟨b2, off2, rfl⟩ := hb.form (by omega)
        have ga := ha.byte k hlt
        have gb := hb.byte k hlt
        have hk0 : (0 : Int) ≤ (k : Int) := Int.natCast_nonneg _
        have hk1 : (k : Int) < (n : Int) := by omega
        have Ta := Lib.hid (take_bt l k (by rw [HA.out]; exact hlt))
        have Tb := Lib.hid (take_bt r k (by rw [HB.out]; exact hlt))
        have La := Lib.hid (bt_eq l k (by rw [HA.out]; exact hlt))
        have Lb := Lib.hid (bt_eq r k (by rw [HB.out]; exact hlt))
        obtain ⟨x, hx⟩ : ∃ x : Nat, x = bt l k := ⟨_, rfl⟩
        obtain ⟨y, hy⟩ : ∃ y : Nat, y = bt r k := ⟨_, rfl⟩
        rw [← hx] at ga Ta La; rw [← hy] at gb Tb Lb
        clear hx hy
        by_cases hxy : x = y
        · subst hxy
          have hxx : ((x : Int) != x) = false := by simp
          go_wp2
          go_quiet (fail)
          go_wp2
          go_roundw
          case rel => exact ⟨k + 1, by omega, by go_num, Lib.hid (by rw [Ta.out, Tb.out, heq.out]), (by first | exact ⟨⟨_, rfl⟩⟩ | exact ⟨⟨_, World.drewN_drewN ..⟩⟩)⟩
          case measure => simp [intOf]; omega
        · have hxx : ((x : Int) != y) = true := by simp; omega
          have HD : Hid (decide (l = r) = false) := Lib.hid (decide_eq_false (by rintro rfl; exact hxy (La.out.trans Lb.out.symm)))
          clear hxy
          go_wp2
          go_quiet (fail)
          go_wp2
          go_ret
          exact ⟨by (rw [HD.out]) <;> rfl, (by first | exact ⟨⟨_, rfl⟩⟩ | exact ⟨⟨_, World.drewN_drewN ..⟩⟩)⟩
      · obtain rfl : k = n := by omega
        have HD : Hid (decide (l = r) = true) := Lib.hid (decide_eq_true (by rw [← List.take_of_length_le (l := l) (Nat.le_of_eq HA.out), ← List.take_of_length_le (l := r) (Nat.le_of_eq HB.out)]; exact heq.out))
        go_wp2
        go_ret
        exact ⟨by (rw [HD.out]) <;> rfl, hw⟩
  · have hne : ((n : Int) != m) = true := by simp; omega
    have HD : Hid (decide (l = r) = false) := Lib.hid (decide_eq_false (by rintro rfl; omega))
    clear hla hlb hnm
    go_enter Try.func71, Try.ntmps71
    go_wp2
    go_ret
    exact ⟨by (rw [HD.out]) <;> rfl, Drawn.refl _⟩
end Go.Proofs.Ytpjmbhhfpoamnaa
