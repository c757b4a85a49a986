import Derived.Test.YtpjmbhhfpoamnaaJm1
import Derived.Test.YtpjmbhhfpoamnaaJm3
import Derived.Test.YtpjmbhhfpoamnaaFrDec
set_option linter.unusedVariables false
set_option linter.unusedSimpArgs false
namespace Go.Proofs.Ytpjmbhhfpoamnaa
open Go.RowKit
/-- a flash behind the journal's interface -/
def fI (p : Nat) : Value := .iface 23 (.pointer (some ⟨p, 0, none⟩))
/-! a method behind the interface: 327 is the seat's own number (its types and the depth) -/
theorem mRead (p : Nat) (w : World) : (method 327 23 (.pointer (some ⟨p, 0, none⟩)) "Read").run Try.prog w = .ok (24, .pointer (some ⟨p, 0, none⟩)) w := by kernel_rfl
theorem mRoom (p : Nat) (w : World) : (method 327 23 (.pointer (some ⟨p, 0, none⟩)) "Room").run Try.prog w = .ok (28, .pointer (some ⟨p, 0, none⟩)) w := by kernel_rfl
theorem mErase (p : Nat) (w : World) : (method 327 23 (.pointer (some ⟨p, 0, none⟩)) "Erase").run Try.prog w = .ok (35, .pointer (some ⟨p, 0, none⟩)) w := by kernel_rfl
theorem mAppend (p : Nat) (w : World) : (method 327 23 (.pointer (some ⟨p, 0, none⟩)) "Append").run Try.prog w = .ok (23, .pointer (some ⟨p, 0, none⟩)) w := by kernel_rfl
/-- a bank is erased if it has bytes -/
def clrF (s : FSt) (n : Nat) : FSt × Nat := if s.down then (s, 121) else if bankF s n = [] then (s, 0) else eraF s n
theorem refused_bank {s : FSt} {n : Nat} (hn : n ≤ 1) : refusedF s n = if s.down then 121 else 0 := by
  unfold refusedF
  rw [if_neg (by omega)]
theorem FOk.bank {s : FSt} (h : FOk s) (n : Nat) : (bankF s n).length ≤ 1048576 := by
  have h0 := h.b0; have h1 := h.b1; have h2 := h.size
  unfold bankF
  split <;> omega
/-- a Read of a bank -/
theorem FStep.of_below {w w' : World} {p : Nat} {G : List Nat} {s : FSt} (h : Fl w p G s) (k : Below w.heap.size w w') : FStep w w' p G s := ⟨G, h.below k, Keep.of_below k G, fun x hx => .inl hx⟩
theorem FStep.ahead {w w1 w' : World} {p : Nat} {G : List Nat} {s : FSt} (k : Below w.heap.size w w1) (h : FStep w1 w' p G s) : FStep w w' p G s := by
  obtain ⟨G', h1, h2, h3⟩ := h.out
  exact ⟨G', h1, (Keep.of_below k G).trans h2, fun x hx => (h3 x hx).imp id (Nat.le_trans k.size)⟩
set_option maxRecDepth 100000 in
set_option maxHeartbeats 1600000 in
theorem cleared_any (w : World) {p : Nat} {G : List Nat} {s : FSt} (h : Fl w p G s) (hk : FOk s) (n : Nat) (hn : n ≤ 1) :
    Calls Try.prog 105 #[fI p, .int .i64 n] w fun e w' => e = .returned (.int .i64 ((clrF s n).2 : Nat)) ∧ FStep w w' p G (clrF s n).1 := by
  unfold fI
  have mR := mRead p
  have mE := mErase p
  by_cases hd : s.down = true
  · have HR := Lib.hid (flash_Read_no w h n (by rw [refused_bank hn, hd]; decide))
    rw [refused_bank hn, if_pos hd] at HR
    have HC : Hid (clrF s n = (s, 121)) := Lib.hid (by rw [clrF, if_pos hd])
    rw [HC.out]
    have HF := Lib.hid h
    clear hd hn h
    go_enter Try.func105, Try.ntmps105
    go_wp2_with fail
    refine HR.out.mono ?_
    rintro e w1 ⟨rfl, rfl⟩
    clear HR
    go_wp2
    go_ret
    exact ⟨rfl, FStep.of_below HF.out (Below.refl _ _)⟩
  · have hd0 : s.down = false := by simpa using hd
    have HR := Lib.hid (flash_Read_yes w h n hn hd0 (Nat.le_trans (hk.bank n) (by omega)))
    by_cases hb : bankF s n = []
    · have HC : Hid (clrF s n = (s, 0)) := Lib.hid (by rw [clrF, if_neg hd, if_pos hb])
      rw [HC.out]
      rw [hb] at HR
      have HF := Lib.hid h
      clear hd hd0 hb h
      go_enter Try.func105, Try.ntmps105
      go_wp2_with fail
      refine HR.out.mono ?_
      rintro e w1 ⟨rfl, o1, hb1⟩
      clear HR o1
      go_wp2
      go_ret
      exact ⟨rfl, FStep.of_below HF.out hb1⟩
    · have HC : Hid (clrF s n = eraF s n) := Lib.hid (by rw [clrF, if_neg hd, if_neg hb])
      rw [HC.out]
      have q : (((bankF s n).length : Int) == 0) = false := by
        have : (bankF s n).length ≠ 0 := fun h => hb (List.eq_nil_of_length_eq_zero h)
        simp; exact hb
      obtain ⟨L, hL⟩ : ∃ L, L = (bankF s n).length := ⟨_, rfl⟩
      rw [← hL] at q HR
      have HF := Lib.hid h
      have HE := Lib.hid (fun w1 (k : Below w.heap.size w w1) => flash_Erase w1 (h.below k) hk n)
      clear hd hd0 hb h hL
      go_enter Try.func105, Try.ntmps105
      go_wp2_with fail
      refine HR.out.mono ?_
      rintro e w1 ⟨rfl, o1, hb1⟩
      clear HR o1
      go_wp2_with fail
      refine (HE.out _ hb1).mono ?_
      rintro e w2 ⟨rfl, k2⟩
      clear HE
      go_wp2
      go_ret
      exact ⟨rfl, k2.ahead hb1⟩
end Go.Proofs.Ytpjmbhhfpoamnaa
