import Derived.Test.YtpjmbhhfpoamnaaFlCrA
import Derived.Test.YtpjmbhhfpoamnaaFlCrB
set_option linter.unusedVariables false
set_option linter.unusedSimpArgs false
namespace Go.Proofs.Ytpjmbhhfpoamnaa
open Go.RowKit
set_option maxRecDepth 100000 in
set_option maxHeartbeats 1000000 in
theorem FlashCrashes_walk (W : World) (za zk zl : Int) {B : Option Addr} {n c : Nat} {b : List UInt8} (hb : Sl W 1 B n c (b.map by8)) :
    Calls Try.prog 6 #[.int .i64 za, .int .i64 zk, .int .i64 zl, .slice B n c] W fun e w' => e = .returned (.bool true) ∧ Below W.heap.size W w' := by
  have n1 := hb.le; have n2 := hb.max
  have hbl : b.length = n := by simpa using hb.len
  by_cases g1 : za < 1
  · go_enter Try.func6, Try.ntmps6
    go_wp2
    go_ret
    exact ⟨rfl, Below.refl _ _⟩
  obtain ⟨a, rfl⟩ : ∃ a : Nat, za = a := ⟨za.toNat, by omega⟩
  have i1 : (1 : Int) ≤ (a : Int) := by omega
  clear g1
  by_cases g2 : 300 < (a : Int)
  · go_enter Try.func6, Try.ntmps6
    go_wp2
    go_ret
    exact ⟨by simp, Below.refl _ _⟩
  have i2 : (a : Int) ≤ 300 := by omega
  clear g2
  by_cases g3 : zl < 1
  · go_enter Try.func6, Try.ntmps6
    go_wp2
    go_ret
    exact ⟨by simp, Below.refl _ _⟩
  obtain ⟨l, rfl⟩ : ∃ l : Nat, zl = l := ⟨zl.toNat, by omega⟩
  have i3 : (1 : Int) ≤ (l : Int) := by omega
  clear g3
  by_cases g4 : 300 < (l : Int)
  · go_enter Try.func6, Try.ntmps6
    go_wp2
    go_ret
    exact ⟨by simp, Below.refl _ _⟩
  have i4 : (l : Int) ≤ 300 := by omega
  clear g4
  by_cases g5 : zk < 0
  · go_enter Try.func6, Try.ntmps6
    go_wp2
    go_ret
    exact ⟨by simp, Below.refl _ _⟩
  obtain ⟨k, rfl⟩ : ∃ k : Nat, zk = k := ⟨zk.toNat, by omega⟩
  have i5 : (0 : Int) ≤ (k : Int) := by omega
  clear g5
  by_cases g6 : 1048576 < (k : Int)
  · go_enter Try.func6, Try.ntmps6
    go_wp2
    go_ret
    exact ⟨by simp, Below.refl _ _⟩
  have i6 : (k : Int) ≤ 1048576 := by omega
  clear g6
  by_cases g7 : 1000 < (n : Int)
  · go_enter Try.func6, Try.ntmps6
    go_wp2
    go_ret
    exact ⟨by simp, Below.refl _ _⟩
  have i7 : (n : Int) ≤ 1000 := by omega
  clear g7
  rcases Nat.lt_or_ge k n with h | h
  · exact FlashCrashes_A W hb (by omega) (by omega) (by omega) (by omega) (by omega) (by omega) (by omega) h
  · exact FlashCrashes_B W hb (by omega) (by omega) (by omega) (by omega) (by omega) (by omega) (by omega) h
end Go.Proofs.Ytpjmbhhfpoamnaa
