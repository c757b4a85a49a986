import Derived.Test.YtdooabbeolfgfaaRf01h
import Derived.Test.YtdooabbeolfgfaaRf01b
import Derived.Test.YtdooabbeolfgfaaRf01a
import Derived.Test.YtdooabbeolfgfaaPlay01
set_option linter.unusedVariables false
set_option linter.unusedSimpArgs false
namespace Go.Proofs.Ytdooabbeolfgfaa
open Go.RowKit
/-- an operation's cells -/
def opC (kd : Int) (a l : Nat) (n : Int) (X Y P : Option Addr) (xn xc yn yc pn pc : Nat) (s : ByteArray) : Array Value := #[.int .i64 kd, .int .u32 a, .int .u64 l, .int .i64 n, .slice X xn xc, .slice Y yn yc, .slice P pn pc, .string s]
set_option maxRecDepth 100000 in
set_option maxHeartbeats 3200000 in
theorem rots01 (w : World) (kd : Int) (a l : Nat) (ha : a < 4294967296) (hl : l < 18446744073709551616) (n : Int) (h1 : -9223372036854775808 ≤ n) (h2 : n ≤ 9223372036854775807) (X Y P : Option Addr) (xn xc yn yc pn pc : Nat) (s : ByteArray) :
    Calls Try.prog 70 #[.agg (opC kd a l n X Y P xn xc yn yc pn pc s)] w fun e w' => e = .returned (.bool true) ∧ Below w.heap.size w w' := by
  unfold opC
  obtain ⟨r1, e1⟩ : ∃ r, r = rotL 32 a n := ⟨_, rfl⟩
  obtain ⟨r2, e2⟩ : ∃ r, r = rotR 32 a n := ⟨_, rfl⟩
  obtain ⟨r3, e3⟩ : ∃ r, r = rotL 64 l n := ⟨_, rfl⟩
  obtain ⟨r4, e4⟩ : ∃ r, r = rotR 64 l n := ⟨_, rfl⟩
  have HC := Lib.hid (fun w : World => And.intro (RotL32 w a ha n) (And.intro (RotR32 w a ha n) (And.intro (RotL64 w l hl n) (RotR64 w l hl n))))
  have HR := Lib.hid (fun w : World => And.intro (refRotL32 w a ha n h1 h2) (And.intro (refRotR32 w a ha n h1 h2) (And.intro (refRotL64 w l hl n h1 h2) (refRotR64 w l hl n h1 h2))))
  rw [← e1, ← e2, ← e3, ← e4] at HC HR
  clear e1 e2 e3 e4
  obtain ⟨W1, hW1⟩ : ∃ W1, W1 = w.alloc (.cells #[.int .i64 kd, .int .u32 a, .int .u64 l, .int .i64 n, .slice X xn xc, .slice Y yn yc, .slice P pn pc, .string s] 27) := ⟨_, rfl⟩
  have hb := heap_alloc_new w (.cells #[.int .i64 kd, .int .u32 a, .int .u64 l, .int .i64 n, .slice X xn xc, .slice Y yn yc, .slice P pn pc, .string s] 27)
  rw [← hW1] at hb
  have hB : Below w.heap.size w W1 := by rw [hW1]; exact (Below.refl _ _).alloc (Nat.le_refl _) _
  have d1 := box_cell hb 1 _ rfl
  have d2 := box_cell hb 2 _ rfl
  have d3 := box_cell hb 3 _ rfl
  have HBB := Lib.hid hB
  clear hb hB
  go_enter Try.func70, Try.ntmps70
  go_wp2_with (rw [← hW1])
  clear hW1
  go_quiet ((first | (go_at_call 15; with_reducible exact quiet_id (HC.out _).1) | (go_at_call 16; with_reducible exact quiet_id (HC.out _).2.1) | (go_at_call 118; with_reducible exact quiet_id (HR.out _).1) | (go_at_call 119; with_reducible exact quiet_id (HR.out _).2.1)))
  obtain ⟨W2, hW2⟩ : ∃ W2, W2 = W1.drewN nq := ⟨_, rfl⟩
  have d2' : W2.cell? ⟨w.heap.size, 2, none⟩ = some (.int .u64 l) := by rw [hW2]; exact d2
  have d3' : W2.cell? ⟨w.heap.size, 3, none⟩ = some (.int .i64 n) := by rw [hW2]; exact d3
  have HB2 : Hid (Below w.heap.size w W2) := Lib.hid (by rw [hW2]; exact below_drewN HBB.out _)
  clear d1 d2 d3
  go_wp2_with (rw [← hW2])
  clear hW2
  go_quiet ((first | (go_at_call 17; with_reducible exact quiet_id (HC.out _).2.2.1) | (go_at_call 18; with_reducible exact quiet_id (HC.out _).2.2.2) | (go_at_call 120; with_reducible exact quiet_id (HR.out _).2.2.1) | (go_at_call 121; with_reducible exact quiet_id (HR.out _).2.2.2)))
  go_wp2_with fail
  go_ret
  exact ⟨by simp, below_drewN HB2.out _⟩
end Go.Proofs.Ytdooabbeolfgfaa
