import Derived.Test.YtikjhandhgfohaaSame33
import Derived.Test.YtikjhandhgfohaaBits2
import Derived.Test.YtikjhandhgfohaaAp2
set_option linter.unusedVariables false
set_option linter.unusedSimpArgs false
namespace Go.Proofs.Ytikjhandhgfohaa
open Go.RowKit
theorem EBw33 : ElemT Try.prog 23 5 (.int .u8 0) 1 1 := ⟨Try.underlying23, by kernel_rfl, rfl, by decide⟩
/-- bytes with marks behind them -/
def room33 (l : List UInt8) : List UInt8 := l ++ List.replicate 64 201
set_option maxHeartbeats 800000 in
theorem roomy33 (w : World) {A : Option Addr} {n c : Nat} {l : List UInt8} (h : Sl w 1 A n c (l.map by8)) (hn : n ≤ 100000000) :
    Calls Try.prog 7 #[.slice A n c] w fun e w' => ∃ v, e = .returned v ∧ w'.ownsRow w.heap.size 5 1 v (n + 64) ((room33 l).map by8) ∧ Below w.heap.size w w' := by
  go_enter Try.func7, Try.ntmps7
  go_wp2_with (first | (at_builtin; refine Stopped.out ?_) | (at_make; refine Stopped.out ?_))
  refine Stopped.mk (apk_own EBw33 rfl (.tmp 5) (.tmp 6) rfl rfl (World.ownsRow_nil (base := w.heap.size) _ _ _) rfl h (u8_one _) (by simp only [maxLen]; omega) (by omega) (Nat.le_refl _) ?_)
  intro v1 w1 o1 hg1 _
  have hb1 : Below w.heap.size w w1 := (Below.refl _ _).grown hg1 (Nat.le_refl _) (fun k hk => by cases hk)
  rw [Nat.zero_add, List.nil_append] at o1
  have H1 := Lib.hid (And.intro o1 hb1)
  clear o1 hg1 hb1 h
  go_wp2
  go_loopw [3, 4] (fun o i wr => ∃ (j : Nat) (v : Value), j ≤ 64 ∧ i = .int .i64 j ∧ o = v ∧ wr.ownsRow w.heap.size 5 1 v (n + j) ((l ++ List.replicate j 201).map by8) ∧ Below w.heap.size w wr) (fun _ i _ => 64 - (intOf i).toNat)
  case atStart => exact ⟨0, _, by omega, rfl, rfl, by simpa using H1.out.1, H1.out.2⟩
  case round =>
    clear H1
    obtain ⟨j, v, hj, rfl, rfl, hst, hbl⟩ := hrel
    by_cases hlt : j < 64
    · have hj0 : (0 : Int) ≤ (j : Int) := Int.natCast_nonneg _
      have hj1 : (j : Int) < 64 := by omega
      go_wp2_with (first | (at_builtin; refine Stopped.out ?_) | (at_make; refine Stopped.out ?_))
      refine Stopped.mk (apk_own EBw33 rfl (.tmp 12) (.tmp 13) rfl rfl (hst.alloc _) rfl (Sl.fresh wr [_] 5 1 1 rfl (by decide)) (by simp [Value.oneCell']) (by simp only [maxLen]; omega) (by omega) (by have := hbl.size; simp; omega) ?_)
      intro v2 w2 hst2 hg2 _
      have HN := Lib.hid (And.intro hst2 ((hbl.alloc hbl.size _).grown hg2 (by have := hbl.size; simp; omega) (fun k hk => (hst.lt k hk).1)))
      clear hst hbl hst2 hg2
      go_wp2
      first | go_roundw | refine ⟨?rel, ?measure⟩
      case rel => exact ⟨j + 1, v2, by omega, by go_num, rfl, by rw [List.replicate_succ', ← List.append_assoc, List.map_append, ← Nat.add_assoc]; exact HN.out.1, HN.out.2⟩
      case measure => simp [intOf]; omega
    · have HJ := Lib.hid (show j = 64 by omega)
      have HN := Lib.hid (And.intro hst hbl)
      have i1 : (64 : Int) ≤ (j : Int) := by omega
      clear hst hbl
      go_wp2
      go_ret
      exact ⟨_, rfl, by rw [← HJ.out]; have := HN.out.1; rw [HJ.out] at this ⊢; exact this, HN.out.2⟩
end Go.Proofs.Ytikjhandhgfohaa
