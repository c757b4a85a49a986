import Derived.Test.YtpjmbhhfpoamnaaJn2
set_option linter.unusedVariables false
set_option linter.unusedSimpArgs false
namespace Go.Proofs.Ytpjmbhhfpoamnaa
open Go.RowKit
/-! ### what steps keep, and that writes told do not matter -/
structure FOkN (N : Nat) (s : FSt) : Prop where
  size : s.size ≤ 1048576
  b0 : s.b0.length ≤ s.size
  b1 : s.b1.length ≤ s.size
  writes : s.writes ≤ N
  count : s.count ≤ N
  armed : s.armed.length ≤ 64
  vals : ∀ c ∈ s.armed, c.1 ≤ 1000000 ∧ c.2 ≤ 1048576
theorem FOkN.ok {N : Nat} {s : FSt} (h : FOkN N s) (hN : N ≤ 4611686018427387904) : FOk s :=
  ⟨h.size, h.b0, h.b1, Nat.le_trans h.writes hN, Nat.le_trans h.count hN, h.armed, h.vals⟩
theorem FOkN.more {N M : Nat} {s : FSt} (h : FOkN N s) (hN : N ≤ M) : FOkN M s :=
  ⟨h.size, h.b0, h.b1, Nat.le_trans h.writes hN, Nat.le_trans h.count hN, h.armed, h.vals⟩
theorem FOkN.new (z : Int) : FOkN 0 ⟨capF z, [], [], [], 0, 0, false⟩ := ⟨capF_le z, Nat.zero_le _, Nat.zero_le _, Nat.le_refl _, Nat.le_refl _, by simp, by simp⟩
theorem FOkN.strike {N : Nat} {s : FSt} (h : FOkN N s) : FOkN (N + 1) (strikeF s) := by
  obtain ⟨sz, b0, b1, ar, ct, wr, dn⟩ := s
  obtain ⟨h1, h2, h3, h4, h5, h6, h7⟩ := h
  simp only at h1 h2 h3 h4 h5 h6 h7
  cases ar with
  | nil => exact ⟨h1, h2, h3, by simp [strikeF]; omega, by simp [strikeF]; omega, by simp [strikeF], by simp [strikeF]⟩
  | cons c r =>
    by_cases hc : ct + 1 < c.1
    · have e : strikeF ⟨sz, b0, b1, c :: r, ct, wr, dn⟩ = ⟨sz, b0, b1, c :: r, ct + 1, wr + 1, dn⟩ := by simp [strikeF, hc]
      rw [e]
      exact ⟨h1, h2, h3, by simp only; omega, by simp only; omega, h6, h7⟩
    · have e : strikeF ⟨sz, b0, b1, c :: r, ct, wr, dn⟩ = ⟨sz, b0, b1, r, 0, wr + 1, true⟩ := by simp [strikeF, hc]
      rw [e]
      exact ⟨h1, h2, h3, by simp only; omega, by simp only; omega, by simp only; have : (c :: r).length = r.length + 1 := rfl; omega, fun x hx => h7 x (List.mem_cons_of_mem _ hx)⟩
theorem FOkN.add {N : Nat} {s : FSt} (h : FOkN N s) (n : Nat) (l : List UInt8) (hl : (bankF s n).length + l.length ≤ s.size) : FOkN N (addB s n l) := by
  unfold bankF at hl
  unfold addB
  split
  · rename_i h0; rw [if_pos h0] at hl; exact ⟨h.size, by simpa using hl, h.b1, h.writes, h.count, h.armed, h.vals⟩
  · rename_i h0; rw [if_neg h0] at hl; exact ⟨h.size, h.b0, by simpa using hl, h.writes, h.count, h.armed, h.vals⟩
theorem FOkN.set {N : Nat} {s : FSt} (h : FOkN N s) (n : Nat) (l : List UInt8) (hl : l.length ≤ s.size) : FOkN N (setB s n l) := by
  unfold setB
  split
  · exact ⟨h.size, by simpa using hl, h.b1, h.writes, h.count, h.armed, h.vals⟩
  · exact ⟨h.size, h.b0, by simpa using hl, h.writes, h.count, h.armed, h.vals⟩
theorem bankF_strike (s : FSt) (n : Nat) : bankF (strikeF s) n = bankF s n := by unfold bankF; rw [strikeF_b0, strikeF_b1]
theorem eraL_len (s : FSt) (b : List UInt8) : (eraL s b).length ≤ b.length := by
  unfold eraL
  split
  · split
    · simp
    · simp; omega
  · simp
theorem addB_size (s : FSt) (n : Nat) (l : List UInt8) : (addB s n l).size = s.size := by unfold addB; split <;> rfl
theorem setB_size (s : FSt) (n : Nat) (l : List UInt8) : (setB s n l).size = s.size := by unfold setB; split <;> rfl
theorem bankF_le {N : Nat} {s : FSt} (h : FOkN N s) (n : Nat) : (bankF s n).length ≤ s.size := by unfold bankF; split; exact h.b0; exact h.b1
theorem doesF_ok {N : Nat} {s : FSt} (h : FOkN N s) (t : St12) : FOkN (N + 1) (doesF s t).1 ∧ (doesF s t).1.size = s.size := by
  have hm := h.more (Nat.le_succ N)
  unfold doesF
  split
  · unfold appF
    split
    · exact ⟨hm, rfl⟩
    · split
      · exact ⟨hm, rfl⟩
      · rename_i hf
        refine ⟨h.strike.add _ _ ?_, ?_⟩
        · rw [bankF_strike, strikeF_size]
          split
          · simp; omega
          · omega
        · rw [addB_size, strikeF_size]
  · split
    · unfold eraF
      split
      · exact ⟨hm, rfl⟩
      · refine ⟨h.strike.set _ _ ?_, ?_⟩
        · rw [strikeF_size]; exact Nat.le_trans (eraL_len _ _) (bankF_le h _)
        · rw [setB_size, strikeF_size]
    · split
      · unfold armF
        split
        · exact ⟨hm, rfl⟩
        · split
          · exact ⟨hm, rfl⟩
          · rename_i h1 h2
            refine ⟨⟨h.size, h.b0, h.b1, hm.writes, hm.count, by simp; omega, fun c hc => ?_⟩, rfl⟩
            rcases List.mem_append.1 hc with hc | hc
            · exact h.vals c hc
            · obtain rfl := List.mem_singleton.1 hc
              exact ⟨by simp only; omega, by simp only; omega⟩
      · split
        · exact ⟨⟨h.size, h.b0, h.b1, hm.writes, Nat.zero_le _, by simp, by simp⟩, rfl⟩
        · split
          · exact ⟨⟨h.size, h.b0, h.b1, hm.writes, hm.count, h.armed, h.vals⟩, rfl⟩
          · exact ⟨hm, rfl⟩
/-- all but the count of writes told -/
def core (s : FSt) : FSt := { s with writes := 0 }
theorem core_with (s : FSt) (n : Nat) : core { s with writes := n } = core s := rfl
theorem core_eq {s t : FSt} (h : core s = core t) : ∃ n, t = { s with writes := n } := by
  obtain ⟨a, b, c, d, e, f, g⟩ := s
  obtain ⟨a', b', c', d', e', f', g'⟩ := t
  simp only [core, FSt.mk.injEq] at h
  obtain ⟨rfl, rfl, rfl, rfl, rfl, _, rfl⟩ := h
  exact ⟨f', rfl⟩
theorem strike_with (s : FSt) (n : Nat) : strikeF { s with writes := n } = { strikeF s with writes := n + 1 } := by
  obtain ⟨sz, b0, b1, ar, ct, wr, dn⟩ := s
  cases ar with
  | nil => rfl
  | cons c r => simp only [strikeF]; split <;> rfl
theorem core_add (s : FSt) (n m : Nat) (l : List UInt8) : core (addB { s with writes := m } n l) = core (addB s n l) := by unfold addB; split <;> rfl
theorem core_set (s : FSt) (n m : Nat) (l : List UInt8) : core (setB { s with writes := m } n l) = core (setB s n l) := by unfold setB; split <;> rfl
theorem doesF_with (s : FSt) (n : Nat) (t : St12) : core (doesF { s with writes := n } t).1 = core (doesF s t).1 ∧ (doesF { s with writes := n } t).2 = (doesF s t).2 := by
  have a1 : ∀ i, refusedF { s with writes := n } i = refusedF s i := fun _ => rfl
  have a2 : ∀ i, bankF { s with writes := n } i = bankF s i := fun _ => rfl
  have a3 : struckF { s with writes := n } = struckF s := rfl
  have a4 : keepF { s with writes := n } = keepF s := rfl
  have a5 : ∀ b, eraL { s with writes := n } b = eraL s b := fun _ => rfl
  unfold doesF
  split
  · simp only [appF, a1, a2, a3, a4]
    split
    · exact ⟨rfl, rfl⟩
    · split
      · exact ⟨rfl, rfl⟩
      · exact ⟨by rw [strike_with]; exact core_add .., rfl⟩
  · split
    · simp only [eraF, a1, a2, a3, a5]
      split
      · exact ⟨rfl, rfl⟩
      · exact ⟨by rw [strike_with]; exact core_set .., rfl⟩
    · split
      · simp only [armF]
        split
        · exact ⟨rfl, rfl⟩
        · split <;> exact ⟨rfl, rfl⟩
      · split
        · exact ⟨rfl, rfl⟩
        · split <;> exact ⟨rfl, rfl⟩
theorem doesF_core {s t : FSt} (h : core s = core t) (x : St12) : core (doesF s x).1 = core (doesF t x).1 ∧ (doesF s x).2 = (doesF t x).2 := by
  obtain ⟨n, rfl⟩ := core_eq h
  have := doesF_with s n x
  exact ⟨this.1.symm, this.2.symm⟩
theorem size12_get (ss : List St12) (k : Nat) (h : k < ss.length) : ss[k].b.length ≤ size12 ss := by
  have h1 := size12_take ss k h
  have h2 := size12_take_le ss (k + 1)
  omega
/-! ### the flash's steps, one by one -/
theorem appF_ok {N : Nat} {s : FSt} (h : FOkN N s) (n : Int) (l : List UInt8) : FOkN (N + 1) (appF s n l).1 ∧ (appF s n l).1.size = s.size := by
  have := doesF_ok h ⟨1, n, l, 0, 0⟩
  simpa [doesF] using this
theorem eraF_ok {N : Nat} {s : FSt} (h : FOkN N s) (n : Int) : FOkN (N + 1) (eraF s n).1 ∧ (eraF s n).1.size = s.size := by
  have := doesF_ok h ⟨2, n, [], 0, 0⟩
  simpa [doesF] using this
theorem clrF_ok {N : Nat} {s : FSt} (h : FOkN N s) (n : Nat) : FOkN (N + 1) (clrF s n).1 ∧ (clrF s n).1.size = s.size := by
  unfold clrF
  split
  · exact ⟨h.more (Nat.le_succ N), rfl⟩
  · split
    · exact ⟨h.more (Nat.le_succ N), rfl⟩
    · exact eraF_ok h n
/-- a step on the flash behind a step -/
theorem FStep.comp {w w1 w' : World} {p : Nat} {G : List Nat} {s1 s2 : FSt} (k : FStep w w1 p G s1) (h : ∀ G1, Fl w1 p G1 s1 → (∀ x ∈ G1, x ∈ G ∨ w.heap.size ≤ x) → FStep w1 w' p G1 s2) : FStep w w' p G s2 := by
  obtain ⟨G1, h1, h2, h3⟩ := k.out
  obtain ⟨G2, j1, j2, j3⟩ := (h G1 h1 h3).out
  refine ⟨G2, j1, ⟨j2.os.trans h2.os, j2.tape.trans h2.tape, j2.output.trans h2.output, Nat.le_trans h2.size j2.size, fun x hx hM => ?_⟩, fun x hx => ?_⟩
  · refine (j2.block x (Nat.lt_of_lt_of_le hx h2.size) (fun hx1 => ?_)).trans (h2.block x hx hM)
    rcases h3 x hx1 with h4 | h4
    · exact hM h4
    · omega
  · rcases j3 x hx with h4 | h4
    · exact h3 x h4
    · exact .inr (Nat.le_trans h2.size h4)
theorem FStep.then_ {w w1 w' : World} {p : Nat} {G : List Nat} {s : FSt} (k : FStep w w1 p G s) (hb : Below w1.heap.size w1 w') : FStep w w' p G s := k.comp (fun G1 h1 _ => FStep.of_below h1 hb)
theorem FStep.glue {w w1 w' : World} {p : Nat} {G G1 : List Nat} {s2 : FSt} (h2 : Keep G w w1) (h3 : ∀ x ∈ G1, x ∈ G ∨ w.heap.size ≤ x) (k : FStep w1 w' p G1 s2) : FStep w w' p G s2 := by
  obtain ⟨G2, j1, j2, j3⟩ := k.out
  refine ⟨G2, j1, ⟨j2.os.trans h2.os, j2.tape.trans h2.tape, j2.output.trans h2.output, Nat.le_trans h2.size j2.size, fun x hx hM => ?_⟩, fun x hx => ?_⟩
  · refine (j2.block x (Nat.lt_of_lt_of_le hx h2.size) (fun hx1 => ?_)).trans (h2.block x hx hM)
    rcases h3 x hx1 with h4 | h4
    · exact hM h4
    · omega
  · rcases j3 x hx with h4 | h4
    · exact h3 x h4
    · exact .inr (Nat.le_trans h2.size h4)
/-- the calls, behind steps -/
theorem cleared_step {w wr : World} {p : Nat} {G : List Nat} {s : FSt} (h : FStep w wr p G s) (hk : FOk s) (n : Nat) (hn : n ≤ 1) :
    Calls Try.prog 105 #[.iface 23 (.pointer (some ⟨p, 0, none⟩)), .int .i64 n] wr fun e w' => e = .returned (.int .i64 ((clrF s n).2 : Nat)) ∧ FStep w w' p G (clrF s n).1 := by
  obtain ⟨G1, f1, k1, g1⟩ := h.out
  exact (cleared_any wr f1 hk n hn).mono fun e w' ⟨he, hs⟩ => ⟨he, FStep.glue k1 g1 hs⟩
theorem append_step {w wr : World} {p : Nat} {G : List Nat} {s : FSt} (h : FStep w wr p G s) (hk : FOk s) (n : Nat) {A : Option Addr} {m c : Nat} {l : List UInt8} (hb : Sl wr 1 A m c (l.map by8)) (hA : ∀ ad, A = some ad → 0 < m → ad.block ∉ G ∧ ad.block < w.heap.size) (hm : m ≤ 140737488355328) :
    Calls Try.prog 23 #[.pointer (some ⟨p, 0, none⟩), .int .i64 n, .slice A m c] wr fun e w' => e = .returned (.int .i64 ((appF s n l).2 : Nat)) ∧ FStep w w' p G (appF s n l).1 := by
  obtain ⟨G1, f1, k1, g1⟩ := h.out
  refine (flash_Append wr f1 hk n hb (fun ad e h0 hx => ?_) hm).mono fun e w' ⟨he, hs⟩ => ⟨he, FStep.glue k1 g1 hs⟩
  have := hA ad e h0
  rcases g1 _ hx with h4 | h4
  · exact this.1 h4
  · omega
theorem FStep.keep {w w1 : World} {p : Nat} {G : List Nat} {s : FSt} (k : FStep w w1 p G s) : Keep G w w1 := let ⟨_, _, h, _⟩ := k.out; h
end Go.Proofs.Ytpjmbhhfpoamnaa
