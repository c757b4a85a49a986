import Derived.Test.YtdooabbeolfgfaaRefOut
set_option linter.unusedVariables false
set_option linter.unusedSimpArgs false
namespace Go.Proofs.Ytdooabbeolfgfaa
open Go.RowKit
/-! ### numbers of a list -/
def qt (l : List UInt64) (i : Nat) : Nat := (l[i]?.getD 0).toNat
theorem qt_lt (l : List UInt64) (i : Nat) : qt l i < 18446744073709551616 := UInt64.toNat_lt _
theorem qt_eq (l : List UInt64) (i : Nat) (h : i < l.length) : qt l i = l[i].toNat := by simp [qt, List.getElem?_eq_getElem h]
theorem take_qt (l : List UInt64) (i : Nat) (h : i < l.length) : l.take (i + 1) = l.take i ++ [UInt64.ofNat (qt l i)] := by
  rw [List.take_succ_eq_append_getElem h, qt_eq l i h, UInt64.ofNat_toNat]
theorem Sl.word {w : World} {b off n c : Nat} {l : List UInt64} (h : Sl w 1 (some ⟨b, off, .none⟩) n c (l.map by64)) (i : Nat) (hi : i < n) : w.cell? ⟨b, off + i, .none⟩ = some (.int .u64 (qt l i : Int)) := by
  have hl : (l.map by64).length = n := by simpa using h.len
  have hl2 : l.length = n := by simpa using hl
  rw [h.cell i (by omega), qt_eq l i (by omega)]
  simp [by64]
set_option maxHeartbeats 400000 in
theorem sameNumbers_any (w : World) {A B : Option Addr} {n c m d : Nat} {l r : List UInt64} (ha : Sl w 1 A n c (l.map by64)) (hb : Sl w 1 B m d (r.map by64)) :
    Calls Try.prog 84 #[.slice A n c, .slice B m d] w fun e w' => e = .returned (.bool (decide (l = r))) ∧ Drawn w w' := by
  have hla : l.length = n := by simpa using ha.len
  have hlb : r.length = m := by simpa using hb.len
  have h1 := ha.le; have h2 := ha.max; have h3 := hb.le; have h4 := hb.max
  by_cases hnm : n = m
  · subst hnm
    have HA := Lib.hid hla; have HB := Lib.hid hlb
    have HRes : Hid (n ≤ n) := Lib.hid (Nat.le_refl _)
    clear hla hlb
    have hne : ((n : Int) != n) = false := by simp
    go_enter Try.func84, Try.ntmps84
    go_wp2
    go_loopw [5] (fun i wr => ∃ k : Nat, k ≤ n ∧ i = .int .i64 k ∧ Hid (l.take k = r.take k) ∧ Drawn w wr) (fun i _ => n - (intOf i).toNat)
    case atStart => exact ⟨0, by omega, rfl, Lib.hid (by simp), Drawn.refl _⟩
    case round =>
      obtain ⟨k, hk, rfl, heq, hw⟩ := hrel
      obtain ⟨q, rfl⟩ := hw.out
      by_cases hlt : k < n
      · obtain ⟨b, off, rfl⟩ := ha.form (by omega)
        obtain ⟨b2, off2, rfl⟩ := hb.form (by omega)
        have ga := ha.word k hlt
        have gb := hb.word k hlt
        have hk0 : (0 : Int) ≤ (k : Int) := Int.natCast_nonneg _
        have hk1 : (k : Int) < (n : Int) := by omega
        have Ta := Lib.hid (take_qt l k (by rw [HA.out]; exact hlt))
        have Tb := Lib.hid (take_qt r k (by rw [HB.out]; exact hlt))
        have La := Lib.hid (qt_eq l k (by rw [HA.out]; exact hlt))
        have Lb := Lib.hid (qt_eq r k (by rw [HB.out]; exact hlt))
        obtain ⟨x, hx⟩ : ∃ x : Nat, x = qt l k := ⟨_, rfl⟩
        obtain ⟨y, hy⟩ : ∃ y : Nat, y = qt r k := ⟨_, rfl⟩
        rw [← hx] at ga Ta La; rw [← hy] at gb Tb Lb
        clear hx hy
        by_cases hxy : x = y
        · subst hxy
          have hxx : ((x : Int) != x) = false := by simp
          go_wp2
          go_quiet (fail)
          go_wp2
          first | go_roundw | refine ⟨?rel, ?measure⟩
          case rel => exact ⟨k + 1, by omega, by go_num, Lib.hid (by rw [Ta.out, Tb.out, heq.out]), (by first | exact ⟨⟨_, rfl⟩⟩ | exact ⟨⟨_, World.drewN_drewN ..⟩⟩)⟩
          case measure => simp [intOf]; omega
        · have hxx : ((x : Int) != y) = true := by simp; omega
          have HD : Hid (decide (l = r) = false) := Lib.hid (decide_eq_false (by rintro rfl; exact hxy (La.out.trans Lb.out.symm)))
          clear hxy
          go_wp2
          go_quiet (fail)
          go_wp2
          go_ret
          exact ⟨by (rw [HD.out]) <;> rfl, (by first | exact ⟨⟨_, rfl⟩⟩ | exact ⟨⟨_, World.drewN_drewN ..⟩⟩)⟩
      · obtain rfl : k = n := by omega
        have HD : Hid (decide (l = r) = true) := Lib.hid (decide_eq_true (by rw [← List.take_of_length_le (l := l) (Nat.le_of_eq HA.out), ← List.take_of_length_le (l := r) (Nat.le_of_eq HB.out)]; exact heq.out))
        go_wp2
        go_ret
        exact ⟨by (rw [HD.out]) <;> rfl, hw⟩
  · have HD : Hid (decide (l = r) = false) := Lib.hid (decide_eq_false (by rintro rfl; omega))
    have hne : ((n : Int) != m) = true := by simp; omega
    clear hnm hla hlb
    go_enter Try.func84, Try.ntmps84
    go_wp2
    go_ret
    exact ⟨by (rw [HD.out]) <;> rfl, Drawn.refl _⟩
/-! ### a list behind its number -/
def numsL (l : List UInt64) : List UInt8 := l.flatMap fun c => shortL c.toNat
theorem numsL_take (l : List UInt64) (k : Nat) (h : k < l.length) : numsL (l.take (k + 1)) = numsL (l.take k) ++ shortL (qt l k) := by
  unfold numsL
  rw [List.take_succ_eq_append_getElem h, List.flatMap_append, qt_eq l k h]
  simp
theorem numsL_len (l : List UInt64) : (numsL l).length ≤ 10 * l.length := by
  unfold numsL
  induction l with
  | nil => simp
  | cons c l ih =>
    have := shortL_len c.toNat c.toNat_lt
    simp only [List.flatMap_cons, List.length_append, List.length_cons]
    omega
theorem write1 (w : World) {p : Nat} {G : List Nat} {l : List UInt8} {f : Nat} (h : Ob 104 w p G l f) (x : Nat) (hx : x < 18446744073709551616) (hb : l.length ≤ 140737488355000) :
    Calls Try.prog 83 #[.pointer (some ⟨p, 0, none⟩), .int .u64 x] w fun e w' => e = .returned (.tuple #[]) ∧ Stepped 104 w w' p G (putL l f (shortL x)) f := by
  go_enter Try.func83, Try.ntmps83
  go_wp2_with (first | (at_builtin; refine Stopped.out ?_) | (at_make; refine Stopped.out ?_))
  refine (Uint_any _ h x hx hb).mono ?_
  rintro e w' ⟨rfl, hst⟩
  go_wp2
  go_end0
  exact ⟨rfl, hst⟩
theorem Ob.cellF {T : TypeId} {w : World} {p : Nat} {G : List Nat} {l : List UInt8} {f : Nat} (h : Ob T w p G l f) : w.cell? ⟨p, 1, none⟩ = some (.int .i64 f) := by
  obtain ⟨v, hb, _⟩ := h.out
  exact box_cell hb 1 _ rfl
set_option maxRecDepth 100000 in
set_option maxHeartbeats 800000 in
theorem PutList_any (w : World) {p : Nat} {G : List Nat} {l : List UInt8} {f : Nat} (h : Ob 104 w p G l f) {A : Option Addr} {m c : Nat} {r : List UInt64} (hs : Sl w 1 A m c (r.map by64)) (hA : ∀ ad, A = some ad → ad.block ∉ G) (hA2 : ∀ ad, A = some ad → ad.block < w.heap.size) (most : Int) (hb : l.length + 10 * m ≤ 140737488354000) :
    Calls Try.prog 82 #[.pointer (some ⟨p, 0, none⟩), .slice A m c, .int .i64 most, .func (.func 83) #[] #[]] w fun e w' => e = .returned (.tuple #[]) ∧ Stepped 104 w w' p G (putL l (cutF most m f) (shortL m ++ numsL r)) (cutF most m f) := by
  have hl := hs.le; have hm := hs.max
  have hrl : r.length = m := by simpa using hs.len
  have HR := Lib.hid hrl
  have hcv : IntKind.u64.wrap (m : Int) = m := by rw [IntKind.wrap_u64]; omega
  obtain ⟨f', hf'⟩ : ∃ f', f' = cutF most m f := ⟨_, rfl⟩
  rw [← hf']
  clear hrl
  by_cases hc : (m : Int) ≤ most
  · obtain rfl : f' = f := by rw [hf', cutF, if_pos hc]
    clear hf'
    have hgt : decide (most < (m : Int)) = false := decide_eq_false (by omega)
    have hw0 := h
    have hk0 := Keep.refl G w
    have hG0 : ∀ x ∈ G, x ∈ G ∨ w.heap.size ≤ x := fun x hx => .inl hx
    go_enter Try.func82, Try.ntmps82
    go_wp2_with (first | (at_builtin; refine Stopped.out ?_) | (at_make; refine Stopped.out ?_))
    refine (Uint_any _ hw0 m (by omega) (by omega)).mono ?_
    rintro e w1 ⟨rfl, hst⟩
    obtain ⟨G1, hw1, hk1, hG1⟩ := (Stepped.thn hk0 hG0 hst).out
    have hsl := shortL_len m (by omega)
    clear hst hk0 hG0 hw0
    by_cases hf0 : f' = 0
    · subst hf0
      go_wp2_with (first | (at_builtin; refine Stopped.out ?_) | (at_make; refine Stopped.out ?_))
      go_loopw [9, 23] (fun _ i wr => ∃ (k : Nat) (G2 : List Nat), k ≤ m ∧ i = .int .i64 k ∧ Ob 104 wr p G2 (l ++ (shortL m ++ numsL (r.take k))) 0 ∧ Keep G w wr ∧ ∀ x ∈ G2, x ∈ G ∨ w.heap.size ≤ x) (fun _ i _ => m - (intOf i).toNat)
      case atStart => exact ⟨0, G1, by omega, rfl, by simpa [numsL, putL] using hw1, hk1, hG1⟩
      case round =>
        obtain ⟨k, G2, hk, rfl, hw2, hk2, hG2⟩ := hrel
        by_cases hlt : k < m
        · obtain ⟨b, off, rfl⟩ := hs.form (by omega)
          have ga := (hs.keep hk2 hA).word k hlt
          have hk0 : (0 : Int) ≤ (k : Int) := Int.natCast_nonneg _
          have hk1 : (k : Int) < (m : Int) := by omega
          have hcf := hw2.cellF
          have hq := qt_lt r k
          have HT := Lib.hid (numsL_take r k (by rw [HR.out]; exact hlt))
          obtain ⟨q, hqq⟩ : ∃ q, q = qt r k := ⟨_, rfl⟩
          rw [← hqq] at ga hq HT
          clear hqq
          have hlen : (l ++ (shortL m ++ numsL (r.take k))).length ≤ 140737488355000 := by
            have := numsL_len (r.take k)
            simp only [List.length_append, List.length_take, HR.out] at this ⊢
            omega
          go_wp2_with (first | (at_builtin; refine Stopped.out ?_) | (at_make; refine Stopped.out ?_))
          refine (write1 _ hw2 q hq hlen).mono ?_
          rintro e w3 ⟨rfl, hst3⟩
          obtain ⟨G3, hw3, hk3, hG3⟩ := (Stepped.thn hk2 hG2 hst3).out
          have HE : Hid (putL (l ++ (shortL m ++ numsL (r.take k))) 0 (shortL q) = l ++ (shortL m ++ numsL (r.take (k + 1)))) := Lib.hid (by rw [HT.out]; simp [putL])
          rw [HE.out] at hw3
          go_wp2_with (first | (at_builtin; refine Stopped.out ?_) | (at_make; refine Stopped.out ?_))
          first | go_roundw | refine ⟨?rel, ?measure⟩
          case rel => exact ⟨k + 1, G3, by omega, by go_num, hw3, hk3, hG3⟩
          case measure => simp [intOf]; omega
        · obtain rfl : k = m := by omega
          have HE : Hid (putL l 0 (shortL k ++ numsL r) = l ++ (shortL k ++ numsL (r.take k))) := Lib.hid (by rw [List.take_of_length_le (Nat.le_of_eq HR.out)]; rfl)
          go_wp2
          go_end0
          exact ⟨rfl, by rw [HE.out]; exact ⟨G2, hw2, hk2, hG2⟩⟩
    · have HP : Hid (∀ b, putL l f' b = l) := Lib.hid (fun b => by rw [putL, if_neg hf0])
      rw [HP.out] at hw1
      have hz : ((f' : Int) != 0) = true := by simp; omega
      have hst : Stepped 104 w w1 p G l f' := ⟨G1, hw1, hk1, hG1⟩
      have hcf := hw1.cellF
      have hs1 := hs.keep hk1 hA
      clear hf0 hw1 hk1 hG1
      go_wp2_with (first | (at_builtin; refine Stopped.out ?_) | (at_make; refine Stopped.out ?_))
      go_loopw [9, 23] (fun _ i wr => i = .int .i64 (0 : Nat) ∧ w1 = wr) (fun _ i _ => 0)
      case atStart => exact ⟨rfl, rfl⟩
      case round =>
        obtain ⟨rfl, rfl⟩ := hrel
        by_cases hm0 : m = 0
        · subst hm0
          go_wp2
          go_end0
          exact ⟨rfl, by rw [HP.out]; exact hst⟩
        · obtain ⟨b, off, rfl⟩ := hs.form (by omega)
          have ga := hs1.word 0 (by omega)
          rw [Nat.add_zero] at ga
          have hk1 : (0 : Int) < (m : Int) := by omega
          go_wp2
          refine bodyPost_ret (results_none rfl _ _ _) rfl ?_
          exact ⟨rfl, by rw [HP.out]; exact hst⟩
  · have HC : Hid ((if f = 0 then 1 else f) = f') := Lib.hid (by rw [hf', cutF, if_neg hc])
    clear hf'
    have hgt : most < (m : Int) := by omega
    go_enter Try.func82, Try.ntmps82
    go_wp2_with (first | (at_builtin; refine Stopped.out ?_) | (at_make; refine Stopped.out ?_))
    refine (fail_any _ h 1).mono ?_
    rintro e w0 ⟨rfl, hst0⟩
    rw [HC.out] at hst0
    obtain ⟨G0, hw0, hk0, hG0⟩ := hst0.out
    clear hst0 HC
    go_wp2_with (first | (at_builtin; refine Stopped.out ?_) | (at_make; refine Stopped.out ?_))
    refine (Uint_any _ hw0 m (by omega) (by omega)).mono ?_
    rintro e w1 ⟨rfl, hst⟩
    obtain ⟨G1, hw1, hk1, hG1⟩ := (Stepped.thn hk0 hG0 hst).out
    have hsl := shortL_len m (by omega)
    clear hst hk0 hG0 hw0
    by_cases hf0 : f' = 0
    · subst hf0
      go_wp2_with (first | (at_builtin; refine Stopped.out ?_) | (at_make; refine Stopped.out ?_))
      go_loopw [9, 23] (fun _ i wr => ∃ (k : Nat) (G2 : List Nat), k ≤ m ∧ i = .int .i64 k ∧ Ob 104 wr p G2 (l ++ (shortL m ++ numsL (r.take k))) 0 ∧ Keep G w wr ∧ ∀ x ∈ G2, x ∈ G ∨ w.heap.size ≤ x) (fun _ i _ => m - (intOf i).toNat)
      case atStart => exact ⟨0, G1, by omega, rfl, by simpa [numsL, putL] using hw1, hk1, hG1⟩
      case round =>
        obtain ⟨k, G2, hk, rfl, hw2, hk2, hG2⟩ := hrel
        by_cases hlt : k < m
        · obtain ⟨b, off, rfl⟩ := hs.form (by omega)
          have ga := (hs.keep hk2 hA).word k hlt
          have hk0 : (0 : Int) ≤ (k : Int) := Int.natCast_nonneg _
          have hk1 : (k : Int) < (m : Int) := by omega
          have hcf := hw2.cellF
          have hq := qt_lt r k
          have HT := Lib.hid (numsL_take r k (by rw [HR.out]; exact hlt))
          obtain ⟨q, hqq⟩ : ∃ q, q = qt r k := ⟨_, rfl⟩
          rw [← hqq] at ga hq HT
          clear hqq
          have hlen : (l ++ (shortL m ++ numsL (r.take k))).length ≤ 140737488355000 := by
            have := numsL_len (r.take k)
            simp only [List.length_append, List.length_take, HR.out] at this ⊢
            omega
          go_wp2_with (first | (at_builtin; refine Stopped.out ?_) | (at_make; refine Stopped.out ?_))
          refine (write1 _ hw2 q hq hlen).mono ?_
          rintro e w3 ⟨rfl, hst3⟩
          obtain ⟨G3, hw3, hk3, hG3⟩ := (Stepped.thn hk2 hG2 hst3).out
          have HE : Hid (putL (l ++ (shortL m ++ numsL (r.take k))) 0 (shortL q) = l ++ (shortL m ++ numsL (r.take (k + 1)))) := Lib.hid (by rw [HT.out]; simp [putL])
          rw [HE.out] at hw3
          go_wp2_with (first | (at_builtin; refine Stopped.out ?_) | (at_make; refine Stopped.out ?_))
          first | go_roundw | refine ⟨?rel, ?measure⟩
          case rel => exact ⟨k + 1, G3, by omega, by go_num, hw3, hk3, hG3⟩
          case measure => simp [intOf]; omega
        · obtain rfl : k = m := by omega
          have HE : Hid (putL l 0 (shortL k ++ numsL r) = l ++ (shortL k ++ numsL (r.take k))) := Lib.hid (by rw [List.take_of_length_le (Nat.le_of_eq HR.out)]; rfl)
          go_wp2
          go_end0
          exact ⟨rfl, by rw [HE.out]; exact ⟨G2, hw2, hk2, hG2⟩⟩
    · have HP : Hid (∀ b, putL l f' b = l) := Lib.hid (fun b => by rw [putL, if_neg hf0])
      rw [HP.out] at hw1
      have hz : ((f' : Int) != 0) = true := by simp; omega
      have hst : Stepped 104 w w1 p G l f' := ⟨G1, hw1, hk1, hG1⟩
      have hcf := hw1.cellF
      have hs1 := hs.keep hk1 hA
      clear hf0 hw1 hk1 hG1
      go_wp2_with (first | (at_builtin; refine Stopped.out ?_) | (at_make; refine Stopped.out ?_))
      go_loopw [9, 23] (fun _ i wr => i = .int .i64 (0 : Nat) ∧ w1 = wr) (fun _ i _ => 0)
      case atStart => exact ⟨rfl, rfl⟩
      case round =>
        obtain ⟨rfl, rfl⟩ := hrel
        by_cases hm0 : m = 0
        · subst hm0
          go_wp2
          go_end0
          exact ⟨rfl, by rw [HP.out]; exact hst⟩
        · obtain ⟨b, off, rfl⟩ := hs.form (by omega)
          have ga := hs1.word 0 (by omega)
          rw [Nat.add_zero] at ga
          have hk1 : (0 : Int) < (m : Int) := by omega
          go_wp2
          refine bodyPost_ret (results_none rfl _ _ _) rfl ?_
          exact ⟨rfl, by rw [HP.out]; exact hst⟩
end Go.Proofs.Ytdooabbeolfgfaa
