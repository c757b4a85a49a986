import Derived.Test.YtikjhandhgfohaaStepLaw
set_option linter.unusedVariables false
set_option linter.unusedSimpArgs false
namespace Go.Proofs.Ytikjhandhgfohaa
open Go.RowKit
/-! ### what is read whole has one form -/
theorem rdV_zero {α : Type} {r : Except Nat Nat} {v z g : α} {a a' : Nat} (hr : r ≠ .error 0) (h : rdV r v z a 0 = (g, a', 0)) : ∃ k, r = .ok k ∧ g = v ∧ a' = a + k := by
  cases r with
  | ok k =>
    rw [rdV_ok rfl] at h
    injection h with h1 h2; injection h2 with h2 _
    exact ⟨k, rfl, h1.symm, h2.symm⟩
  | error n =>
    rw [rdV_err rfl] at h
    injection h with h1 h2; injection h2 with _ h2
    subst h2
    exact absurd rfl hr
theorem take_bt_drop (l : List UInt8) (a : Nat) (h : a < l.length) : [UInt8.ofNat (bt l a)] = (l.drop a).take 1 := by
  rw [bt_eq l a h, UInt8.ofNat_toNat, List.drop_eq_getElem_cons h]
  rfl
theorem numR_ne (l : List UInt8) (a : Nat) (k : Int) : numR l a k ≠ .error 0 := by unfold numR; split <;> simp
theorem shR_ne (l : List UInt8) (a : Nat) : shR l a ≠ .error 0 := by unfold shR; split <;> simp
theorem boolR_ne (l : List UInt8) (a : Nat) : boolR l a ≠ .error 0 := by unfold boolR; split <;> simp
theorem cntR_ne (r : Option (Nat × Nat)) (most : Int) : cntR r most ≠ .error 0 := by
  unfold cntR
  split
  · simp
  · split <;> simp
theorem bytR_ne (l : List UInt8) (a : Nat) (most : Int) : bytR l a most ≠ .error 0 := by
  unfold bytR
  split
  · rename_i n h
    intro e
    injection e with e
    subst e
    exact cntR_ne _ _ h
  · split <;> simp
theorem cntL_ne (l : List UInt8) (a : Nat) (most : Int) : cntL l a most ≠ .error 0 := by
  unfold cntL
  split
  · rename_i n h
    intro e
    injection e with e
    subst e
    exact cntR_ne _ _ h
  · split <;> simp
theorem numR_inv {l : List UInt8} {a k : Nat} {n : Int} (ha : a ≤ l.length) (h : numR l a n = .ok k) : n = (k : Int) ∧ a + k ≤ l.length ∧ (atR l a k).length = k := by
  unfold numR at h
  split at h
  · cases h
  · injection h with h
    refine ⟨by omega, by omega, ?_⟩
    simp [atR]; omega
theorem cntR_inv {r : Option (Nat × Nat)} {x k : Nat} {most : Int} (h : cntR r most = .ok (x, k)) : r = some (x, k) ∧ (x : Int) ≤ most := by
  unfold cntR at h
  split at h
  · cases h
  · split at h
    · cases h
    · rename_i h2
      injection h with h
      injection h with h h3
      subst h; subst h3
      exact ⟨rfl, by omega⟩
theorem shR_inv {l : List UInt8} {a k : Nat} (ha : a ≤ l.length) (h : shR l a = .ok k) : shV l a < 18446744073709551616 ∧ a + k ≤ l.length ∧ shortL (shV l a) = atR l a k ∧ 0 < k ∧ rdS (l.drop a) 0 0 = some (shV l a, k) := by
  unfold shR at h
  cases hr : rdS (l.drop a) 0 0 with
  | none => rw [hr] at h; cases h
  | some xk =>
    obtain ⟨x, k2⟩ := xk
    rw [hr] at h
    injection h with h
    subst h
    have e : shV l a = x := by unfold shV; rw [hr]
    obtain ⟨h1, _, h3, h4, h5, h6⟩ := rdS_form hr
    rw [e]
    exact ⟨h5, by simp at h3; omega, h4.symm, h1, rfl⟩
theorem atR_add (l : List UInt8) (a k m : Nat) : atR l a (k + m) = atR l a k ++ atR l (a + k) m := by
  unfold atR
  rw [List.take_add, List.drop_drop]
theorem listR_inv (l : List UInt8) : ∀ (n a : Nat) (acc q : List UInt64) (a' : Nat), a ≤ l.length → listR l n a 0 acc = (q, a', 0) → ∃ ns, q = acc ++ ns ∧ ns.length = n ∧ a ≤ a' ∧ a' ≤ l.length ∧ numsL ns = atR l a (a' - a)
  | 0, a, acc, q, a', ha, h => by
    rw [listR] at h
    injection h with h1 h2; injection h2 with h2 _
    subst h1; subst h2
    exact ⟨[], by simp, rfl, Nat.le_refl _, ha, by simp [numsL, atR]⟩
  | n + 1, a, acc, q, a', ha, h => by
    rw [listR] at h
    cases hr : shR l a with
    | error e =>
      rw [rdV_err hr] at h
      have he : e ≠ 0 := fun e0 => shR_ne l a (by rw [hr, e0])
      rw [if_pos he] at h
      injection h with _ h2; injection h2 with _ h2
      exact absurd h2 he
    | ok k =>
      rw [rdV_ok hr] at h
      rw [if_neg (by simp)] at h
      obtain ⟨h1, h2, h3, h4, _⟩ := shR_inv ha hr
      obtain ⟨ns, e1, e2, e3, e4, e5⟩ := listR_inv l n (a + k) _ q a' h2 h
      refine ⟨UInt64.ofNat (shV l a) :: ns, by rw [e1]; simp, by simp [e2], by omega, e4, ?_⟩
      rw [numsL_cons, e5, show a' - a = k + (a' - (a + k)) by omega, atR_add, ← h3]
      rw [UInt64.toNat_ofNat', Nat.mod_eq_of_lt h1]
/-- what a step read, and what it took -/
structure OneF (l : List UInt8) (a a' : Nat) (kd most : Int) (g : Gt) : Prop where
  le : a ≤ a'
  le' : a' ≤ l.length
  bytes : stepB kd g.x g.b g.ns = atR l a (a' - a)
  x : g.x < 18446744073709551616
  b : kd = 7 → (g.b.length : Int) ≤ most
  l : kd = 8 → (g.ns.length : Int) ≤ most
theorem stepR_one {l : List UInt8} {a a' : Nat} {kd n most : Int} {g : Gt} (ha : a ≤ l.length) (hk : 1 ≤ kd ∧ kd ≤ 8) (h : stepR l a 0 kd n most = (g, a', 0)) : OneF l a a' kd most g := by
  have hc : kd = 1 ∨ kd = 2 ∨ kd = 3 ∨ kd = 4 ∨ kd = 5 ∨ kd = 6 ∨ kd = 7 ∨ kd = 8 := by omega
  rcases hc with rfl | rfl | rfl | rfl | rfl | rfl | rfl | rfl
  · rw [stepR, if_pos rfl] at h
    obtain ⟨k, hr, rfl, rfl⟩ := rdV_zero (numR_ne _ _ _) h
    obtain ⟨h1, h2, h3⟩ := numR_inv ha hr
    obtain rfl : k = 1 := by omega
    have e : atR l a 1 = [UInt8.ofNat (bt l a)] := by
      unfold atR
      rw [← take_bt_drop l a (by omega)]
    refine ⟨by omega, h2, ?_, (by simp only [Gt.ofX]; have := bt_lt l a; omega), (fun e => by cases e), (fun e => by cases e)⟩
    rw [Nat.add_sub_cancel_left, e]
    simp only [Gt.ofX, stepB, if_pos]
    rw [Nat.mod_eq_of_lt (bt_lt l a)]
  · rw [stepR, if_neg (by decide), if_pos rfl] at h
    obtain ⟨k, hr, rfl, rfl⟩ := rdV_zero (numR_ne _ _ _) h
    obtain ⟨h1, h2, h3⟩ := numR_inv ha hr
    obtain rfl : k = 4 := by omega
    have hb := be_lt (atR l a 4)
    rw [h3] at hb
    refine ⟨by omega, h2, ?_, (by simp only [Gt.ofX]; omega), (fun e => by cases e), (fun e => by cases e)⟩
    rw [Nat.add_sub_cancel_left]
    show stepB _ _ _ _ = _
    simp only [Gt.ofX]
    unfold stepB
    rw [if_neg (by decide), if_pos rfl, be_back32 _ h3]
  · rw [stepR, if_neg (by decide), if_neg (by decide), if_pos rfl] at h
    obtain ⟨k, hr, rfl, rfl⟩ := rdV_zero (numR_ne _ _ _) h
    obtain ⟨h1, h2, h3⟩ := numR_inv ha hr
    obtain rfl : k = 8 := by omega
    have hb := be_lt (atR l a 8)
    rw [h3] at hb
    refine ⟨by omega, h2, ?_, (by simp only [Gt.ofX]; omega), (fun e => by cases e), (fun e => by cases e)⟩
    rw [Nat.add_sub_cancel_left]
    show stepB _ _ _ _ = _
    simp only [Gt.ofX]
    unfold stepB
    rw [if_neg (by decide), if_neg (by decide), if_pos rfl, be_back64 _ h3]
  · rw [stepR, if_neg (by decide), if_neg (by decide), if_neg (by decide), if_pos rfl] at h
    obtain ⟨k, hr, rfl, rfl⟩ := rdV_zero (shR_ne _ _) h
    obtain ⟨h1, h2, h3, h4, _⟩ := shR_inv ha hr
    refine ⟨by omega, h2, ?_, h1, (fun e => by cases e), (fun e => by cases e)⟩
    rw [Nat.add_sub_cancel_left]
    show stepB _ _ _ _ = _
    simp only [Gt.ofX]
    unfold stepB
    rw [if_neg (by decide), if_neg (by decide), if_neg (by decide), if_pos rfl, h3]
  · rw [stepR, if_neg (by decide), if_neg (by decide), if_neg (by decide), if_neg (by decide), if_pos rfl] at h
    obtain ⟨k, hr, rfl, rfl⟩ := rdV_zero (boolR_ne _ _) h
    unfold boolR at hr
    split at hr
    · rename_i hb
      injection hr with hr
      subst hr
      have e : atR l a 1 = [UInt8.ofNat (bt l a)] := by
        unfold atR
        rw [← take_bt_drop l a (by omega)]
      refine ⟨by omega, by omega, ?_, (by simp only [Gt.ofX]; omega), (fun e => by cases e), (fun e => by cases e)⟩
      rw [Nat.add_sub_cancel_left, e]
      simp only [Gt.ofX]
      unfold stepB
      rw [if_neg (by decide), if_neg (by decide), if_neg (by decide), if_neg (by decide), if_pos rfl]
      by_cases h1 : bt l a = 1
      · rw [h1]; rfl
      · rw [show bt l a = 0 by omega]; rfl
    · cases hr
  · rw [stepR, if_neg (by decide), if_neg (by decide), if_neg (by decide), if_neg (by decide), if_neg (by decide), if_pos rfl] at h
    obtain ⟨k, hr, rfl, rfl⟩ := rdV_zero (numR_ne _ _ _) h
    obtain ⟨h1, h2, h3⟩ := numR_inv ha hr
    refine ⟨by omega, h2, ?_, (by simp [Gt.ofB]), (fun e => by cases e), (fun e => by cases e)⟩
    rw [Nat.add_sub_cancel_left, show n.toNat = k by omega]
    simp only [Gt.ofB]
    unfold stepB
    rw [if_neg (by decide), if_neg (by decide), if_neg (by decide), if_neg (by decide), if_neg (by decide), if_pos rfl]
  · rw [stepR, if_neg (by decide), if_neg (by decide), if_neg (by decide), if_neg (by decide), if_neg (by decide), if_neg (by decide), if_pos rfl] at h
    obtain ⟨k, hr, rfl, rfl⟩ := rdV_zero (bytR_ne _ _ _) h
    unfold bytR at hr
    cases hc : cntR (rdS (l.drop a) 0 0) most with
    | error e => rw [hc] at hr; cases hr
    | ok xk =>
      obtain ⟨x, k2⟩ := xk
      rw [hc] at hr
      simp only at hr
      split at hr
      · rename_i hle
        injection hr with hr
        subst hr
        obtain ⟨hs, hx⟩ := cntR_inv hc
        obtain ⟨g1, _, g3, g4, g5, g6⟩ := rdS_form hs
        have e : bytV l a most = atR l (a + k2) x := by unfold bytV; rw [hc]; rfl
        have e2 : (atR l (a + k2) x).length = x := by simp [atR]; omega
        refine ⟨by omega, by omega, ?_, by simp [Gt.ofB], fun _ => ?_, (fun e => by cases e)⟩
        · rw [Nat.add_sub_cancel_left]
          simp only [Gt.ofB]
          unfold stepB
          rw [if_neg (by decide), if_neg (by decide), if_neg (by decide), if_neg (by decide), if_neg (by decide), if_neg (by decide), if_pos rfl, e, e2, atR_add, ← g4]
          rfl
        · simp only [Gt.ofB]
          rw [e, e2]; exact hx
      · cases hr
  · rw [stepR, if_neg (by decide), if_neg (by decide), if_neg (by decide), if_neg (by decide), if_neg (by decide), if_neg (by decide), if_neg (by decide), if_pos rfl] at h
    simp only at h
    cases hr : cntL l a most with
    | error e =>
      rw [rdV_err hr] at h
      simp only [listR] at h
      injection h with _ h2; injection h2 with _ h2
      exact absurd hr (by rw [h2]; exact cntL_ne _ _ _)
    | ok k =>
      rw [rdV_ok hr] at h
      simp only at h
      unfold cntL at hr
      cases hc : cntR (rdS (l.drop a) 0 0) most with
      | error e => rw [hc] at hr; cases hr
      | ok xk =>
        obtain ⟨x, k2⟩ := xk
        rw [hc] at hr
        simp only at hr
        split at hr
        · rename_i hle
          injection hr with hr
          subst hr
          obtain ⟨hs, hx⟩ := cntR_inv hc
          obtain ⟨g1, _, g3, g4, g5, g6⟩ := rdS_form hs
          have e : shV l a = x := by unfold shV; rw [hs]
          rw [e] at h
          obtain ⟨⟨q, qa, qf⟩, hq⟩ : ∃ q, q = listR l x (a + k2) 0 [] := ⟨_, rfl⟩
          rw [← hq] at h
          injection h with h1 h2; injection h2 with h2 h3
          simp only at h1 h2 h3
          subst h1; subst h2; subst h3
          obtain ⟨ns, q1, q2, q3, q4, q5⟩ := listR_inv l x (a + k2) [] q qa (by omega) hq.symm
          rw [List.nil_append] at q1
          subst q1
          refine ⟨by omega, q4, ?_, (by simp), (fun e => by cases e), fun _ => by simp only; omega⟩
          simp only
          unfold stepB
          rw [if_neg (by decide), if_neg (by decide), if_neg (by decide), if_neg (by decide), if_neg (by decide), if_neg (by decide), if_neg (by decide), if_pos rfl, show qa - a = k2 + (qa - (a + k2)) by omega, atR_add, ← q5, q2, ← g4]
          rfl
        · cases hr
end Go.Proofs.Ytikjhandhgfohaa
