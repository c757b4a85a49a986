import Derived.Lib.ItoaLen
import Derived.Lib.Join
import Derived.Test.YtcpbdgedbjbgfaaDoorPre
set_option linter.unusedVariables false
set_option linter.unusedSimpArgs false
namespace Go.Proofs.YtcpbdgedbjbgfaaDoor
open Go.RowKit
/-! ### a reply's text, plain -/
def okT : List UInt8 := [111, 107]
def errT : List UInt8 := [101, 114, 114, 111, 114]
/-- the words of a reply -/
def wordsT (e : Int) (ns : List Int) : List (List UInt8) := (if e = 0 then [okT] else [errT, Lib.itoa e]) ++ ns.map Lib.itoa
def showT (e : Int) (ns : List Int) : List UInt8 := Lib.join (wordsT e ns) [32]
/-- no byte is a blank -/
def NoSp (l : List UInt8) : Prop := ∀ b ∈ l, b ≠ 32
theorem ofNat_add_inj {a b : Nat} (ha : a < 10) (hb : b < 10) (h : UInt8.ofNat (48 + a) = UInt8.ofNat (48 + b)) : a = b := by
  have := congrArg UInt8.toNat h
  simp at this
  omega
theorem decDigits_inj : ∀ (u v : Nat), Lib.decDigits u = Lib.decDigits v → u = v := by
  intro u
  induction u using Nat.strongRecOn with
  | _ u ih =>
    intro v h
    rw [Lib.decDigits] at h
    conv at h => rhs; rw [Lib.decDigits]
    by_cases hu : u < 10
    · by_cases hv : v < 10
      · rw [dif_pos hu, dif_pos hv] at h
        exact ofNat_add_inj hu hv (by simpa using h)
      · rw [dif_pos hu, dif_neg hv] at h
        have := congrArg List.length h
        rw [List.length_append, Lib.decDigits_length] at this
        have h1 : 1 ≤ Lib.nDigits (v / 10) := by rw [Lib.nDigits]; split <;> omega
        simp at this
        omega
    · by_cases hv : v < 10
      · rw [dif_neg hu, dif_pos hv] at h
        have := congrArg List.length h
        rw [List.length_append, Lib.decDigits_length] at this
        have h1 : 1 ≤ Lib.nDigits (u / 10) := by rw [Lib.nDigits]; split <;> omega
        simp at this
        omega
      · rw [dif_neg hu, dif_neg hv] at h
        obtain ⟨h1, h2⟩ := List.append_inj' h rfl
        have e1 := ih (u / 10) (by omega) _ h1
        have e2 := ofNat_add_inj (Nat.mod_lt u (by omega)) (Nat.mod_lt v (by omega)) (by simpa using h2)
        omega
theorem decDigits_digit : ∀ (u : Nat), ∀ b ∈ Lib.decDigits u, 48 ≤ b.toNat ∧ b.toNat ≤ 57 := by
  intro u
  induction u using Nat.strongRecOn with
  | _ u ih =>
    intro b hb
    rw [Lib.decDigits] at hb
    split at hb
    · simp at hb; subst hb; simp; omega
    · rcases List.mem_append.1 hb with hb | hb
      · exact ih (u / 10) (by omega) b hb
      · simp at hb; subst hb; simp; omega
theorem decDigits_ne (u : Nat) : Lib.decDigits u ≠ [] := by
  rw [Lib.decDigits]; split <;> simp
theorem itoa_inj {a b : Int} (h : Lib.itoa a = Lib.itoa b) : a = b := by
  unfold Lib.itoa at h
  split at h <;> split at h
  · have := decDigits_inj _ _ (List.cons.inj h).2; omega
  · have := decDigits_digit b.toNat 45 (by rw [← h]; simp)
    simp at this
  · have := decDigits_digit a.toNat 45 (by rw [h]; simp)
    simp at this
  · have := decDigits_inj _ _ h; omega
theorem itoa_nosp (a : Int) : NoSp (Lib.itoa a) := by
  intro b hb
  unfold Lib.itoa at hb
  split at hb
  · rcases List.mem_cons.1 hb with rfl | hb
    · decide
    · have := decDigits_digit _ b hb; rintro rfl; simp at this
  · have := decDigits_digit _ b hb; rintro rfl; simp at this
theorem itoa_hd (a : Int) : ∀ b r, Lib.itoa a = b :: r → b.toNat ≤ 57 := by
  intro b r h
  unfold Lib.itoa at h
  split at h
  · obtain ⟨rfl, -⟩ := List.cons.inj h; decide
  · exact (decDigits_digit a.toNat b (by rw [h]; simp)).2
/-- words without blanks are read out of their joined text -/
theorem split_sp : ∀ {x y : List UInt8} {p q : List UInt8}, NoSp x → NoSp y → (p = [] ∨ ∃ r, p = 32 :: r) → (q = [] ∨ ∃ r, q = 32 :: r) → x ++ p = y ++ q → x = y ∧ p = q
  | [], [], _, _, _, _, _, _, h => ⟨rfl, h⟩
  | [], c :: y, p, q, _, hy, hp, _, h => by
    rcases hp with rfl | ⟨r, rfl⟩
    · simp at h
    · have := (List.cons.inj h).1
      exact absurd this.symm (hy c (by simp))
  | c :: x, [], p, q, hx, _, _, hq, h => by
    rcases hq with rfl | ⟨r, rfl⟩
    · simp at h
    · have := (List.cons.inj h).1
      exact absurd this (hx c (by simp))
  | c :: x, d :: y, p, q, hx, hy, hp, hq, h => by
    obtain ⟨h1, h2⟩ := List.cons.inj h
    obtain ⟨h3, h4⟩ := split_sp (fun b hb => hx b (by simp [hb])) (fun b hb => hy b (by simp [hb])) hp hq h2
    exact ⟨by rw [h1, h3], h4⟩
theorem joinTail_hd (r : List (List UInt8)) : Lib.joinTail [32] r = [] ∨ ∃ t, Lib.joinTail [32] r = 32 :: t := by
  cases r with
  | nil => exact .inl rfl
  | cons x r => exact .inr ⟨_, rfl⟩
theorem joinTail_cons (x : List UInt8) (r : List (List UInt8)) : Lib.joinTail [32] (x :: r) = 32 :: (x ++ Lib.joinTail [32] r) := rfl
theorem joinTail_inj : ∀ {r s : List (List UInt8)}, (∀ x ∈ r, NoSp x) → (∀ x ∈ s, NoSp x) → Lib.joinTail [32] r = Lib.joinTail [32] s → r = s
  | [], [], _, _, _ => rfl
  | [], y :: s, _, _, h => by rw [joinTail_cons] at h; simp [Lib.joinTail] at h
  | x :: r, [], _, _, h => by rw [joinTail_cons] at h; simp [Lib.joinTail] at h
  | x :: r, y :: s, hr, hs, h => by
    rw [joinTail_cons, joinTail_cons] at h
    obtain ⟨h1, h2⟩ := split_sp (hr x (by simp)) (hs y (by simp)) (joinTail_hd r) (joinTail_hd s) (List.cons.inj h).2
    rw [h1, joinTail_inj (fun z hz => hr z (by simp [hz])) (fun z hz => hs z (by simp [hz])) h2]
theorem words_ne (e : Int) (ns : List Int) : ∃ x r, wordsT e ns = x :: r := by
  unfold wordsT
  split <;> exact ⟨_, _, rfl⟩
theorem words_nosp (e : Int) (ns : List Int) : ∀ x ∈ wordsT e ns, NoSp x := by
  intro x hx
  unfold wordsT at hx
  rcases List.mem_append.1 hx with hx | hx
  · split at hx
    · simp at hx; subst hx; intro b hb; rintro rfl; revert hb; decide
    · simp at hx
      rcases hx with rfl | rfl
      · intro b hb; rintro rfl; revert hb; decide
      · exact itoa_nosp _
  · obtain ⟨n, _, rfl⟩ := List.mem_map.1 hx
    exact itoa_nosp _
theorem map_inj {f : Int → List UInt8} (hf : ∀ a b, f a = f b → a = b) : ∀ {r s : List Int}, r.map f = s.map f → r = s
  | [], [], _ => rfl
  | [], _ :: _, h => by simp at h
  | _ :: _, [], h => by simp at h
  | a :: r, b :: s, h => by
    simp only [List.map_cons, List.cons.injEq] at h
    rw [hf _ _ h.1, map_inj hf h.2]
theorem showT_inj {e g : Int} {ns ms : List Int} (h : showT e ns = showT g ms) : e = g ∧ ns = ms := by
  have hw : wordsT e ns = wordsT g ms := by
    obtain ⟨x, r, hx⟩ := words_ne e ns
    obtain ⟨y, s, hy⟩ := words_ne g ms
    have h1 := words_nosp e ns
    have h2 := words_nosp g ms
    unfold showT at h
    rw [hx] at h h1; rw [hy] at h h2
    rw [hx, hy]
    rw [Lib.join_cons, Lib.join_cons] at h
    obtain ⟨h3, h4⟩ := split_sp (h1 x (by simp)) (h2 y (by simp)) (joinTail_hd r) (joinTail_hd s) h
    rw [h3, joinTail_inj (fun z hz => h1 z (by simp [hz])) (fun z hz => h2 z (by simp [hz])) h4]
  unfold wordsT at hw
  by_cases he : e = 0
  · by_cases hg : g = 0
    · rw [if_pos he, if_pos hg] at hw
      exact ⟨by rw [he, hg], map_inj (fun _ _ => itoa_inj) (List.append_cancel_left hw)⟩
    · rw [if_pos he, if_neg hg] at hw
      have := (List.cons.inj hw).1
      simp [okT, errT] at this
  · by_cases hg : g = 0
    · rw [if_neg he, if_pos hg] at hw
      have := (List.cons.inj hw).1
      simp [okT, errT] at this
    · rw [if_neg he, if_neg hg] at hw
      simp only [List.cons_append, List.nil_append, List.cons.injEq, true_and] at hw
      exact ⟨itoa_inj hw.1, map_inj (fun _ _ => itoa_inj) hw.2⟩
theorem lens_itoa (ns : List Int) (h : ∀ n ∈ ns, -9223372036854775808 ≤ n ∧ n ≤ 9223372036854775807) : Lib.lens (ns.map Lib.itoa) ≤ 21 * ns.length := by
  induction ns with
  | nil => simp [Lib.lens]
  | cons n r ih =>
    have h1 := ih (fun k hk => h k (by simp [hk]))
    have h2 := Lib.itoa_length_le n (h n (by simp)).1 (h n (by simp)).2
    simp only [List.map_cons, List.length_cons] at *
    simp only [Lib.lens, List.map_cons, List.foldr_cons, List.sum_cons] at *
    omega
end Go.Proofs.YtcpbdgedbjbgfaaDoor
