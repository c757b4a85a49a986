import Derived.Test.YtikjhandhgfohaaStepR
import Derived.Test.YtikjhandhgfohaaShort
import Derived.Test.YtikjhandhgfohaaWrite9
set_option linter.unusedVariables false
set_option linter.unusedSimpArgs false
namespace Go.Proofs.Ytikjhandhgfohaa
open Go.RowKit
/-! ### what is written is read again -/
theorem le_inj9 : ∀ (l m : List UInt8), l.length = m.length → le l = le m → l = m
  | [], [], _, _ => rfl
  | [], _ :: _, h, _ => by simp at h
  | _ :: _, [], h, _ => by simp at h
  | a :: l, b :: m, h, e => by
    have e1 : ∀ (c : UInt8) (l : List UInt8), le (c :: l) = c.toNat + 256 * le l := fun _ _ => rfl
    rw [e1, e1] at e
    have ha := u8_lt a; have hb := u8_lt b
    have h1 : a.toNat = b.toNat := by omega
    have h2 : le l = le m := by omega
    rw [UInt8.toNat_inj.1 h1, le_inj9 l m (by simpa using h) h2]
theorem be_inj9 (l m : List UInt8) (h : l.length = m.length) (e : be l = be m) : l = m := by
  have := le_inj9 l.reverse m.reverse (by simpa using h) (by rw [le_reverse, le_reverse, e])
  simpa using this
theorem stBE32_be (x : Nat) (h : x < 4294967296) : be (stBE32 x 4) = x := by
  simp [stBE32, List.range, List.range.loop, be]; omega
theorem stBE64_be (x : Nat) (h : x < 18446744073709551616) : be (stBE64 x 8) = x := by
  rw [st64_32 x h]
  have e : ∀ (m l : List UInt8), be (l ++ m) = be l * 256 ^ m.length + be m := by
    intro m
    induction m with
    | nil => intro l; simp [be]
    | cons c m ih =>
      intro l
      have h1 := ih (l ++ [c])
      have h2 := ih [c]
      rw [show l ++ c :: m = (l ++ [c]) ++ m by simp, h1, show c :: m = [c] ++ m from rfl, h2, be_snoc, List.length_append, Nat.pow_add]
      simp [be, Nat.add_mul, Nat.mul_assoc]
      omega
  rw [e, stBE32_be _ (by omega), stBE32_be _ (by omega), stBE32_len]
  omega
theorem be_back32 (m : List UInt8) (h : m.length = 4) : stBE32 (be m % 4294967296) 4 = m := by
  have hb := be_lt m
  rw [h] at hb
  refine be_inj9 _ _ (by rw [stBE32_len, h]) ?_
  rw [stBE32_be _ (Nat.mod_lt _ (by decide)), Nat.mod_eq_of_lt hb]
theorem be_back64 (m : List UInt8) (h : m.length = 8) : stBE64 (be m) 8 = m := by
  have hb := be_lt m
  rw [h] at hb
  exact be_inj9 _ _ (by rw [stBE64_len, h]) (stBE64_be _ hb)
theorem atR_app (p b r : List UInt8) : atR (p ++ (b ++ r)) p.length b.length = b := by simp [atR]
theorem numR_app (p b r : List UInt8) {k : Int} (hk : k = b.length) : numR (p ++ (b ++ r)) p.length k = .ok b.length := by
  subst hk
  unfold numR
  rw [if_neg (by simp; omega)]
  simp
theorem shR_app (p r : List UInt8) {x : Nat} (hx : x < 18446744073709551616) : shR (p ++ (shortL x ++ r)) p.length = .ok (shortL x).length ∧ shV (p ++ (shortL x ++ r)) p.length = x := by
  have e1 : (p ++ (shortL x ++ r)).drop p.length = shortL x ++ r := by simp
  unfold shR shV
  rw [e1, rdS_short x hx]
  exact ⟨rfl, rfl⟩
theorem rdV_ok {α : Type} {r : Except Nat Nat} {v z : α} {a k : Nat} (h : r = .ok k) : rdV r v z a 0 = (v, a + k, 0) := by subst h; rfl
theorem rdV_err {α : Type} {r : Except Nat Nat} {v z : α} {a n : Nat} (h : r = .error n) : rdV r v z a 0 = (z, a, n) := by subst h; rfl
theorem rdV_stuck {α : Type} {r : Except Nat Nat} {v z : α} {a f : Nat} (h : f ≠ 0) : rdV r v z a f = (z, a, f) := by unfold rdV effR; rw [if_pos h]
theorem numsL_cons (c : UInt64) (ns : List UInt64) : numsL (c :: ns) = shortL c.toNat ++ numsL ns := rfl
theorem shortL_pos (x : Nat) : 0 < (shortL x).length := by
  by_cases h : x < 128
  · rw [shortL_one h]; simp
  · rw [shortL_more h]; simp
theorem numsL_ge (ns : List UInt64) : ns.length ≤ (numsL ns).length := by
  induction ns with
  | nil => simp
  | cons c ns ih => rw [numsL_cons, List.length_append, List.length_cons]; have := shortL_pos c.toNat; omega
theorem listR_back : ∀ (ns : List UInt64) (p r : List UInt8) (acc : List UInt64), listR (p ++ (numsL ns ++ r)) ns.length p.length 0 acc = (acc ++ ns, p.length + (numsL ns).length, 0)
  | [], p, r, acc => by simp [listR, numsL]
  | c :: ns, p, r, acc => by
    have hs := shR_app p (numsL ns ++ r) c.toNat_lt
    have e : p ++ (numsL (c :: ns) ++ r) = p ++ (shortL c.toNat ++ (numsL ns ++ r)) := by rw [numsL_cons]; simp
    have e2 : p ++ (shortL c.toNat ++ (numsL ns ++ r)) = (p ++ shortL c.toNat) ++ (numsL ns ++ r) := by simp
    have ih := listR_back ns (p ++ shortL c.toNat) r (acc ++ [c])
    rw [e, List.length_cons, listR]
    simp only [rdV_ok hs.1, hs.2]
    rw [if_neg (by simp)]
    rw [e2, show UInt64.ofNat c.toNat = c by simp, show p.length + (shortL c.toNat).length = (p ++ shortL c.toNat).length by simp, ih]
    simp [numsL_cons, Nat.add_assoc]
theorem cntR_ok {r : Option (Nat × Nat)} {x k : Nat} {most : Int} (h : r = some (x, k)) (hm : (x : Int) ≤ most) : cntR r most = .ok (x, k) := by
  subst h
  unfold cntR
  simp only
  rw [if_neg (by omega)]
/-- does it fit? -/
structure Fits (s : St9) : Prop where
  kd : 1 ≤ s.kd ∧ s.kd ≤ 8
  x : s.x < 18446744073709551616
  n : s.kd = 6 → s.n = s.b.length ∧ 0 < s.b.length
  b : s.kd = 7 → (s.b.length : Int) ≤ s.most
  bl : s.b.length < 18446744073709551616
  l : s.kd = 8 → (s.ns.length : Int) ≤ s.most
  ll : s.ns.length < 18446744073709551616
/-- what it must be read as -/
def meantG (s : St9) : Gt :=
  if s.kd = 1 then .ofX (s.x % 256) else if s.kd = 2 then .ofX (s.x % 4294967296) else if s.kd = 3 ∨ s.kd = 4 then .ofX s.x else if s.kd = 5 then .ofX (s.x % 2)
  else if s.kd = 6 ∨ s.kd = 7 then .ofB s.b else if s.kd = 8 then ⟨0, [], s.ns, 0⟩ else .no
def St9.bytes (s : St9) : List UInt8 := stepB s.kd s.x s.b s.ns
def St9.rd (l : List UInt8) (a f : Nat) (s : St9) : Gt × Nat × Nat := stepR l a f s.kd s.n s.most
theorem Fits.cases {s : St9} (h : Fits s) : s.kd = 1 ∨ s.kd = 2 ∨ s.kd = 3 ∨ s.kd = 4 ∨ s.kd = 5 ∨ s.kd = 6 ∨ s.kd = 7 ∨ s.kd = 8 := by have := h.kd; omega
theorem bt_app (p b r : List UInt8) (h : 0 < b.length) : bt (p ++ (b ++ r)) p.length = bt b 0 := by
  rw [bt_append_right _ _ _ (Nat.le_refl _), Nat.sub_self, bt_append_left _ _ _ h]
theorem Fits.back {s : St9} (h : Fits s) (p r : List UInt8) : s.rd (p ++ (s.bytes ++ r)) p.length 0 = (meantG s, p.length + s.bytes.length, 0) := by
  obtain ⟨kd, x, b, ns, n, most⟩ := s
  have hx := h.x
  simp only at hx
  rcases h.cases with rfl | rfl | rfl | rfl | rfl | rfl | rfl | rfl
  · have e := numR_app p [UInt8.ofNat (x % 256)] r (k := 1) rfl
    have e2 := bt_app p [UInt8.ofNat (x % 256)] r (by simp)
    show stepR (p ++ ([UInt8.ofNat (x % 256)] ++ r)) p.length 0 1 n most = _
    rw [stepR, if_pos rfl, rdV_ok e, e2]
    simp [meantG, St9.bytes, stepB, bt]
  · have e := numR_app p (stBE32 (x % 4294967296) 4) r (k := 4) (by rw [stBE32_len]; rfl)
    have e2 := atR_app p (stBE32 (x % 4294967296) 4) r
    rw [stBE32_len] at e e2
    show stepR (p ++ (stBE32 (x % 4294967296) 4 ++ r)) p.length 0 2 n most = _
    rw [stepR, if_neg (by decide), if_pos rfl, rdV_ok e, e2, stBE32_be _ (Nat.mod_lt _ (by decide))]
    simp [meantG, St9.bytes, stepB, stBE32_len]
  · have e := numR_app p (stBE64 x 8) r (k := 8) (by rw [stBE64_len]; rfl)
    have e2 := atR_app p (stBE64 x 8) r
    rw [stBE64_len] at e e2
    show stepR (p ++ (stBE64 x 8 ++ r)) p.length 0 3 n most = _
    rw [stepR, if_neg (by decide), if_neg (by decide), if_pos rfl, rdV_ok e, e2, stBE64_be _ hx]
    simp [meantG, St9.bytes, stepB, stBE64_len]
  · have e := shR_app p r hx
    show stepR (p ++ (shortL x ++ r)) p.length 0 4 n most = _
    rw [stepR, if_neg (by decide), if_neg (by decide), if_neg (by decide), if_pos rfl, rdV_ok e.1, e.2]
    simp [meantG, St9.bytes, stepB]
  · have e2 := bt_app p [if x % 2 = 1 then (1 : UInt8) else 0] r (by simp)
    have e3 : bt [if x % 2 = 1 then (1 : UInt8) else 0] 0 = x % 2 := by
      by_cases h1 : x % 2 = 1
      · rw [if_pos h1, h1]; rfl
      · rw [if_neg h1, show x % 2 = 0 by omega]; rfl
    have e : boolR (p ++ ([if x % 2 = 1 then (1 : UInt8) else 0] ++ r)) p.length = .ok 1 := by
      unfold boolR
      rw [e2, e3, if_pos ⟨by simp, by omega⟩]
    show stepR (p ++ ([if x % 2 = 1 then (1 : UInt8) else 0] ++ r)) p.length 0 5 n most = _
    rw [stepR, if_neg (by decide), if_neg (by decide), if_neg (by decide), if_neg (by decide), if_pos rfl, rdV_ok e, e2, e3]
    simp [meantG, St9.bytes, stepB]
  · have hn : n = (b.length : Int) := (h.n rfl).1
    have e := numR_app p b r hn
    have e2 := atR_app p b r
    show stepR (p ++ (b ++ r)) p.length 0 6 n most = _
    rw [stepR, if_neg (by decide), if_neg (by decide), if_neg (by decide), if_neg (by decide), if_neg (by decide), if_pos rfl, rdV_ok e, show n.toNat = b.length by omega, e2]
    simp [meantG, St9.bytes, stepB]
  · have e := bytR_back p b r most h.bl (h.b rfl)
    show stepR (p ++ (shortL b.length ++ b ++ r)) p.length 0 7 n most = _
    rw [stepR, if_neg (by decide), if_neg (by decide), if_neg (by decide), if_neg (by decide), if_neg (by decide), if_neg (by decide), if_pos rfl, rdV_ok e.1, e.2]
    simp [meantG, St9.bytes, stepB]
  · have e := shR_app p (numsL ns ++ r) (x := ns.length) h.ll
    have e1 : (p ++ (shortL ns.length ++ (numsL ns ++ r))).drop p.length = shortL ns.length ++ (numsL ns ++ r) := by simp
    have e2 : cntL (p ++ (shortL ns.length ++ (numsL ns ++ r))) p.length most = .ok (shortL ns.length).length := by
      unfold cntL
      rw [e1, cntR_ok (rdS_short _ h.ll _) (h.l rfl)]
      simp only
      rw [if_pos (by have := numsL_ge ns; simp; omega)]
    have e3 := listR_back ns (p ++ shortL ns.length) r []
    rw [List.append_assoc] at e3
    show stepR (p ++ ((shortL ns.length ++ numsL ns) ++ r)) p.length 0 8 n most = _
    rw [List.append_assoc, stepR, if_neg (by decide), if_neg (by decide), if_neg (by decide), if_neg (by decide), if_neg (by decide), if_neg (by decide), if_neg (by decide), if_pos rfl]
    simp only [rdV_ok e2, e.2]
    rw [show p.length + (shortL ns.length).length = (p ++ shortL ns.length).length by simp, e3]
    simp [meantG, St9.bytes, stepB, Nat.add_assoc]
/-! ### a fault stays -/
theorem St9.stuck (s : St9) (l : List UInt8) (a : Nat) {f : Nat} (hf : f ≠ 0) (h9 : s.kd ≠ 9) : s.rd l a f = (.no, a, f) := by
  obtain ⟨kd, x, b, ns, n, most⟩ := s
  unfold St9.rd stepR
  simp only [rdV_stuck hf]
  repeat' split
  all_goals first | rfl | contradiction
/-! ### cut off -/
theorem rdS_cut {x m : Nat} (hx : x < 18446744073709551616) (hm : m < (shortL x).length) : rdS ((shortL x).take m) 0 0 = none := by
  cases h : rdS ((shortL x).take m) 0 0 with
  | none => rfl
  | some yk =>
    obtain ⟨y, k⟩ := yk
    obtain ⟨_, _, h3, h4, h5, h6⟩ := rdS_form h
    have e1 : (shortL x).take m = shortL y ++ ((shortL x).take m).drop k := by rw [← h4, List.take_append_drop]
    have e2 : shortL x = shortL y ++ (((shortL x).take m).drop k ++ (shortL x).drop m) := by rw [← List.append_assoc, ← e1, List.take_append_drop]
    have h7 := rdS_short x hx []
    rw [List.append_nil] at h7
    have h8 := rdS_short y h5 (((shortL x).take m).drop k ++ (shortL x).drop m)
    rw [← e2, h7] at h8
    injection h8 with h8; injection h8 with _ h8
    simp at h3
    omega
theorem shR_cut (p : List UInt8) {x m : Nat} (hx : x < 18446744073709551616) (hm : m < (shortL x).length) : shR (p ++ (shortL x).take m) p.length = .error 90 := by
  unfold shR
  rw [show (p ++ (shortL x).take m).drop p.length = (shortL x).take m by simp, rdS_cut hx hm]
theorem listR_cut : ∀ (ns : List UInt64) (p : List UInt8) (acc : List UInt64) (m : Nat), m < (numsL ns).length → (listR (p ++ (numsL ns).take m) ns.length p.length 0 acc).2.2 = 90
  | [], p, acc, m, h => by simp [numsL] at h
  | c :: ns, p, acc, m, h => by
    rw [numsL_cons, List.length_append] at h
    by_cases hm : m < (shortL c.toNat).length
    · have e : p ++ (numsL (c :: ns)).take m = p ++ (shortL c.toNat).take m := by rw [numsL_cons, List.take_append_of_le_length (by omega)]
      rw [e, List.length_cons, listR]
      simp only [rdV_err (shR_cut p c.toNat_lt hm)]
      rw [if_pos (by simp)]
    · have e : p ++ (numsL (c :: ns)).take m = p ++ (shortL c.toNat ++ (numsL ns).take (m - (shortL c.toNat).length)) := by
        rw [numsL_cons, List.take_append, List.take_of_length_le (by omega)]
      have hs := shR_app p ((numsL ns).take (m - (shortL c.toNat).length)) c.toNat_lt
      rw [e, List.length_cons, listR]
      simp only [rdV_ok hs.1, hs.2]
      rw [if_neg (by simp)]
      have ih := listR_cut ns (p ++ shortL c.toNat) (acc ++ [UInt64.ofNat c.toNat]) (m - (shortL c.toNat).length) (by omega)
      rw [List.append_assoc] at ih
      rw [show p.length + (shortL c.toNat).length = (p ++ shortL c.toNat).length by simp]
      exact ih
theorem numR_cut (p b : List UInt8) (m : Nat) {k : Int} (hk : k = b.length) (hm : m < b.length) : numR (p ++ b.take m) p.length k = .error 90 := by
  subst hk
  unfold numR
  rw [if_pos (.inr (by simp; omega))]
theorem Fits.cut {s : St9} (h : Fits s) (p : List UInt8) (m : Nat) (hm : m < s.bytes.length) : (s.rd (p ++ s.bytes.take m) p.length 0).2.2 = 90 := by
  obtain ⟨kd, x, b, ns, n, most⟩ := s
  have hx := h.x
  simp only at hx
  rcases h.cases with rfl | rfl | rfl | rfl | rfl | rfl | rfl | rfl
  · have e := numR_cut p [UInt8.ofNat (x % 256)] m (k := 1) rfl hm
    show (stepR (p ++ ([UInt8.ofNat (x % 256)].take m)) p.length 0 1 n most).2.2 = _
    rw [stepR, if_pos rfl, rdV_err e]
  · have e := numR_cut p (stBE32 (x % 4294967296) 4) m (k := 4) (by rw [stBE32_len]; rfl) hm
    show (stepR (p ++ ((stBE32 (x % 4294967296) 4).take m)) p.length 0 2 n most).2.2 = _
    rw [stepR, if_neg (by decide), if_pos rfl, rdV_err e]
  · have e := numR_cut p (stBE64 x 8) m (k := 8) (by rw [stBE64_len]; rfl) hm
    show (stepR (p ++ ((stBE64 x 8).take m)) p.length 0 3 n most).2.2 = _
    rw [stepR, if_neg (by decide), if_neg (by decide), if_pos rfl, rdV_err e]
  · have e := shR_cut p hx hm
    show (stepR (p ++ ((shortL x).take m)) p.length 0 4 n most).2.2 = _
    rw [stepR, if_neg (by decide), if_neg (by decide), if_neg (by decide), if_pos rfl, rdV_err e]
  · have hm0 : m = 0 := by
      have : m < 1 := hm
      omega
    subst hm0
    have e : boolR (p ++ ([if x % 2 = 1 then (1 : UInt8) else 0].take 0)) p.length = .error 90 := by
      unfold boolR
      rw [if_neg (by simp)]
    show (stepR (p ++ ([if x % 2 = 1 then (1 : UInt8) else 0].take 0)) p.length 0 5 n most).2.2 = _
    rw [stepR, if_neg (by decide), if_neg (by decide), if_neg (by decide), if_neg (by decide), if_pos rfl, rdV_err e]
  · have hn : n = (b.length : Int) := (h.n rfl).1
    have e := numR_cut p b m hn hm
    show (stepR (p ++ (b.take m)) p.length 0 6 n most).2.2 = _
    rw [stepR, if_neg (by decide), if_neg (by decide), if_neg (by decide), if_neg (by decide), if_neg (by decide), if_pos rfl, rdV_err e]
  · have hmb : m < (shortL b.length).length + b.length := by simpa [St9.bytes, stepB] using hm
    have e : bytR (p ++ ((shortL b.length ++ b).take m)) p.length most = .error 90 := by
      unfold bytR
      rw [show (p ++ (shortL b.length ++ b).take m).drop p.length = (shortL b.length ++ b).take m by simp]
      by_cases h1 : m < (shortL b.length).length
      · rw [List.take_append_of_le_length (by omega), rdS_cut h.bl h1]
        rfl
      · rw [List.take_append, List.take_of_length_le (by omega), cntR_ok (rdS_short _ h.bl _) (h.b rfl)]
        simp only
        rw [if_neg (by simp; omega)]
    show (stepR (p ++ ((shortL b.length ++ b).take m)) p.length 0 7 n most).2.2 = _
    rw [stepR, if_neg (by decide), if_neg (by decide), if_neg (by decide), if_neg (by decide), if_neg (by decide), if_neg (by decide), if_pos rfl, rdV_err e]
  · have hmb : m < (shortL ns.length).length + (numsL ns).length := by simpa [St9.bytes, stepB] using hm
    have hL : (p ++ (shortL ns.length ++ numsL ns).take m).drop p.length = (shortL ns.length ++ numsL ns).take m := by simp
    show (stepR (p ++ ((shortL ns.length ++ numsL ns).take m)) p.length 0 8 n most).2.2 = _
    rw [stepR, if_neg (by decide), if_neg (by decide), if_neg (by decide), if_neg (by decide), if_neg (by decide), if_neg (by decide), if_neg (by decide), if_pos rfl]
    by_cases h1 : m < (shortL ns.length).length
    · have e : cntL (p ++ ((shortL ns.length ++ numsL ns).take m)) p.length most = .error 90 := by
        unfold cntL
        rw [hL, List.take_append_of_le_length (by omega), rdS_cut h.ll h1]
        rfl
      simp only [rdV_err e, listR]
    · have hT : (shortL ns.length ++ numsL ns).take m = shortL ns.length ++ (numsL ns).take (m - (shortL ns.length).length) := by rw [List.take_append, List.take_of_length_le (by omega)]
      by_cases h2 : ns.length ≤ m - (shortL ns.length).length
      · have e : cntL (p ++ ((shortL ns.length ++ numsL ns).take m)) p.length most = .ok (shortL ns.length).length := by
          unfold cntL
          rw [hL, hT, cntR_ok (rdS_short _ h.ll _) (h.l rfl)]
          simp only
          rw [if_pos (by simp; omega)]
        have hs := shR_app p ((numsL ns).take (m - (shortL ns.length).length)) h.ll
        rw [← hT] at hs
        simp only [rdV_ok e, hs.2]
        have := listR_cut ns (p ++ shortL ns.length) [] (m - (shortL ns.length).length) (by omega)
        rw [List.append_assoc, ← hT] at this
        rw [show p.length + (shortL ns.length).length = (p ++ shortL ns.length).length by simp]
        exact this
      · have e : cntL (p ++ ((shortL ns.length ++ numsL ns).take m)) p.length most = .error 90 := by
          unfold cntL
          rw [hL, hT, cntR_ok (rdS_short _ h.ll _) (h.l rfl)]
          simp only
          rw [if_neg (by simp; omega)]
        simp only [rdV_err e, listR]
end Go.Proofs.Ytikjhandhgfohaa
