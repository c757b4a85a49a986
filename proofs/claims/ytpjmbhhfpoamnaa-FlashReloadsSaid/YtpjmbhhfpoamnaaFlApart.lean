import Derived.Test.YtpjmbhhfpoamnaaFlash10
import Derived.Test.YtpjmbhhfpoamnaaMarks
set_option linter.unusedVariables false
set_option linter.unusedSimpArgs false
namespace Go.Proofs.Ytpjmbhhfpoamnaa
open Go.RowKit
theorem capF_max : capF 1048576 = 1048576 := by unfold capF; omega
/-- two flashes and rows of bytes, all apart -/
structure TwoX (W w : World) (p q : Nat) (s t : FSt) (G H : List Nat) (vs : List Value) (ls : List (List UInt8)) : Prop where
  f : Fl w p G s
  g : Fl w q H t
  ap : ∀ x ∈ G, x ∉ H
  many : Many w 5 W.heap.size (G ++ H) vs ls
  lo : ∀ x ∈ G ++ H, W.heap.size ≤ x
  below : Below W.heap.size W w
structure Two (W w : World) (p q : Nat) (s t : FSt) (vs : List Value) (ls : List (List UInt8)) : Prop where
  out : ∃ G H, Fl w p G s ∧ Fl w q H t ∧ (∀ x ∈ G, x ∉ H) ∧ Many w 5 W.heap.size (G ++ H) vs ls ∧ (∀ x ∈ G ++ H, W.heap.size ≤ x)
  below : Below W.heap.size W w
variable {W w w' : World} {p q : Nat} {s t : FSt} {vs : List Value} {ls : List (List UInt8)}
theorem Two.then_ (h : Two W w p q s t vs ls) (k : Below w.heap.size w w') : Two W w' p q s t vs ls := by
  obtain ⟨G, H, h1, h2, h3, h4, h5⟩ := h.out
  exact ⟨⟨G, H, h1.below k, h2.below k, h3, h4.below k, h5⟩, bthen h.below k⟩
theorem Two.new (h : Two W w p q s t vs ls) (k : Below w.heap.size w w') {v : Value} {l : List UInt8} {C : Nat} (o : w'.ownsRow C 5 1 v l.length (l.map by8)) (hC : w.heap.size ≤ C) : Two W w' p q s t (vs ++ [v]) (ls ++ [l]) := by
  obtain ⟨G, H, h1, h2, h3, h4, h5⟩ := h.out
  refine ⟨⟨G, H, h1.below k, h2.below k, h3, h4.new k o hC h.below.size (fun x hx => ?_), h5⟩, bthen h.below k⟩
  rcases List.mem_append.1 hx with hx | hx
  · exact h1.lts x hx
  · exact h2.lts x hx
theorem Two.swap (h : Two W w p q s t vs ls) : Two W w q p t s vs ls := by
  obtain ⟨G, H, h1, h2, h3, h4, h5⟩ := h.out
  have hc : ∀ x ∈ H ++ G, x ∈ G ++ H := fun x hx => (List.mem_append.1 hx).elim (List.mem_append_right _) (List.mem_append_left _)
  exact ⟨⟨H, G, h2, h1, fun x hx hg => h3 x hg hx, h4.more (fun x hx => .inl (hc x hx)), fun x hx => h5 x (hc x hx)⟩, h.below⟩
/-- the first of the two takes a step -/
theorem Two.step (h : Two W w p q s t vs ls) {s' : FSt} {Q : Ending → Prop} {f : FuncId} {args : Array Value}
    (hc : ∀ G, Fl w p G s → (∀ (i : Nat) v b, vs[i]? = some v → v.ownBlock = some b → b ∉ G) → Calls Try.prog f args w fun e w' => Q e ∧ FStep w w' p G s') : Calls Try.prog f args w fun e w' => Q e ∧ Two W w' p q s' t vs ls := by
  obtain ⟨G, H, h1, h2, h3, h4, h5⟩ := h.out
  refine (hc G h1 (fun i v b hv hb hx => h4.out i v b hv hb (List.mem_append_left _ hx))).mono fun e w' ⟨he, k⟩ => ⟨he, ?_⟩
  obtain ⟨G', k1, k2, k3⟩ := k.out
  refine ⟨⟨G', H, k1, h2.keep k2 (fun x hx hg => h3 x hg hx), fun x hx hh => ?_, (h4.more (fun x hx => ?_)).keep k2 (fun i v b hv hb hx => h4.out i v b hv hb (List.mem_append_left _ hx)), fun x hx => ?_⟩, k2.below h.below h.below.size (fun x hx => h5 x (List.mem_append_left _ hx))⟩
  · rcases k3 x hx with h6 | h6
    · exact h3 x h6 hh
    · have := h2.lts x hh; omega
  · rcases List.mem_append.1 hx with hx | hx
    · rcases k3 x hx with h6 | h6
      · exact .inl (List.mem_append_left _ h6)
      · exact .inr h6
    · exact .inl (List.mem_append_right _ hx)
  · rcases List.mem_append.1 hx with hx | hx
    · rcases k3 x hx with h6 | h6
      · exact h5 x (List.mem_append_left _ h6)
      · exact Nat.le_trans h.below.size h6
    · exact h5 x (List.mem_append_right _ hx)
theorem Two.fst (h : Two W w p q s t vs ls) : ∃ G, Fl w p G s := let ⟨G, _, h1, _⟩ := h.out; ⟨G, h1⟩
theorem Two.snd (h : Two W w p q s t vs ls) : ∃ G, Fl w q G t := let ⟨_, G, _, h1, _⟩ := h.out; ⟨G, h1⟩
theorem Two.row (h : Two W w p q s t vs ls) (i : Nat) {v : Value} {l : List UInt8} (hv : vs[i]? = some v) (hl : ls[i]? = some l) : w.ownsRow W.heap.size 5 1 v l.length (l.map by8) := by
  obtain ⟨G, H, h1, h2, h3, h4, h5⟩ := h.out
  exact h4.own i v l hv hl
theorem Two.new2 (h : Two W w p q s t vs ls) (k : Below w.heap.size w w') {v u : Value} {l r : List UInt8} {C : Nat} (o : w'.ownsRow C 5 1 v l.length (l.map by8)) (o2 : w'.ownsRow C 5 1 u r.length (r.map by8)) (hC : w.heap.size ≤ C) (hne : ∀ b, v.ownBlock = some b → u.ownBlock ≠ some b) : Two W w' p q s t (vs ++ [v] ++ [u]) (ls ++ [l] ++ [r]) := by
  obtain ⟨G, H, h1, h2, h3, h4, h5⟩ := h.out
  have hX : ∀ x ∈ G ++ H, x < w.heap.size := fun x hx => by
    rcases List.mem_append.1 hx with hx | hx
    · exact h1.lts x hx
    · exact h2.lts x hx
  refine ⟨⟨G, H, h1.below k, h2.below k, h3, (h4.new k o hC h.below.size hX).snoc (own_mono o2 (Nat.le_trans h.below.size hC)) (fun i x b hx hb hu => ?_) (fun b hb hx => by have h6 := hX b hx; have h7 := (o2.lt b hb).1; omega), h5⟩, bthen h.below k⟩
  rw [List.getElem?_append] at hx
  split at hx
  · have h6 := (h4.lt hx hb).2; have h7 := (o2.lt b hu).1; omega
  · cases hq : i - vs.length with
    | zero => rw [hq] at hx; obtain rfl := Option.some.inj hx; exact hne b hb hu
    | succ q => rw [hq] at hx; simp at hx
theorem Two.x (h : Two W w p q s t vs ls) : ∃ G H, TwoX W w p q s t G H vs ls := let ⟨G, H, h1, h2, h3, h4, h5⟩ := h.out; ⟨G, H, h1, h2, h3, h4, h5, h.below⟩
set_option maxRecDepth 100000 in
set_option maxHeartbeats 3200000 in
theorem FlashApart_walk (W : World) {A B : Option Addr} {n c m d : Nat} {l r : List UInt8} (ha : Sl W 1 A n c (l.map by8)) (hb : Sl W 1 B m d (r.map by8)) (hn : n ≤ 140737488351232) (hm : m ≤ 140737488351232) :
    Calls Try.prog 3 #[.slice A n c, .slice B m d] W fun e w' => e = .returned (.bool true) ∧ Below W.heap.size W w' := by
  have hl : l.length = n := by simpa using ha.len
  have hr : r.length = m := by simpa using hb.len
  have n1 := ha.le; have n2 := ha.max; have m1 := hb.le; have m2 := hb.max
  by_cases hbig : 262144 < n + m
  · have i0 : (262144 : Int) < (n : Int) + (m : Int) := by omega
    go_enter Try.func3, Try.ntmps3
    go_wp2
    go_ret
    exact ⟨rfl, Below.refl _ _⟩
  have i0 : decide ((262144 : Int) < (n : Int) + (m : Int)) = false := decide_eq_false (by omega)
  have HL := Lib.hid (And.intro hl hr)
  have HN := Lib.hid (show n + m ≤ 262144 by omega)
  clear hbig hl hr
  go_enter Try.func3, Try.ntmps3
  go_wp2_with (first | (at_builtin; refine Stopped.out ?_) | (at_make; refine Stopped.out ?_))
  refine Stopped.mk (ap_own EF rfl (.tmp 41) (.tmp 42) rfl rfl (World.ownsRow_lit (base := W.heap.size) _ #[] 0 (by simp) (by decide) rfl) rfl (ha.alloc _) (u8_one _) (by simp only [maxLen]; omega) (by omega) (by simp) ?_)
  intro v1 w1 o1 hg1 _
  have hb1 : Below W.heap.size W w1 := ((Below.refl _ W).alloc (Nat.le_refl _) _).grown hg1 (by simp) (fun k hk => (Option.some.inj hk) ▸ Nat.le_refl _)
  rw [List.nil_append, Nat.zero_add] at o1
  have M1 : Many w1 5 W.heap.size [] [v1] [l] := (Many.nil W _ _ _).new hb1 (by rw [HL.out.1]; exact o1) (Nat.le_refl _) (Nat.le_refl _) (by simp)
  clear o1 hg1
  go_wp2_with (first | (at_builtin; refine Stopped.out ?_) | (at_make; refine Stopped.out ?_))
  refine Stopped.mk (ap_own EF rfl (.tmp 44) (.tmp 45) rfl rfl (World.ownsRow_lit (base := w1.heap.size) _ #[] 0 (by simp) (by decide) rfl) rfl ((hb.below hb1).alloc _) (u8_one _) (by simp only [maxLen]; omega) (by omega) (by simp) ?_)
  intro v2 w2 o2 hg2 _
  have hb2 : Below w1.heap.size w1 w2 := ((Below.refl _ w1).alloc (Nat.le_refl _) _).grown hg2 (by simp) (fun k hk => (Option.some.inj hk) ▸ Nat.le_refl _)
  rw [List.nil_append, Nat.zero_add] at o2
  have M2 : Many w2 5 W.heap.size [] [v1, v2] [l, r] := M1.new hb2 (by rw [HL.out.2]; exact o2) (Nat.le_refl _) hb1.size (by simp)
  have hB2 := bthen hb1 hb2
  clear o2 hg2 M1 hb1 hb2
  obtain ⟨A1, c1, rfl, s1, -⟩ := own_sl (M2.own 0 _ _ rfl rfl)
  obtain ⟨A2, c2, rfl, s2, -⟩ := own_sl (M2.own 1 _ _ rfl rfl)
  go_wp2_with (first | (at_builtin; refine Stopped.out ?_) | (at_make; refine Stopped.out ?_))
  refine (flash_Load _ 1048576 s1 (r := []) (Sl.nilS _ 1)).mono ?_
  rintro e w3 ⟨G, rfl, f3, hb3, hG3⟩
  have M3 := (M2.more (X' := G) (fun x hx => .inr (hG3 x hx))).below hb3
  have hB3 := bthen hB2 hb3
  have hG : ∀ x ∈ G, W.heap.size ≤ x := fun x hx => Nat.le_trans hB2.size (hG3 x hx)
  have el : l.take (capF 1048576) = l := List.take_of_length_le (by have := capF_max; have := HL.out.1; have := HN.out; omega)
  rw [el] at f3
  clear M2 s1 hG3 hB2 s2 el
  go_wp2_with (first | (at_builtin; refine Stopped.out ?_) | (at_make; refine Stopped.out ?_))
  refine (flash_New _ 1048576).mono ?_
  rintro e w4 ⟨H, rfl, g4, hb4, hH4⟩
  have T4 : Two W w4 w2.heap.size w3.heap.size _ _ [.slice A1 l.length c1, .slice A2 r.length c2] [l, r] := ⟨⟨G, H, f3.below hb4, g4, fun x hx hy => by have h1 := f3.lts x hx; have h2 := hH4 x hy; omega, (M3.more (X' := G ++ H) (fun x hx => (List.mem_append.1 hx).elim .inl (fun hx => .inr (hH4 x hx)))).below hb4, fun x hx => (List.mem_append.1 hx).elim (hG x) (fun hx => Nat.le_trans hB3.size (hH4 x hx))⟩, bthen hB3 hb4⟩
  clear M3 f3 g4 hb3 hb4 hB3 hG hH4
  go_wp2_with (first | (at_builtin; refine Stopped.out ?_) | (at_make; refine Stopped.out ?_))
  refine (holds12 _).mono ?_
  rintro e w5 ⟨rfl, hb5⟩
  have T5 := T4.then_ hb5
  clear T4 hb5
  obtain ⟨p, hp⟩ : ∃ p, p = w2.heap.size := ⟨_, rfl⟩
  obtain ⟨q, hq⟩ : ∃ q, q = w3.heap.size := ⟨_, rfl⟩
  rw [← hp] at T5 ⊢; rw [← hq] at T5 ⊢
  clear hp hq
  go_wp2_with (first | (at_builtin; refine Stopped.out ?_) | (at_make; refine Stopped.out ?_))
  refine (T5.step (fun G hf hM => (flash_Append_calm _ hf 1 (by decide) rfl rfl (Nat.zero_le _) (by show capF 1048576 ≤ 1048576; exact capF_le _) (own_sl' (T5.row 1 rfl rfl)).2.1 (fun ad e _ => hM 1 _ _ rfl (by rw [e]; rfl)) (by show 0 + r.length ≤ capF 1048576; have := capF_max; have := HL.out.1; have := HL.out.2; have := HN.out; omega)))).mono ?_
  rintro e w6 ⟨rfl, T6⟩
  clear T5
  go_wp2_with (first | (at_builtin; refine Stopped.out ?_) | (at_make; refine Stopped.out ?_))
  refine (T6.swap.step (fun G hf hM => (flash_Append_calm _ hf 0 (by decide) rfl rfl (Nat.zero_le _) (by show capF 1048576 ≤ 1048576; exact capF_le _) (own_sl' (T6.row 0 rfl rfl)).2.1 (fun ad e _ => hM 0 _ _ rfl (by rw [e]; rfl)) (by show 0 + l.length ≤ capF 1048576; have := capF_max; have := HL.out.1; have := HL.out.2; have := HN.out; omega)))).mono ?_
  rintro e w7 ⟨rfl, T7'⟩
  have T7 := T7'.swap
  clear T6 T7'
  have HS : Hid (∃ s t : FSt, Two W w7 p q s t [.slice A1 l.length c1, .slice A2 r.length c2] [l, r] ∧ s.b0 = l ∧ s.b1 = r ∧ s.down = false ∧ t.b0 = l ∧ t.b1 = []) := Lib.hid ⟨_, _, T7, by simp [appS], by simp [appS], by simp [appS], by simp [appS], by simp [appS]⟩
  clear T7
  obtain ⟨s, t, T7, hs0, hs1, hsd, ht0, ht1⟩ := HS.out
  clear HS
  have HR0 := Lib.hid (fun (w : World) G (h : Fl w p G s) => by
    have := flash_Read_yes w h 0 (by decide) hsd (by show s.b0.length ≤ _; rw [hs0]; have := HL.out.1; omega)
    rwa [show bankF s 0 = l from hs0] at this)
  have HR1 := Lib.hid (fun (w : World) G (h : Fl w p G s) => by
    have := flash_Read_yes w h 1 (by decide) hsd (by show s.b1.length ≤ _; rw [hs1]; have := HL.out.2; omega)
    rwa [show bankF s 1 = r from hs1] at this)
  have HF := Lib.hid (fun (w : World) G (h : Fl w p G s) => by
    have := flash_Files w h (by rw [hs0]; have := HL.out.1; omega) (by rw [hs1]; have := HL.out.2; omega)
    rwa [hs0, hs1] at this)
  have HG := Lib.hid (fun (w : World) G (h : Fl w q G t) => by
    have := flash_Files w h (by rw [ht0]; have := HL.out.1; omega) (by rw [ht1]; simp)
    rwa [ht0, ht1] at this)
  clear hs0 hs1 hsd ht0 ht1
  go_wp2_with (first | (at_builtin; refine Stopped.out ?_) | (at_make; refine Stopped.out ?_))
  obtain ⟨Gx, fx⟩ := T7.fst
  refine (HR0.out _ _ fx).mono ?_
  rintro e w8 ⟨rfl, o8, hb8⟩
  have T8 := T7.new hb8 o8 (Nat.le_refl _)
  clear T7 hb8 o8 fx
  go_wp2_with (first | (at_builtin; refine Stopped.out ?_) | (at_make; refine Stopped.out ?_))
  obtain ⟨Gx, fx⟩ := T8.fst
  refine (HF.out _ _ fx).mono ?_
  rintro e w9 ⟨A9, B9, rfl, o9, q9, hne9, hb9⟩
  have T9 := T8.new2 hb9 o9 q9 (Nat.le_refl _) (fun b h1 h2 => by
    cases A9 with
    | none => cases h1
    | some x => cases B9 with
      | none => cases h2
      | some y => exact hne9 x rfl y rfl ((Option.some.inj h1).trans (Option.some.inj h2).symm))
  clear T8 hb9 o9 q9 hne9 fx
  go_wp2_with (first | (at_builtin; refine Stopped.out ?_) | (at_make; refine Stopped.out ?_))
  obtain ⟨Gx, fx⟩ := T9.fst
  refine (HR1.out _ _ fx).mono ?_
  rintro e w10 ⟨rfl, o10, hb10⟩
  have T10 := T9.new hb10 o10 (Nat.le_refl _)
  clear T9 hb10 o10 fx
  go_wp2_with (first | (at_builtin; refine Stopped.out ?_) | (at_make; refine Stopped.out ?_))
  obtain ⟨Gx, fx⟩ := T10.fst
  refine (HR0.out _ _ fx).mono ?_
  rintro e w11 ⟨rfl, o11, hb11⟩
  have T11 := T10.new hb11 o11 (Nat.le_refl _)
  clear T10 hb11 o11 fx
  go_wp2_with (first | (at_builtin; refine Stopped.out ?_) | (at_make; refine Stopped.out ?_))
  obtain ⟨Gx, fx⟩ := T11.fst
  refine (HF.out _ _ fx).mono ?_
  rintro e w12 ⟨A12, B12, rfl, o12, q12, hne12, hb12⟩
  have T12 := T11.new2 hb12 o12 q12 (Nat.le_refl _) (fun b h1 h2 => by
    cases A12 with
    | none => cases h1
    | some x => cases B12 with
      | none => cases h2
      | some y => exact hne12 x rfl y rfl ((Option.some.inj h1).trans (Option.some.inj h2).symm))
  clear T11 hb12 o12 q12 hne12 fx
  go_wp2_with (first | (at_builtin; refine Stopped.out ?_) | (at_make; refine Stopped.out ?_))
  obtain ⟨Gx, fx⟩ := T12.fst
  refine (HR1.out _ _ fx).mono ?_
  rintro e w13 ⟨rfl, o13, hb13⟩
  have T13 := T12.new hb13 o13 (Nat.le_refl _)
  clear T12 hb13 o13 fx HR0 HR1
  obtain ⟨b8, h8⟩ : ∃ b, b = w7.heap.size := ⟨_, rfl⟩
  obtain ⟨b10, h10⟩ : ∃ b, b = w9.heap.size := ⟨_, rfl⟩
  obtain ⟨b11, h11⟩ : ∃ b, b = w10.heap.size := ⟨_, rfl⟩
  obtain ⟨b13, h13⟩ : ∃ b, b = w12.heap.size := ⟨_, rfl⟩
  rw [← h8, ← h10, ← h11, ← h13] at T13 ⊢
  clear h8 h10 h11 h13
  go_wp2_with (first | (at_builtin; refine Stopped.out ?_) | (at_make; refine Stopped.out ?_))
  refine (same12 _ (own_sl' (T13.row 2 rfl rfl)).2.1 (ha.below T13.below)).mono ?_
  rintro e w14 ⟨rfl, hd⟩
  rw [decide_eq_true rfl]
  have T14 := T13.then_ hd.below
  clear T13 hd
  go_wp2_with (first | (at_builtin; refine Stopped.out ?_) | (at_make; refine Stopped.out ?_))
  refine (same12 _ (own_sl' (T14.row 3 rfl rfl)).2.1 (ha.below T14.below)).mono ?_
  rintro e w15 ⟨rfl, hd⟩
  rw [decide_eq_true rfl]
  have T15 := T14.then_ hd.below
  clear T14 hd
  go_wp2_with (first | (at_builtin; refine Stopped.out ?_) | (at_make; refine Stopped.out ?_))
  refine (same12 _ (own_sl' (T15.row 4 rfl rfl)).2.1 (hb.below T15.below)).mono ?_
  rintro e w16 ⟨rfl, hd⟩
  rw [decide_eq_true rfl]
  have T16 := T15.then_ hd.below
  clear T15 hd
  go_wp2_with (first | (at_builtin; refine Stopped.out ?_) | (at_make; refine Stopped.out ?_))
  refine (same12 _ (own_sl' (T16.row 5 rfl rfl)).2.1 (hb.below T16.below)).mono ?_
  rintro e w17 ⟨rfl, hd⟩
  rw [decide_eq_true rfl]
  have T17 := T16.then_ hd.below
  clear T16 hd
  go_wp2_with (first | (at_builtin; refine Stopped.out ?_) | (at_make; refine Stopped.out ?_))
  refine (same12 _ (own_sl' (T17.row 6 rfl rfl)).2.1 (ha.below T17.below)).mono ?_
  rintro e w18 ⟨rfl, hd⟩
  rw [decide_eq_true rfl]
  have T18 := T17.then_ hd.below
  clear T17 hd
  go_wp2_with (first | (at_builtin; refine Stopped.out ?_) | (at_make; refine Stopped.out ?_))
  refine (same12 _ (own_sl' (T18.row 7 rfl rfl)).2.1 (ha.below T18.below)).mono ?_
  rintro e w19 ⟨rfl, hd⟩
  rw [decide_eq_true rfl]
  have T19 := T18.then_ hd.below
  clear T18 hd
  go_wp2_with (first | (at_builtin; refine Stopped.out ?_) | (at_make; refine Stopped.out ?_))
  refine (same12 _ (own_sl' (T19.row 8 rfl rfl)).2.1 (hb.below T19.below)).mono ?_
  rintro e w20 ⟨rfl, hd⟩
  rw [decide_eq_true rfl]
  have T20 := T19.then_ hd.below
  clear T19 hd
  go_wp2_with (first | (at_builtin; refine Stopped.out ?_) | (at_make; refine Stopped.out ?_))
  refine (same12 _ (own_sl' (T20.row 9 rfl rfl)).2.1 (hb.below T20.below)).mono ?_
  rintro e w21 ⟨rfl, hd⟩
  rw [decide_eq_true rfl]
  have T21 := T20.then_ hd.below
  clear T20 hd
  obtain ⟨vs, hvs⟩ : ∃ vs, vs = [Value.slice A1 l.length c1, .slice A2 r.length c2] ++ [.slice (some ⟨b8, 0, none⟩) l.length l.length] ++ [.slice A9 l.length l.length] ++ [.slice B9 r.length r.length] ++ [.slice (some ⟨b10, 0, none⟩) r.length r.length] ++ [.slice (some ⟨b11, 0, none⟩) l.length l.length] ++ [.slice A12 l.length l.length] ++ [.slice B12 r.length r.length] ++ [.slice (some ⟨b13, 0, none⟩) r.length r.length] := ⟨_, rfl⟩
  rw [← hvs] at T21
  have hv10 : vs.length = 10 := by rw [hvs]; rfl
  have hvA : vs.toArray = #[.slice A1 l.length c1, .slice A2 r.length c2, .slice (some ⟨b8, 0, none⟩) l.length l.length, .slice A9 l.length l.length, .slice B9 r.length r.length, .slice (some ⟨b10, 0, none⟩) r.length r.length, .slice (some ⟨b11, 0, none⟩) l.length l.length, .slice A12 l.length l.length, .slice B12 r.length r.length, .slice (some ⟨b13, 0, none⟩) r.length r.length] := by rw [hvs]; rfl
  have Z := Sl.fresh w21 vs 22 10 1 (by rw [hv10]) (by decide)
  obtain ⟨ls, hls⟩ : ∃ ls, ls = ([l, r] ++ [l] ++ [l] ++ [r] ++ [r] ++ [l] ++ [l] ++ [r] ++ [r]) := ⟨_, rfl⟩
  rw [← hls] at T21
  have hml : ∀ x ∈ ls, x.length ≤ 262144 := fun x hx => by
    have := HL.out.1; have := HL.out.2; have := HN.out
    rw [hls] at hx
    simp at hx
    rcases hx with h | h | h | h | h | h <;> (rw [h]; omega)
  have TZ := T21.then_ (w' := w21.alloc (.cells vs.toArray 22)) ((Below.refl _ _).alloc (Nat.le_refl _) _)
  have hzz : ∀ (i : Nat) v b, vs[i]? = some v → v.ownBlock = some b → b ≠ w21.heap.size := fun i v b hv hb => by
    obtain ⟨G, H, TX⟩ := T21.x
    have := (TX.many.lt hv hb).2
    omega
  obtain ⟨W2, hW2⟩ : ∃ W2, W2 = w21.alloc (.cells vs.toArray 22) := ⟨_, rfl⟩
  have hzW : w21.heap.size < W2.heap.size := by rw [hW2]; simp
  obtain ⟨z, hz⟩ : ∃ z, z = w21.heap.size := ⟨_, rfl⟩
  rw [← hz] at Z hzz hzW
  rw [← hW2] at Z TZ
  rw [hvA] at hW2
  have HA : ∃ X I, Fr X I ∧ AllX W W2 5 X I z vs vs ls 262144 ∧ ∀ w, I w → ∃ G H, Fl w p G s ∧ Fl w q H t := by
    obtain ⟨G, H, TX⟩ := TZ.x
    refine ⟨G ++ H, fun w => Fl w p G s ∧ Fl w q H t, ⟨fun M w w' hk hM hw => ⟨hw.1.keep hk (fun x hx hxM => hM x hxM (List.mem_append_left _ hx)), hw.2.keep hk (fun x hx hxM => hM x hxM (List.mem_append_right _ hx))⟩⟩, ⟨TX.many, ⟨TX.f, TX.g⟩, TX.below, fun x hx => ⟨TX.lo x hx, (List.mem_append.1 hx).elim (TX.f.lts x) (TX.g.lts x)⟩, by rw [hv10]; exact Z, fun i v h => h, hzz, hml⟩, fun w hw => ⟨G, H, hw⟩⟩
  obtain ⟨X, I, F, hA, hI⟩ := HA
  have HA := Lib.hid (And.intro hA hI)
  clear T21 hvs hls hvA TZ Z hml hzz hA hI
  go_wp2_with (first | (at_builtin; refine Stopped.out ?_) | (at_make; refine Stopped.out ?_))
  rw [← hW2, ← hz]
  clear hz hW2
  have HZW := Lib.hid hzW
  clear hzW
  go_loopw [22] (fun i wr => ∃ (j : Nat), j ≤ 10 ∧ i = .int .i64 j ∧ AllSt W wr 5 X I z vs vs 262144 j) (fun i _ => 10 - (intOf i).toNat)
  case atStart => exact ⟨0, by omega, rfl, ls, HA.out.1, fun t l h => by omega⟩
  case round =>
    obtain ⟨j, hj, rfl, hA⟩ := hrel
    by_cases hlt : j < 10
    · have hj0 : (0 : Int) ≤ (j : Int) := Int.natCast_nonneg _
      have hj1 : (j : Int) < 10 := by omega
      obtain ⟨Av, m2, cv, hv, hm2, g0, hR⟩ := hA.row (j := j) (by omega)
      have HR := Lib.hid hR
      clear hA hR g0
      go_wp2
      go_loopw [23] (fun i wr => ∃ (k : Nat), k ≤ m2 ∧ i = .int .i64 k ∧ RowSt W wr 5 X I z vs vs 262144 j k m2) (fun i _ => m2 - (intOf i).toNat)
      case atStart => exact ⟨0, by omega, rfl, HR.out⟩
      case round =>
        clear HR
        obtain ⟨k, hk, rfl, hR⟩ := hrel
        have g0 := hR.cell (by omega) hv
        by_cases hkl : k < m2
        · have hk0 : (0 : Int) ≤ (k : Int) := Int.natCast_nonneg _
          have hk1 : (k : Int) < (m2 : Int) := by omega
          obtain ⟨gb, rfl, ⟨v0, hc0⟩, hf0, hN⟩ := hR.store F hv hkl
          have HN := Lib.hid hN
          clear hR hN
          go_wp2
          first | go_roundw | refine ⟨?rel, ?measure⟩
          case rel => exact ⟨k + 1, by omega, by go_num, by have := HN.out; rwa [show (((j + 1) % 256 : Nat) : Int) = (j : Int) + 1 by omega] at this⟩
          case measure => simp [intOf]; omega
        · obtain rfl : k = m2 := by omega
          have HD := Lib.hid hR.done
          clear hR
          go_wp2
          first | go_roundw | refine ⟨?rel, ?measure⟩
          case rel => exact ⟨j + 1, by omega, by go_num, HD.out⟩
          case measure => simp [intOf]; omega
    · have HJ := Lib.hid (show j = 10 by omega)
      obtain ⟨lm, hX, hmk⟩ := hA
      rw [HJ.out] at hmk
      have HX1 := Lib.hid (And.intro hX hmk)
      have HI := Lib.hid HA.out.2
      clear hX hmk HA HZW
      obtain ⟨w22, rfl⟩ : ∃ x, x = wr := ⟨_, rfl⟩
      go_wp2
      go_loopw [24, 25] (fun o i w5 => ∃ (k : Nat) (vt : Value), k ≤ 64 ∧ i = .int .i64 k ∧ o = vt ∧ w5.ownsRow w22.heap.size 5 1 vt k ((List.replicate k (100 : UInt8)).map by8) ∧ Below w22.heap.size w22 w5) (fun _ i _ => 64 - (intOf i).toNat)
      case atStart => exact ⟨0, _, by omega, rfl, rfl, World.ownsRow_nil .., Below.refl _ _⟩
      case round =>
        obtain ⟨k, vt, hk, rfl, rfl, hst, hbl⟩ := hrel
        by_cases hkl : k < 64
        · have hk0 : (0 : Int) ≤ (k : Int) := Int.natCast_nonneg _
          have hk1 : (k : Int) < 64 := by omega
          go_wp2_with (first | (at_builtin; refine Stopped.out ?_) | (at_make; refine Stopped.out ?_))
          refine Stopped.mk (ap_own EF rfl (.tmp 187) (.tmp 188) rfl rfl (hst.alloc _) rfl (Sl.fresh wr [.int .u8 100] 5 1 1 rfl (by decide)) (by simp [Value.oneCell']) (by simp only [maxLen]; omega) (by omega) (by have := hbl.size; simp; omega) ?_)
          intro v2 w2 hst2 hg2 _
          have HN := Lib.hid (And.intro hst2 ((hbl.alloc hbl.size _).grown hg2 (by have := hbl.size; simp; omega) (fun k hk => (hst.lt k hk).1)))
          clear hst hbl hst2 hg2
          go_wp2
          first | go_roundw | refine ⟨?rel, ?measure⟩
          case rel => exact ⟨k + 1, v2, by omega, by go_num, rfl, by rw [List.replicate_succ', List.map_append]; exact HN.out.1, HN.out.2⟩
          case measure => simp [intOf]; omega
        · have HK := Lib.hid (show k = 64 by omega)
          rw [HK.out] at hst
          have hT := HX1.out.1.new F hbl (v := u24) (l := List.replicate 64 100) (by simpa using hst) (HX1.out.1.zlt (by omega)) (by simp)
          obtain ⟨va, hva⟩ : ∃ va, va = vs ++ [u24] := ⟨_, rfl⟩
          obtain ⟨la, hla⟩ : ∃ la, la = lm ++ [List.replicate 64 (100 : UInt8)] := ⟨_, rfl⟩
          rw [← hva, ← hla] at hT
          have hlm : lm.length = 10 := by rw [← HX1.out.1.many.len]; exact hv10
          have hva10 : va[10]? = some u24 := by rw [hva, List.getElem?_append_right (by omega), hv10]; rfl
          have hla10 : la[10]? = some (List.replicate 64 (100 : UInt8)) := by rw [hla, List.getElem?_append_right (by omega), hlm]; rfl
          have HMK : Hid (marks 10 la) := Lib.hid (fun t l ht hl i hi => by
            rw [hla, List.getElem?_append_left (by omega)] at hl
            exact HX1.out.2 t l ht hl i hi)
          have HT := Lib.hid (And.intro hT (And.intro hva10 hla10))
          obtain ⟨gt, ct, rfl, hct, _, _⟩ := hT.markRow hva10 hla10 (by decide)
          clear hT hst hbl hva hla hva10 hla10 HX1 hlm
          go_wp2
          go_loopw [26] (fun i w5 => ∃ (j : Nat), j ≤ 10 ∧ i = .int .i64 j ∧ AllX W w5 5 X I z vs va la 262144) (fun i _ => 10 - (intOf i).toNat)
          case atStart => exact ⟨0, by omega, rfl, HT.out.1⟩
          case round =>
            obtain ⟨j, hj, rfl, hA⟩ := hrel
            by_cases hlt : j < 10
            · have hj0 : (0 : Int) ≤ (j : Int) := Int.natCast_nonneg _
              have hj1 : (j : Int) < 10 := by omega
              obtain ⟨Av, cv, x, hv, hx, o, g0, hm2⟩ := hA.row j (by omega)
              obtain ⟨B0, hB0⟩ : ∃ B0, B0 = wr.heap.size := ⟨_, rfl⟩
              have HR := Lib.hid (TailSt.start (c := 100) hA hv hx rfl (hA.zlt (by omega)) hB0)
              obtain ⟨m2, hm2e⟩ : ∃ m2, m2 = x.length := ⟨_, rfl⟩
              rw [← hm2e] at hv g0 hm2 HR
              clear hA o hx hB0 hm2e
              go_wp2
              go_loopw [27, 28] (fun o i w5 => ∃ (q : Nat) (vl : Value), q ≤ 64 ∧ i = .int .i64 q ∧ o = vl ∧ TailSt W w5 5 X I z vs va la 262144 j m2 B0 100 vl q) (fun _ i _ => 64 - (intOf i).toNat)
              case atStart => exact ⟨0, _, by omega, rfl, rfl, HR.out⟩
              case round =>
                clear HR g0
                obtain ⟨k, vl, hk, rfl, rfl, hT⟩ := hrel
                obtain ⟨_, _, e, _, st, hst⟩ := hT.x.markRow HT.out.2.1 HT.out.2.2 (by decide)
                injection e with e1 _ e3
                injection e1 with e1
                injection e1 with e1 _ _
                subst e1; subst e3
                by_cases hkl : k < 64
                · have hk0 : (0 : Int) ≤ (k : Int) := Int.natCast_nonneg _
                  have hk1 : (k : Int) < 64 := by omega
                  have gq : wr.cell? ⟨gt, k, none⟩ = some (.int .u8 100) := hst k hkl
                  clear hst st
                  go_wp2_with (first | (at_builtin; refine Stopped.out ?_) | (at_make; refine Stopped.out ?_))
                  have hTa := hT.below F (w' := wr.alloc (.cells #[.int .u8 100] 5)) ((Below.refl _ _).alloc (Nat.le_refl _) _)
                  obtain ⟨xs, ox, hxs⟩ := hTa.own
                  refine Stopped.mk (apx_own EF rfl (.tmp 206) (.tmp 211) rfl rfl ox rfl (Sl.fresh wr [.int .u8 100] 5 1 1 rfl (by decide)) (by simp [Value.oneCell']) (by simp only [maxLen]; omega) (by omega) hTa.x.below.size ?_)
                  intro v2 w2 hst2 hg2 hb2 hk2
                  have HN := Lib.hid (hTa.step F (by rw [← hxs]; exact hst2) hg2 hb2 hk2)
                  clear hTa hT ox hxs hst2 hg2 hb2 hk2 gq
                  go_wp2
                  first | go_roundw | refine ⟨?rel, ?measure⟩
                  case rel => exact ⟨k + 1, v2, by omega, by go_num, rfl, HN.out⟩
                  case measure => simp [intOf]; omega
                · have HK := Lib.hid (show k = 64 by omega)
                  rw [HK.out] at hT
                  obtain ⟨gv, cp, rfl, hcp, sv⟩ := hT.done (by decide)
                  have g1 := hT.x.cellOf (j := j) (by omega) hv
                  have q1 : (m2 : Int) ≤ (cp : Int) := by omega
                  have q2 : ¬ cp = m2 := by omega
                  clear hst
                  rw [show List.replicate 64 (UInt8.ofNat 100) = List.replicate 64 (100 : UInt8) from rfl] at sv
                  have s12 := same12 wr sv st
                  rw [decide_eq_true rfl] at s12
                  have HS := Lib.hid s12
                  clear s12 sv st
                  go_wp2_with (first | (at_builtin; refine Stopped.out ?_) | (at_make; refine Stopped.out ?_))
                  refine HS.out.mono ?_
                  rintro e w9 ⟨rfl, hd⟩
                  have HN := Lib.hid (hT.x.then_ F hd.below)
                  clear hT hd HS
                  go_wp2
                  first | go_roundw | refine ⟨?rel, ?measure⟩
                  case rel => exact ⟨j + 1, by omega, by go_num, HN.out⟩
                  case measure => simp [intOf]; omega
            · have HJ3 := Lib.hid (show j = 10 by omega)
              have HX := Lib.hid hA
              clear hA HT
              go_wp2
              go_loopw [29] (fun i w5 => ∃ (j : Nat), j ≤ 10 ∧ i = .int .i64 j ∧ AllX W w5 5 X I z vs va la 262144) (fun i _ => 10 - (intOf i).toNat)
              case atStart => exact ⟨0, by omega, rfl, HX.out⟩
              case round =>
                clear HX
                obtain ⟨j, hj, rfl, hA⟩ := hrel
                by_cases hlt : j < 10
                · have hj0 : (0 : Int) ≤ (j : Int) := Int.natCast_nonneg _
                  have hj1 : (j : Int) < 10 := by omega
                  obtain ⟨Av, cv, x, hv, hx, o, g0, hm2⟩ := hA.row j (by omega)
                  have hxm := HMK.out j x (by omega) hx
                  obtain ⟨m2, hm2e⟩ : ∃ m2, m2 = x.length := ⟨_, rfl⟩
                  have HX2 := Lib.hid (And.intro hA (And.intro o hxm))
                  rw [← hm2e] at hv g0 hm2 HX2
                  clear hA o hx hm2e hxm
                  go_wp2
                  go_loop [30] (fun i => ∃ (k : Nat), k ≤ m2 ∧ i = .int .i64 k) (fun i => m2 - (intOf i).toNat)
                  case atStart => exact ⟨0, by omega, rfl⟩
                  case round =>
                    obtain ⟨k, hk, rfl⟩ := hrel
                    by_cases hkl : k < m2
                    · have hk0 : (0 : Int) ≤ (k : Int) := Int.natCast_nonneg _
                      have hk1 : (k : Int) < (m2 : Int) := by omega
                      obtain ⟨_, so, _⟩ := own_sl' HX2.out.2.1
                      obtain ⟨gb, off, rfl⟩ := so.form (by omega)
                      have gk := so.byte k hkl
                      rw [HX2.out.2.2 k hkl, show ((j + 1) % 256 : Nat) = j + 1 by omega] at gk
                      have e1 : (((j + 1 : Nat) : Int) != (j : Int) + 1) = false := by simp
                      have e2 : ((j + 1 : Nat) : Int) = (j : Int) + 1 := by omega
                      rw [e2] at gk
                      clear so e1 e2
                      go_wp2
                      first | go_round | refine ⟨?rel, ?measure⟩
                      case rel => exact ⟨k + 1, by omega, by go_num⟩
                      case measure => simp [intOf]; omega
                    · have HK2 := Lib.hid (show k = m2 by omega)
                      go_wp2
                      first | go_roundw | refine ⟨?rel, ?measure⟩
                      case rel => exact ⟨j + 1, by omega, by go_num, HX2.out.1⟩
                      case measure => simp [intOf]; omega
                · have HX2 := Lib.hid (And.intro (HI.out _ hA.i) hA.below)
                  clear hA
                  go_wp2_with (first | (at_builtin; refine Stopped.out ?_) | (at_make; refine Stopped.out ?_))
                  obtain ⟨⟨Ga, Ha, fa, gaa⟩, hBx⟩ := HX2.out
                  refine (HF.out _ _ fa).mono ?_
                  rintro e w30 ⟨A30, B30, rfl, o30, q30, _, hb30⟩
                  have g30 := gaa.below hb30
                  have hB30 := bthen hBx hb30
                  clear HX2 fa gaa hBx
                  go_wp2_with (first | (at_builtin; refine Stopped.out ?_) | (at_make; refine Stopped.out ?_))
                  refine (HG.out _ _ g30).mono ?_
                  rintro e w31 ⟨A31, B31, rfl, o31, q31, _, hb31⟩
                  have hB31 := bthen hB30 hb31
                  have s30 := (own_sl' (own_below o30 hb31)).2.1
                  have t30 := (own_sl' (own_below q30 hb31)).2.1
                  have s31 := (own_sl' o31).2.1
                  clear g30 hB30 o30 q30 hb30 o31 q31 hb31
                  go_wp2_with (first | (at_builtin; refine Stopped.out ?_) | (at_make; refine Stopped.out ?_))
                  refine (same12 _ s30 (ha.below hB31)).mono ?_
                  rintro e w32 ⟨rfl, hd⟩
                  rw [decide_eq_true rfl]
                  have hB32 := bthen hB31 hd.below
                  have t32 := t30.below hd.below
                  have s32 := s31.below hd.below
                  clear s30 t30 s31 hd hB31
                  go_wp2_with (first | (at_builtin; refine Stopped.out ?_) | (at_make; refine Stopped.out ?_))
                  refine (same12 _ t32 (hb.below hB32)).mono ?_
                  rintro e w33 ⟨rfl, hd⟩
                  rw [decide_eq_true rfl]
                  have hB33 := bthen hB32 hd.below
                  have s33 := s32.below hd.below
                  clear t32 s32 hd hB32
                  go_wp2_with (first | (at_builtin; refine Stopped.out ?_) | (at_make; refine Stopped.out ?_))
                  refine (same12 _ s33 (ha.below hB33)).mono ?_
                  rintro e w34 ⟨rfl, hd⟩
                  rw [decide_eq_true rfl]
                  have hB34 := bthen hB33 hd.below
                  clear s33 hd hB33
                  go_wp2
                  go_ret
                  exact ⟨by simp, hB34⟩
end Go.Proofs.Ytpjmbhhfpoamnaa
