import Derived.Test.YtdooabbeolfgfaaShort
import Derived.Test.YtdooabbeolfgfaaMarks
import Derived.Test.YtdooabbeolfgfaaSame
set_option linter.unusedVariables false
set_option linter.unusedSimpArgs false
namespace Go.Proofs.Ytdooabbeolfgfaa
open Go.RowKit
theorem Many.newK {w w' : World} {T B C : Nat} {X M : List Nat} {vs : List Value} {ls : List (List UInt8)} (h : Many w T B X vs ls) (k : Keep M w w') (hM : ∀ x ∈ M, x ∈ X) {v : Value} {l : List UInt8} (o : w'.ownsRow C T 1 v l.length (l.map by8)) (hC : w.heap.size ≤ C) (hB : B ≤ w.heap.size) (hX : ∀ x ∈ X, x < w.heap.size) : Many w' T B X (vs ++ [v]) (ls ++ [l]) :=
  (h.keepX k hM).snoc (own_mono o (Nat.le_trans hB hC)) (fun i u b hu hb hv => by have h1 := (h.lt hu hb).2; have h2 := (o.lt b hv).1; omega) (fun b hb hx => by have h1 := hX b hx; have h2 := (o.lt b hb).1; omega)
theorem EBa : ElemT Try.prog 24 5 (.int .u8 0) 1 1 := ⟨Try.underlying24, by kernel_rfl, rfl, by decide⟩
set_option maxRecDepth 100000 in
set_option maxHeartbeats 3200000 in
theorem WireApart_walk (W : World) {A B : Option Addr} {n c m d : Nat} {l r : List UInt8} (ha : Sl W 1 A n c (l.map by8)) (hb : Sl W 1 B m d (r.map by8)) (hn : n ≤ 140737488351232) (hm : m ≤ 140737488351232) :
    Calls Try.prog 9 #[.slice A n c, .slice B m d] W fun e w' => e = .returned (.bool true) ∧ Below W.heap.size W w' := by
  have hl : l.length = n := by simpa using ha.len
  have hr : r.length = m := by simpa using hb.len
  have n1 := ha.le; have n2 := ha.max; have m1 := hb.le; have m2 := hb.max
  by_cases hbig : 100000 < n + m
  · have i0 : (100000 : Int) < (n : Int) + (m : Int) := by omega
    go_enter Try.func9, Try.ntmps9
    go_wp2
    go_ret
    exact ⟨rfl, Below.refl _ _⟩
  have i0 : decide ((100000 : Int) < (n : Int) + (m : Int)) = false := decide_eq_false (by omega)
  have hAl : ∀ ad, A = some ad → 0 < n → ad.block < W.heap.size := fun ad e h => by
    obtain ⟨b, off, rfl⟩ := ha.form h
    obtain rfl := Option.some.inj e
    exact cell_lt (ha.byte 0 h)
  have hBl : ∀ ad, B = some ad → 0 < m → ad.block < W.heap.size := fun ad e h => by
    obtain ⟨b, off, rfl⟩ := hb.form h
    obtain rfl := Option.some.inj e
    exact cell_lt (hb.byte 0 h)
  have HL := Lib.hid (And.intro hl hr)
  have HN := Lib.hid (show n + m ≤ 100000 by omega)
  have HS := Lib.hid (And.intro (shortL_len n (by omega)) (shortL_len m (by omega)))
  have HP := Lib.hid (And.intro hAl hBl)
  clear hbig hl hr hAl hBl
  go_enter Try.func9, Try.ntmps9
  go_wp2_with (first | (at_builtin; refine Stopped.out ?_) | (at_make; refine Stopped.out ?_))
  refine (NewWriter_any _).mono ?_
  rintro e w1 ⟨rfl, o1, hb1⟩
  obtain ⟨p, hp⟩ : ∃ p, p = W.heap.size := ⟨_, rfl⟩
  rw [← hp] at o1 ⊢
  have HPW := Lib.hid hp
  clear hp
  go_wp2_with (first | (at_builtin; refine Stopped.out ?_) | (at_make; refine Stopped.out ?_))
  refine (Bytes_any _ o1 (ha.below hb1) (fun ad e h0 hx => by have h1 := HP.out.1 ad e h0; have h2 := HPW.out; simp at hx; omega) n (by simp; omega)).mono ?_
  rintro e w2 ⟨rfl, hst⟩
  rw [show cutF (n : Int) n 0 = 0 by simp [cutF], show putL [] 0 (shortL n ++ l) = shortL n ++ l from rfl] at hst
  obtain ⟨G2, o2, hk2, hG2⟩ := hst.out
  have hB2 : Below W.heap.size W w2 := hk2.below hb1 hb1.size (by simp; have := HPW.out; omega)
  have hG2' : ∀ x ∈ G2, W.heap.size ≤ x := fun x hx => by
    rcases hG2 x hx with h | h
    · simp at h; have := HPW.out; omega
    · exact Nat.le_trans hb1.size h
  clear hst hG2 hk2 o1 hb1
  have hlen2 : (shortL n ++ l).length + m ≤ 140737488354000 := by
    rw [List.length_append]; have := HS.out.1; have := HL.out.1; have := HN.out; omega
  go_wp2_with (first | (at_builtin; refine Stopped.out ?_) | (at_make; refine Stopped.out ?_))
  refine (Bytes_any _ o2 (hb.below hB2) (fun ad e h0 hx => by have h1 := HP.out.2 ad e h0; have h2 := hG2' _ hx; omega) m hlen2).mono ?_
  rintro e w3 ⟨rfl, hst⟩
  rw [show cutF (m : Int) m 0 = 0 by simp [cutF], show putL (shortL n ++ l) 0 (shortL m ++ r) = shortL n ++ l ++ (shortL m ++ r) from rfl] at hst
  obtain ⟨G, o3, hk3, hG3⟩ := hst.out
  have hB3 : Below W.heap.size W w3 := hk3.below hB2 hB2.size hG2'
  have hG : ∀ x ∈ G, W.heap.size ≤ x := fun x hx => by
    rcases hG3 x hx with h | h
    · exact hG2' x h
    · exact Nat.le_trans hB2.size h
  clear hst hG2' hG3 hk3 o2 hB2 hlen2
  obtain ⟨L, hL⟩ : ∃ L, L = shortL n ++ l ++ (shortL m ++ r) := ⟨_, rfl⟩
  rw [← hL] at o3
  have hLl : L.length ≤ 200000 ∧ 2 ≤ L.length := by
    have hs1 : ∀ x, 1 ≤ (shortL x).length := fun x => by unfold shortL; split <;> simp
    have := hs1 n; have := hs1 m
    rw [hL]; simp; have := HS.out; have := HL.out; have := HN.out; omega
  have HLL := Lib.hid hLl
  have hb1r := bytR_back [] l (shortL r.length ++ r) n (by have := HL.out; omega) (by have := HL.out; omega)
  have hb2r := bytR_back (shortL l.length ++ l) r [] m (by have := HL.out; omega) (by have := HL.out; omega)
  rw [show ([] : List UInt8) ++ (shortL l.length ++ l ++ (shortL r.length ++ r)) = L by rw [hL, HL.out.1, HL.out.2]; simp] at hb1r
  rw [List.length_nil] at hb1r
  rw [show shortL l.length ++ l ++ (shortL r.length ++ r ++ []) = L by rw [hL, HL.out.1, HL.out.2]; simp] at hb2r
  have hend : (shortL l.length).length + l.length + ((shortL r.length).length + r.length) = L.length := by rw [hL, HL.out.1, HL.out.2]; simp; have := HL.out; omega
  rw [List.length_append] at hb2r
  have HBR := Lib.hid (And.intro hb1r (And.intro hb2r hend))
  clear hL hLl hb1r hb2r hend
  have HD := Lib.hid (show doneL L 0 = L from rfl)
  go_wp2_with (first | (at_builtin; refine Stopped.out ?_) | (at_make; refine Stopped.out ?_))
  refine (Done_any _ o3 (by have := HLL.out; omega)).mono ?_
  rintro e w4 ⟨v1, rfl, q1, hb4⟩
  rw [HD.out] at q1
  have M4 : Many w4 5 W.heap.size G [v1] [L] := (Many.nil w3 _ _ _).new hb4 q1 (Nat.le_refl _) hB3.size o3.lts
  obtain ⟨A1, c1, rfl, -, -⟩ := own_sl q1
  have o4 := o3.below hb4
  have hB4 := bthen hB3 hb4
  clear o3 q1 hb4 hB3
  go_wp2_with (first | (at_builtin; refine Stopped.out ?_) | (at_make; refine Stopped.out ?_))
  refine (Done_any _ o4 (by have := HLL.out; omega)).mono ?_
  rintro e w5 ⟨v2, rfl, q2, hb5⟩
  rw [HD.out] at q2
  have M5 : Many w5 5 W.heap.size G [.slice A1 L.length c1, v2] [L, L] := M4.new hb5 q2 (Nat.le_refl _) hB4.size o4.lts
  obtain ⟨A2, c2, rfl, -, -⟩ := own_sl q2
  have o5 := o4.below hb5
  have hB5 := bthen hB4 hb5
  clear o4 q2 hb5 hB4 M4
  have i2 : decide ((L.length : Int) < 2) = false := decide_eq_false (by have := HLL.out; omega)
  go_wp2_with (first | (at_builtin; refine Stopped.out ?_) | (at_make; refine Stopped.out ?_))
  refine (same09 _ (own_sl' (M5.own 0 _ _ rfl rfl)).2.1 (own_sl' (M5.own 1 _ _ rfl rfl)).2.1).mono ?_
  rintro e w6 ⟨rfl, hd⟩
  rw [decide_eq_true rfl]
  have M6 := M5.below hd.below
  have o6 := o5.below hd.below
  have hB6 := bthen hB5 hd.below
  clear M5 o5 hB5 hd
  go_wp2_with (first | (at_builtin; refine Stopped.out ?_) | (at_make; refine Stopped.out ?_))
  refine Stopped.mk (ap_own EBa rfl (.tmp 73) (.tmp 74) rfl rfl (World.ownsRow_lit (base := w6.heap.size) _ #[] 0 (by simp) (by decide) rfl) rfl ((own_sl' (M6.own 0 _ _ rfl rfl)).2.1.alloc _) (u8_one _) (by simp only [maxLen]; have := HLL.out; omega) (by have := HLL.out; omega) (by simp) ?_)
  intro v7 w7 q7 hg7 _
  have hb7 : Below w6.heap.size w6 w7 := ((Below.refl _ w6).alloc (Nat.le_refl _) _).grown hg7 (by simp) (fun k hk => (Option.some.inj hk) ▸ Nat.le_refl _)
  rw [List.nil_append, Nat.zero_add] at q7
  have o7 := o6.below hb7
  have hB7 := bthen hB6 hb7
  have M7 : Many w7 5 W.heap.size (G ++ v7.ownBlock.toList) [.slice A1 L.length c1, .slice A2 L.length c2] [L, L] := (M6.more (fun x hx => by
    rcases List.mem_append.1 hx with h | h
    · exact .inl h
    · exact .inr (q7.lt x (by simpa using h)).1)).below hb7
  have hX7 : ∀ x ∈ G ++ v7.ownBlock.toList, W.heap.size ≤ x ∧ x < w7.heap.size := fun x hx => by
    rcases List.mem_append.1 hx with h | h
    · exact ⟨hG x h, o7.lts x h⟩
    · have := q7.lt x (by simpa using h)
      exact ⟨Nat.le_trans hB6.size this.1, this.2⟩
  have hv7 : ∀ x ∈ G, v7.ownBlock ≠ some x := fun x hx e => by have h1 := o6.lts x hx; have h2 := (q7.lt x e).1; omega
  obtain ⟨A7, c7, rfl, -, -⟩ := own_sl q7
  clear M6 o6 hB6 hg7 hb7
  go_wp2_with (first | (at_builtin; refine Stopped.out ?_) | (at_make; refine Stopped.out ?_))
  refine (NewReader_any _ (own_sl' (M7.own 0 _ _ rfl rfl)).2.1 (by have := HLL.out; omega)).mono ?_
  rintro e w8 ⟨p2, R, rfl, r8, hb8, hR⟩
  have o8 := o7.below hb8
  have q8 := own_below q7 hb8
  have hB8 := bthen hB7 hb8
  have M8 := (M7.more (X' := G ++ (Value.slice A7 L.length c7).ownBlock.toList ++ R) (fun x hx => (List.mem_append.1 hx).elim .inl (fun h => .inr (hR x h)))).below hb8
  have hX8 : ∀ x ∈ G ++ (Value.slice A7 L.length c7).ownBlock.toList ++ R, W.heap.size ≤ x ∧ x < w8.heap.size := fun x hx => by
    rcases List.mem_append.1 hx with h | h
    · have := hX7 x h; exact ⟨this.1, Nat.lt_of_lt_of_le this.2 hb8.size⟩
    · exact ⟨Nat.le_trans hB7.size (hR x h), r8.lts x h⟩
  have hp2 : p2 ∈ R := r8.mem
  have hp2G : ∀ x ∈ G ++ (Value.slice A7 L.length c7).ownBlock.toList, x ≠ p2 := fun x hx e => by have h1 := (hX7 x hx).2; have h2 := hR p2 hp2; omega
  clear M7 o7 q7 hB7 hb8 hX7 hR
  go_wp2_with (first | (at_builtin; refine Stopped.out ?_) | (at_make; refine Stopped.out ?_))
  refine (Rd_Bytes _ r8 n (by omega)).mono ?_
  rintro e w9 ⟨hk9, hr9⟩
  rw [HBR.out.1.1, HBR.out.1.2] at hr9
  obtain ⟨v9, rfl, r9, q9⟩ := hr9
  have M9 := M8.newK hk9 (by intro x hx; simp at hx; subst hx; exact List.mem_append_right _ hp2) q9 (Nat.le_refl _) hB8.size (fun x hx => (hX8 x hx).2)
  obtain ⟨A9, c9, rfl, -, -⟩ := own_sl q9
  have o9 := o8.keep hk9 (fun x hx h => hp2G x (List.mem_append_left _ hx) (by simpa using h))
  have q9' := hk9.own q8 (fun k hk h => hp2G k (List.mem_append_right _ (by simp [hk])) (by simpa using h))
  have hB9 : Below W.heap.size W w9 := hk9.below hB8 hB8.size (by intro x hx; simp at hx; subst hx; exact (hX8 _ (List.mem_append_right _ hp2)).1)
  have hX9 : ∀ x ∈ G ++ (Value.slice A7 L.length c7).ownBlock.toList ++ R, W.heap.size ≤ x ∧ x < w9.heap.size := fun x hx => ⟨(hX8 x hx).1, Nat.lt_of_lt_of_le (hX8 x hx).2 hk9.size⟩
  clear M8 o8 q8 hB8 hk9 r8 hX8 q9
  rw [Nat.zero_add] at r9
  go_wp2_with (first | (at_builtin; refine Stopped.out ?_) | (at_make; refine Stopped.out ?_))
  refine (Rd_Bytes _ r9 m (by omega)).mono ?_
  rintro e w10 ⟨hk10, hr10⟩
  rw [HBR.out.2.1.1, HBR.out.2.1.2] at hr10
  obtain ⟨v10, rfl, r10, q10⟩ := hr10
  have M10 := M9.newK hk10 (by intro x hx; simp at hx; subst hx; exact List.mem_append_right _ hp2) q10 (Nat.le_refl _) hB9.size (fun x hx => (hX9 x hx).2)
  obtain ⟨A10, c10, rfl, -, -⟩ := own_sl q10
  have o10 := o9.keep hk10 (fun x hx h => hp2G x (List.mem_append_left _ hx) (by simpa using h))
  have q10' := hk10.own q9' (fun k hk h => hp2G k (List.mem_append_right _ (by simp [hk])) (by simpa using h))
  have hB10 : Below W.heap.size W w10 := hk10.below hB9 hB9.size (by intro x hx; simp at hx; subst hx; exact (hX9 _ (List.mem_append_right _ hp2)).1)
  have hX10 : ∀ x ∈ G ++ (Value.slice A7 L.length c7).ownBlock.toList, W.heap.size ≤ x ∧ x < w10.heap.size := fun x hx => ⟨(hX9 x (List.mem_append_left _ hx)).1, Nat.lt_of_lt_of_le (hX9 x (List.mem_append_left _ hx)).2 hk10.size⟩
  have M10' := M10.more (X' := G ++ (Value.slice A7 L.length c7).ownBlock.toList) (fun x hx => .inl (List.mem_append_left _ hx))
  rw [HBR.out.2.2] at r10
  clear M9 o9 q9' hB9 hk10 r9 hX9 q10 M10
  go_wp2_with (first | (at_builtin; refine Stopped.out ?_) | (at_make; refine Stopped.out ?_))
  refine (same09 _ (own_sl' (M10'.own 2 _ _ rfl rfl)).2.1 (ha.below hB10)).mono ?_
  rintro e w11 ⟨rfl, hd⟩
  rw [decide_eq_true rfl]
  have M11 := M10'.below hd.below
  have o11 := o10.below hd.below
  have q11 := own_below q10' hd.below
  have hB11 := bthen hB10 hd.below
  have r11 := r10.below hd.below
  have hX11 : ∀ x ∈ G ++ (Value.slice A7 L.length c7).ownBlock.toList, W.heap.size ≤ x ∧ x < w11.heap.size := fun x hx => ⟨(hX10 x hx).1, Nat.lt_of_lt_of_le (hX10 x hx).2 hd.below.size⟩
  clear M10' o10 q10' hB10 hd r10 hX10
  go_wp2_with (first | (at_builtin; refine Stopped.out ?_) | (at_make; refine Stopped.out ?_))
  refine (same09 _ (own_sl' (M11.own 3 _ _ rfl rfl)).2.1 (hb.below hB11)).mono ?_
  rintro e w12 ⟨rfl, hd⟩
  rw [decide_eq_true rfl]
  have M12 := M11.below hd.below
  have o12 := o11.below hd.below
  have q12 := own_below q11 hd.below
  have hB12 := bthen hB11 hd.below
  have r12 := r11.below hd.below
  have hX12 : ∀ x ∈ G ++ (Value.slice A7 L.length c7).ownBlock.toList, W.heap.size ≤ x ∧ x < w12.heap.size := fun x hx => ⟨(hX11 x hx).1, Nat.lt_of_lt_of_le (hX11 x hx).2 hd.below.size⟩
  clear M11 o11 q11 hB11 hd r11 hX11
  go_wp2_with (first | (at_builtin; refine Stopped.out ?_) | (at_make; refine Stopped.out ?_))
  refine (Rd_Done _ r12).mono ?_
  rintro e w13 ⟨rfl, hd⟩
  rw [show doneR L L.length 0 = 0 by simp [doneR]]
  have M13 := M12.below hd.below
  have o13 := o12.below hd.below
  have q13 := own_below q12 hd.below
  have hB13 := bthen hB12 hd.below
  have hX13 : ∀ x ∈ G ++ (Value.slice A7 L.length c7).ownBlock.toList, W.heap.size ≤ x ∧ x < w13.heap.size := fun x hx => ⟨(hX12 x hx).1, Nat.lt_of_lt_of_le (hX12 x hx).2 hd.below.size⟩
  clear M12 o12 q12 hB12 hd r12 hX12
  obtain ⟨vs, hvs⟩ : ∃ vs, vs = [Value.slice A1 L.length c1, .slice A2 L.length c2] ++ [.slice A9 l.length c9] ++ [.slice A10 r.length c10] := ⟨_, rfl⟩
  rw [← hvs] at M13
  have hv4 : vs.length = 4 := by rw [hvs]; rfl
  have hvA : vs.toArray = #[.slice A1 L.length c1, .slice A2 L.length c2, .slice A9 l.length c9, .slice A10 r.length c10] := by rw [hvs]; rfl
  have Z := Sl.fresh w13 vs 24 4 1 (by rw [hv4]) (by decide)
  obtain ⟨ls, hls⟩ : ∃ ls, ls = ([L, L] ++ [l] ++ [r]) := ⟨_, rfl⟩
  rw [← hls] at M13
  have hml : ∀ x ∈ ls, x.length ≤ 200000 := fun x hx => by
    have := HL.out.1; have := HL.out.2; have := HN.out; have := HLL.out
    rw [hls] at hx
    simp at hx
    rcases hx with h | h | h <;> (rw [h]; omega)
  have hbz : Below w13.heap.size w13 (w13.alloc (.cells vs.toArray 24)) := (Below.refl _ _).alloc (Nat.le_refl _) _
  have hzz : ∀ (i : Nat) v b, vs[i]? = some v → v.ownBlock = some b → b ≠ w13.heap.size := fun i v b hv hb => by
    have := (M13.lt hv hb).2
    omega
  have HA : ∃ X I, Fr X I ∧ AllX W (w13.alloc (.cells vs.toArray 24)) 5 X I w13.heap.size vs vs ls 200000 ∧ ∀ w, I w → (∃ G, Ob 104 w p G L 0) ∧ w.ownsRow w6.heap.size 5 1 (.slice A7 L.length c7) L.length (L.map by8) :=
    ⟨G ++ (Value.slice A7 L.length c7).ownBlock.toList, fun w => Ob 104 w p G L 0 ∧ w.ownsRow w6.heap.size 5 1 (.slice A7 L.length c7) L.length (L.map by8),
      ⟨fun M w w' hk hM hw => ⟨hw.1.keep hk (fun x hx hxM => hM x hxM (List.mem_append_left _ hx)), hk.own hw.2 (fun k hk2 hkM => hM k hkM (List.mem_append_right _ (by simp [hk2])))⟩⟩,
      ⟨M13.below hbz, ⟨o13.below hbz, own_below q13 hbz⟩, bthen hB13 hbz, fun x hx => ⟨(hX13 x hx).1, Nat.lt_of_lt_of_le (hX13 x hx).2 hbz.size⟩, by rw [hv4]; exact Z, fun i v h => h, hzz, hml⟩, fun w hw => ⟨⟨G, hw.1⟩, hw.2⟩⟩
  obtain ⟨X, I, F, hA, hI⟩ := HA
  have HI := Lib.hid hI
  obtain ⟨W2, hW2⟩ : ∃ W2, W2 = w13.alloc (.cells vs.toArray 24) := ⟨_, rfl⟩
  obtain ⟨z, hz⟩ : ∃ z, z = w13.heap.size := ⟨_, rfl⟩
  rw [← hW2, ← hz] at hA
  rw [hvA] at hW2
  have HA := Lib.hid hA
  clear hvs hls hvA Z hml hzz hbz hA hI M13 o13 q13 hB13 hX13
  go_wp2_with (first | (at_builtin; refine Stopped.out ?_) | (at_make; refine Stopped.out ?_))
  rw [← hW2, ← hz]
  clear hz hW2
  go_loopw [15] (fun i wr => ∃ (j : Nat), j ≤ 4 ∧ i = .int .i64 j ∧ AllSt W wr 5 X I z vs vs 200000 j) (fun i _ => 4 - (intOf i).toNat)
  case atStart => exact ⟨0, by omega, rfl, ls, HA.out, fun t l h => by omega⟩
  case round =>
    obtain ⟨j, hj, rfl, hA⟩ := hrel
    by_cases hlt : j < 4
    · have hj0 : (0 : Int) ≤ (j : Int) := Int.natCast_nonneg _
      have hj1 : (j : Int) < 4 := by omega
      obtain ⟨Av, m2, cv, hv, hm2, g0, hR⟩ := hA.row (j := j) (by omega)
      have HR := Lib.hid hR
      clear hA hR g0
      go_wp2
      go_loopw [16] (fun i wr => ∃ (k : Nat), k ≤ m2 ∧ i = .int .i64 k ∧ RowSt W wr 5 X I z vs vs 200000 j k m2) (fun i _ => m2 - (intOf i).toNat)
      case atStart => exact ⟨0, by omega, rfl, HR.out⟩
      case round =>
        clear HR
        obtain ⟨k, hk, rfl, hR⟩ := hrel
        have g0 := hR.cell (by omega) hv
        by_cases hkl : k < m2
        · have hk0 : (0 : Int) ≤ (k : Int) := Int.natCast_nonneg _
          have hk1 : (k : Int) < (m2 : Int) := by omega
          obtain ⟨gb, rfl, ⟨v0, hc0⟩, hf0, hN⟩ := hR.store F hv hkl
          have HN := Lib.hid hN
          clear hR hN
          go_wp2
          first | go_roundw | refine ⟨?rel, ?measure⟩
          case rel => exact ⟨k + 1, by omega, by go_num, by have := HN.out; rwa [show (((j + 1) % 256 : Nat) : Int) = (j : Int) + 1 by omega] at this⟩
          case measure => simp [intOf]; omega
        · obtain rfl : k = m2 := by omega
          have HD := Lib.hid hR.done
          clear hR
          go_wp2
          first | go_roundw | refine ⟨?rel, ?measure⟩
          case rel => exact ⟨j + 1, by omega, by go_num, HD.out⟩
          case measure => simp [intOf]; omega
    · have HJ := Lib.hid (show j = 4 by omega)
      obtain ⟨lm, hX, hmk⟩ := hA
      rw [HJ.out] at hmk
      have HMK := Lib.hid hmk
      have HX1 := Lib.hid hX
      clear hX hmk HA
      go_wp2
      go_loopw [17] (fun i w5 => ∃ (j : Nat), j ≤ 4 ∧ i = .int .i64 j ∧ AllX W w5 5 X I z vs vs lm 200000) (fun i _ => 4 - (intOf i).toNat)
      case atStart => exact ⟨0, by omega, rfl, HX1.out⟩
      case round =>
        clear HX1
        obtain ⟨j, hj, rfl, hA⟩ := hrel
        by_cases hlt : j < 4
        · have hj0 : (0 : Int) ≤ (j : Int) := Int.natCast_nonneg _
          have hj1 : (j : Int) < 4 := by omega
          have HA1 := Lib.hid hA
          clear hA
          obtain ⟨w22, rfl⟩ : ∃ x, x = wr := ⟨_, rfl⟩
          go_wp2
          go_loopw [18, 19] (fun o i w5 => ∃ (k : Nat) (vt : Value), k ≤ 64 ∧ i = .int .i64 k ∧ o = vt ∧ w5.ownsRow w22.heap.size 5 1 vt k ((List.replicate k (100 : UInt8)).map by8) ∧ Below w22.heap.size w22 w5) (fun _ i _ => 64 - (intOf i).toNat)
          case atStart => exact ⟨0, _, by omega, rfl, rfl, World.ownsRow_nil .., Below.refl _ _⟩
          case round =>
            obtain ⟨k, vt, hk, rfl, rfl, hst, hbl⟩ := hrel
            by_cases hkl : k < 64
            · have hk0 : (0 : Int) ≤ (k : Int) := Int.natCast_nonneg _
              have hk1 : (k : Int) < 64 := by omega
              go_wp2_with (first | (at_builtin; refine Stopped.out ?_) | (at_make; refine Stopped.out ?_))
              refine Stopped.mk (ap_own EBa rfl (.tmp 138) (.tmp 139) rfl rfl (hst.alloc _) rfl (Sl.fresh wr [.int .u8 100] 5 1 1 rfl (by decide)) (by simp [Value.oneCell']) (by simp only [maxLen]; omega) (by omega) (by have := hbl.size; simp; omega) ?_)
              intro v2 w2 hst2 hg2 _
              have HN := Lib.hid (And.intro hst2 ((hbl.alloc hbl.size _).grown hg2 (by have := hbl.size; simp; omega) (fun k hk => (hst.lt k hk).1)))
              clear hst hbl hst2 hg2
              go_wp2
              first | go_roundw | refine ⟨?rel, ?measure⟩
              case rel => exact ⟨k + 1, v2, by omega, by go_num, rfl, by rw [List.replicate_succ', List.map_append]; exact HN.out.1, HN.out.2⟩
              case measure => simp [intOf]; omega
            · have HK := Lib.hid (show k = 64 by omega)
              rw [HK.out] at hst
              have hT := HA1.out.new F hbl (v := u18) (l := List.replicate 64 100) (by simpa using hst) (HA1.out.zlt (by omega)) (by simp)
              obtain ⟨va, hva⟩ : ∃ va, va = vs ++ [u18] := ⟨_, rfl⟩
              obtain ⟨la, hla⟩ : ∃ la, la = lm ++ [List.replicate 64 (100 : UInt8)] := ⟨_, rfl⟩
              rw [← hva, ← hla] at hT
              have hlm : lm.length = 4 := by rw [← HA1.out.many.len]; exact hv4
              have hva4 : va[4]? = some u18 := by rw [hva, List.getElem?_append_right (by omega), hv4]; rfl
              have hla4 : la[4]? = some (List.replicate 64 (100 : UInt8)) := by rw [hla, List.getElem?_append_right (by omega), hlm]; rfl
              have HT := Lib.hid (And.intro hva4 hla4)
              have HBK := Lib.hid (fun (w : World) (h : AllX W w 5 X I z vs va la 200000) => show AllX W w 5 X I z vs vs lm 200000 from
                h.short hva hla HA1.out)
              obtain ⟨gt, ct, rfl, hct, -, -⟩ := hT.markRow hva4 hla4 (by decide)
              obtain ⟨Av, cv, x, hv, hx, o, g0, hm2⟩ := hT.row j (by omega)
              obtain ⟨B0, hB0⟩ : ∃ B0, B0 = wr.heap.size := ⟨_, rfl⟩
              have HR := Lib.hid (TailSt.start (c := 100) hT hv hx rfl (hT.zlt (by omega)) hB0)
              obtain ⟨m2, hm2e⟩ : ∃ m2, m2 = x.length := ⟨_, rfl⟩
              rw [← hm2e] at hv g0 hm2 HR
              clear hT o hx hB0 hm2e hst hbl hva hla hva4 hla4 HA1 hlm
              go_wp2
              go_loopw [21, 22] (fun o i w5 => ∃ (q : Nat) (vl : Value), q ≤ 64 ∧ i = .int .i64 q ∧ o = vl ∧ TailSt W w5 5 X I z vs va la 200000 j m2 B0 100 vl q) (fun _ i _ => 64 - (intOf i).toNat)
              case atStart => exact ⟨0, _, by omega, rfl, rfl, HR.out⟩
              case round =>
                clear HR g0
                obtain ⟨k, vl, hk, rfl, rfl, hT⟩ := hrel
                obtain ⟨_, _, e, _, st, hst⟩ := hT.x.markRow HT.out.1 HT.out.2 (by decide)
                injection e with e1 _ e3
                injection e1 with e1
                injection e1 with e1 _ _
                subst e1; subst e3
                by_cases hkl : k < 64
                · have hk0 : (0 : Int) ≤ (k : Int) := Int.natCast_nonneg _
                  have hk1 : (k : Int) < 64 := by omega
                  have gq : wr.cell? ⟨gt, k, none⟩ = some (.int .u8 100) := hst k hkl
                  clear hst st
                  go_wp2_with (first | (at_builtin; refine Stopped.out ?_) | (at_make; refine Stopped.out ?_))
                  have hTa := hT.below F (w' := wr.alloc (.cells #[.int .u8 100] 5)) ((Below.refl _ _).alloc (Nat.le_refl _) _)
                  obtain ⟨xs, ox, hxs⟩ := hTa.own
                  refine Stopped.mk (apx_own EBa rfl (.tmp 156) (.tmp 161) rfl rfl ox rfl (Sl.fresh wr [.int .u8 100] 5 1 1 rfl (by decide)) (by simp [Value.oneCell']) (by simp only [maxLen]; omega) (by omega) hTa.x.below.size ?_)
                  intro v2 w2 hst2 hg2 hb2 hk2
                  have HN := Lib.hid (hTa.step F (by rw [← hxs]; exact hst2) hg2 hb2 hk2)
                  clear hTa hT ox hxs hst2 hg2 hb2 hk2 gq
                  go_wp2
                  first | go_roundw | refine ⟨?rel, ?measure⟩
                  case rel => exact ⟨k + 1, v2, by omega, by go_num, rfl, HN.out⟩
                  case measure => simp [intOf]; omega
                · have HK := Lib.hid (show k = 64 by omega)
                  rw [HK.out] at hT
                  obtain ⟨gv, cp, rfl, hcp, sv⟩ := hT.done (by decide)
                  have q1 : (m2 : Int) ≤ (cp : Int) := by omega
                  have q2 : ¬ cp = m2 := by omega
                  clear hst
                  rw [show List.replicate 64 (UInt8.ofNat 100) = List.replicate 64 (100 : UInt8) from rfl] at sv
                  have s12 := same09 wr sv st
                  rw [decide_eq_true rfl] at s12
                  have HS := Lib.hid s12
                  clear s12 sv st
                  go_wp2_with (first | (at_builtin; refine Stopped.out ?_) | (at_make; refine Stopped.out ?_))
                  refine HS.out.mono ?_
                  rintro e w9 ⟨rfl, hd⟩
                  have HN := Lib.hid (HBK.out _ (hT.x.then_ F hd.below))
                  clear hT hd HS
                  go_wp2
                  first | go_roundw | refine ⟨?rel, ?measure⟩
                  case rel => exact ⟨j + 1, by omega, by go_num, HN.out⟩
                  case measure => simp [intOf]; omega
        · have HJ3 := Lib.hid (show j = 4 by omega)
          obtain ⟨⟨Gf, of⟩, _⟩ := HI.out _ hA.i
          go_wp2_with (first | (at_builtin; refine Stopped.out ?_) | (at_make; refine Stopped.out ?_))
          refine (Done_any _ of (by have := HLL.out; omega)).mono ?_
          rintro e w30 ⟨v30, rfl, q30, hb30⟩
          rw [HD.out] at q30
          obtain ⟨A30, c30, rfl, s30, -⟩ := own_sl q30
          have HX := Lib.hid (And.intro (hA.then_ F hb30) s30)
          clear hA of q30 hb30 s30
          go_wp2
          go_loopw [25] (fun i w5 => ∃ (j : Nat), j ≤ 4 ∧ i = .int .i64 j ∧ AllX W w5 5 X I z vs vs lm 200000 ∧ Sl w5 1 A30 L.length c30 (L.map by8)) (fun i _ => 4 - (intOf i).toNat)
          case atStart => exact ⟨0, by omega, rfl, HX.out.1, HX.out.2⟩
          case round =>
            clear HX
            obtain ⟨j, hj, rfl, hA, hs30⟩ := hrel
            by_cases hlt : j < 4
            · have hj0 : (0 : Int) ≤ (j : Int) := Int.natCast_nonneg _
              have hj1 : (j : Int) < 4 := by omega
              obtain ⟨Av, cv, x, hv, hx, o, g0, hm2⟩ := hA.row j (by omega)
              have hxm := HMK.out j x (by omega) hx
              obtain ⟨m2, hm2e⟩ : ∃ m2, m2 = x.length := ⟨_, rfl⟩
              have HX2 := Lib.hid (And.intro (And.intro hA hs30) (And.intro o hxm))
              rw [← hm2e] at hv g0 hm2 HX2
              clear hA hs30 o hx hm2e hxm
              go_wp2
              go_loop [26] (fun i => ∃ (k : Nat), k ≤ m2 ∧ i = .int .i64 k) (fun i => m2 - (intOf i).toNat)
              case atStart => exact ⟨0, by omega, rfl⟩
              case round =>
                obtain ⟨k, hk, rfl⟩ := hrel
                by_cases hkl : k < m2
                · have hk0 : (0 : Int) ≤ (k : Int) := Int.natCast_nonneg _
                  have hk1 : (k : Int) < (m2 : Int) := by omega
                  obtain ⟨_, so, _⟩ := own_sl' HX2.out.2.1
                  obtain ⟨gb, off, rfl⟩ := so.form (by omega)
                  have gk := so.byte k hkl
                  rw [HX2.out.2.2 k hkl, show ((j + 1) % 256 : Nat) = j + 1 by omega] at gk
                  have e2 : ((j + 1 : Nat) : Int) = (j : Int) + 1 := by omega
                  rw [e2] at gk
                  clear so e2
                  go_wp2
                  first | go_round | refine ⟨?rel, ?measure⟩
                  case rel => exact ⟨k + 1, by omega, by go_num⟩
                  case measure => simp [intOf]; omega
                · have HK2 := Lib.hid (show k = m2 by omega)
                  go_wp2
                  first | go_roundw | refine ⟨?rel, ?measure⟩
                  case rel => exact ⟨j + 1, by omega, by go_num, HX2.out.1.1, HX2.out.1.2⟩
                  case measure => simp [intOf]; omega
            · have HJ4 := Lib.hid (show j = 4 by omega)
              have sk := (own_sl' (HI.out _ hA.i).2).2.1
              have HB := Lib.hid hA.below
              clear hA
              go_wp2_with (first | (at_builtin; refine Stopped.out ?_) | (at_make; refine Stopped.out ?_))
              refine (same09 _ hs30 sk).mono ?_
              rintro e w40 ⟨rfl, hd⟩
              rw [decide_eq_true rfl]
              go_wp2
              go_ret
              exact ⟨rfl, bthen HB.out hd.below⟩
end Go.Proofs.Ytdooabbeolfgfaa
