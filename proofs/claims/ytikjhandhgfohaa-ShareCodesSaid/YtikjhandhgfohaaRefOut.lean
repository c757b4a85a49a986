import Derived.Test.YtikjhandhgfohaaWriter
set_option linter.unusedVariables false
set_option linter.unusedSimpArgs false
namespace Go.Proofs.Ytikjhandhgfohaa
open Go.RowKit
set_option maxRecDepth 100000 in
set_option maxHeartbeats 800000 in
theorem refPut (w : World) {p : Nat} {G : List Nat} {l : List UInt8} {f : Nat} (h : Ob 55 w p G l f) {A : Option Addr} {m c : Nat} {news : List UInt8} (hs : Sl w 1 A m c (news.map by8)) (hb : l.length + m ≤ 140737488355328) :
    Calls Try.prog 41 #[.pointer (some ⟨p, 0, none⟩), .slice A m c] w fun e w' => e = .returned (.tuple #[]) ∧ Stepped 55 w w' p G (putL l f news) f := by
  obtain ⟨v, hblk, hown, hv⟩ := h.out
  obtain ⟨A0, c0, rfl, s0, _⟩ := own_sl hown
  have g0 := box_cell hblk 0 (.slice A0 l.length c0) rfl
  have g1 := box_cell hblk 1 (.int .i64 f) rfl
  have hp := h.lt
  have hm := h.mem; have hlts := h.lts
  have HB := Lib.hid hblk
  have hnl : news.length = m := by simpa using hs.len
  have HN := Lib.hid hnl
  clear hblk hnl hown
  by_cases hf : f = 0
  · subst hf
    have HP : Hid (putL l 0 news = l ++ news) := Lib.hid rfl
    rw [HP.out]
    go_enter Try.func41, Try.ntmps41
    go_wp2_with (first | (at_builtin; refine Stopped.out ?_) | (at_make; refine Stopped.out ?_))
    refine Stopped.mk (ap_own EB rfl (.tmp 10) (.tmp 14) rfl rfl (World.ownsRow_nil w w.heap.size 5 1) rfl s0 (u8_one l) (by simp only [maxLen]; omega) (by omega) (Nat.le_refl _) ?_)
    intro v1 w1 o1 hg1 _
    have hb1 : Below w.heap.size w w1 := (Below.refl _ w).grown hg1 (Nat.le_refl _) (fun k hk => by cases hk)
    rw [List.nil_append, Nat.zero_add] at o1
    have hs1 := hs.below hb1
    clear hg1 s0
    go_wp2_with (first | (at_builtin; refine Stopped.out ?_) | (at_make; refine Stopped.out ?_))
    refine Stopped.mk (ap_own EB rfl (.tmp 17) (.tmp 18) rfl rfl o1 rfl hs1 (u8_one news) (by simp only [maxLen]; omega) (by omega) hb1.size ?_)
    intro v2 w2 o2 hg2 _
    have hb2 : Below w.heap.size w w2 := hb1.grown hg2 hb1.size (fun k hk => (o1.lt k hk).1)
    have hpb := heap_below HB.out hb2
    have d0 := box_cell hpb 0 (.slice A0 l.length c0) rfl
    have f0 := box_free hpb 0
    have HK : Hid (Stepped 55 w (w2.setCell ⟨p, 0, none⟩ v2) p G (l ++ news) 0) := Lib.hid (by
      have k2 : Keep [p] w2 (w2.setCell ⟨p, 0, none⟩ v2) := (Keep.refl [p] w2).setCell (.inl (by simp)) _
      have hne : ∀ k, v2.ownBlock = some k → w.heap.size ≤ k := fun k hk => (o2.lt k hk).1
      refine ⟨(v2.ownBlock.toList) ++ G, ⟨⟨v2, ?_, ?_, ?_⟩, List.mem_append_right _ hm, ?_⟩, (Keep.of_below hb2 G).setCell (.inl hm) _, ?_⟩
      · have := heap_setCell_same w2 p 0 _ _ v2 hpb
        simpa using this
      · have h5 := k2.own (own_mono o2 (Nat.zero_le _)) (fun k hk => by have := hne k hk; simp; omega)
        rw [List.length_append, HN.out, List.map_append]
        exact h5
      · intro k hk
        exact ⟨by have := hne k hk; omega, List.mem_append_left _ (by simp [hk])⟩
      · intro x hx
        rcases List.mem_append.1 hx with h | h
        · have := (o2.lt x (by simpa using h)).2
          simpa using this
        · have := Nat.lt_of_lt_of_le (hlts x h) hb2.size
          simpa using this
      · intro x hx
        rcases List.mem_append.1 hx with h | h
        · exact .inr (hne x (by simpa using h))
        · exact .inl h)
    obtain ⟨A2, c2, rfl, _, _⟩ := own_sl o2
    clear hg2 hpb hs1 o1 o2
    go_wp2
    go_end0
    exact ⟨rfl, HK.out⟩
  · have HP : Hid (putL l f news = l) := Lib.hid (by rw [putL, if_neg hf])
    rw [HP.out]
    have hz : ((f : Int) == 0) = false := by simp; omega
    clear hf
    go_enter Try.func41, Try.ntmps41
    go_wp2
    go_end0
    exact ⟨rfl, G, h, Keep.refl _ _, fun x hx => .inl hx⟩
set_option maxHeartbeats 400000 in
theorem refFail (w : World) {p : Nat} {G : List Nat} {l : List UInt8} {f : Nat} (h : Ob 55 w p G l f) (g : Nat) :
    Calls Try.prog 55 #[.pointer (some ⟨p, 0, none⟩), .int .i64 g] w fun e w' => e = .returned (.tuple #[]) ∧ Stepped 55 w w' p G l (if f = 0 then g else f) := by
  obtain ⟨v, hblk, hown, hv⟩ := h.out
  have c1 := box_cell hblk 1 (.int .i64 f) rfl
  have f1 := box_free hblk 1
  have hm := h.mem; have hlts := h.lts
  by_cases hf : f = 0
  · subst hf
    rw [if_pos rfl]
    have HK : Hid (Stepped 55 w (w.setCell ⟨p, 1, none⟩ (.int .i64 g)) p G l g) := Lib.hid (by
      have k2 : Keep [p] w (w.setCell ⟨p, 1, none⟩ (.int .i64 g)) := (Keep.refl [p] w).setCell (.inl (by simp)) _
      refine ⟨G, ⟨⟨v, ?_, k2.own hown (fun k hk => by have := (hv k hk).1; simpa using this), hv⟩, hm, fun x hx => by have := hlts x hx; simpa using this⟩, (Keep.refl G w).setCell (.inl hm) _, fun x hx => .inl hx⟩
      have := heap_setCell_same w p 1 _ _ (.int .i64 g) hblk
      simpa using this)
    clear hblk hown hv
    go_enter Try.func55, Try.ntmps55
    go_wp2
    go_end0
    exact ⟨rfl, HK.out⟩
  · rw [if_neg hf]
    have hz : ((f : Int) == 0) = false := by simp; omega
    clear hf hblk hown hv
    go_enter Try.func55, Try.ntmps55
    go_wp2
    go_end0
    exact ⟨rfl, G, h, Keep.refl _ _, fun x hx => .inl hx⟩
/-! ### what the document lays -/
theorem stBE32_by (x : Nat) (hx : x < 4294967296) : (stBE32 x 4).map by8 = [Value.int .u8 ((x : Int) / 16777216), .int .u8 ((x : Int) / 65536 % 256), .int .u8 ((x : Int) / 256 % 256), .int .u8 ((x : Int) % 256)] := by
  unfold stBE32
  simp [List.range_succ, by8]
  omega
set_option maxRecDepth 100000 in
set_option maxHeartbeats 800000 in
theorem refUint (w : World) (x : Nat) (hx : x < 18446744073709551616) :
    Calls Try.prog 61 #[.int .u64 x] w fun e w' => ∃ v, e = .returned v ∧ w'.ownsRow w.heap.size 5 1 v (shortL x).length ((shortL x).map by8) ∧ Below w.heap.size w w' := by
  have HL := Lib.hid (shortL_len x hx)
  go_enter Try.func61, Try.ntmps61
  go_wp2
  go_loopw [0, 3] (fun x' o wr => ∃ (y : Nat) (b : List UInt8) (v : Value), x' = .int .u64 y ∧ o = v ∧ y < 18446744073709551616 ∧ Hid (b ++ shortL y = shortL x) ∧ wr.ownsRow w.heap.size 5 1 v b.length (b.map by8) ∧ Below w.heap.size w wr) (fun x' _ _ => (intOf x').toNat)
  case atStart => exact ⟨x, [], _, rfl, rfl, hx, Lib.hid rfl, World.ownsRow_nil .., Below.refl _ _⟩
  case round =>
    obtain ⟨y, b, v, rfl, rfl, hy, hbx, hst, hbl⟩ := hrel
    have hbL : b.length ≤ 10 := by have := HL.out; rw [← hbx.out, List.length_append] at this; omega
    by_cases h7 : y < 128
    · have i7 : decide ((128 : Int) ≤ y) = false := decide_eq_false (by omega)
      have hw : IntKind.u8.wrap (y : Int) = y := by rw [IntKind.wrap_u8]; omega
      go_wp2_with (first | (at_builtin; refine Stopped.out ?_) | (at_make; refine Stopped.out ?_))
      refine Stopped.mk (ap_own EB rfl _ _ rfl rfl (hst.alloc _) rfl (one_sl wr y (by omega)) (u8_one _) (by simp only [maxLen]; omega) (by omega) (by have := hbl.size; simp; omega) ?_)
      intro v2 w2 hst2 hg2 _
      have HE : Hid (b ++ [UInt8.ofNat y] = shortL x) := Lib.hid (by rw [← hbx.out, shortL_one h7])
      go_wp2
      go_ret
      refine ⟨_, rfl, ?_, (hbl.alloc hbl.size _).grown hg2 (by have := hbl.size; simp; omega) (fun k hk => (hst.lt k hk).1)⟩
      rw [← List.map_append, HE.out] at hst2
      have hL : b.length + 1 = (shortL x).length := by rw [← HE.out]; simp
      rw [← hL]
      exact hst2
    · have i7 : (128 : Int) ≤ y := by omega
      obtain ⟨z, hz⟩ : ∃ z, z = y % 128 + 128 := ⟨_, rfl⟩
      have hzi : (y : Int) % 128 + 128 = (z : Int) := by omega
      have hz2 : z < 256 := by omega
      have HE : Hid (b ++ [UInt8.ofNat z] ++ shortL (y / 128) = shortL x) := Lib.hid (by rw [← hbx.out, shortL_more h7, hz]; simp)
      clear hz
      go_wp2_with (first | (at_builtin; refine Stopped.out ?_) | (at_make; refine Stopped.out ?_))
      refine Stopped.mk (ap_own EB rfl _ _ rfl rfl (hst.alloc _) rfl (one_sl wr z hz2) (u8_one _) (by simp only [maxLen]; omega) (by omega) (by have := hbl.size; simp; omega) ?_)
      intro v2 w2 hst2 hg2 _
      clear hzi
      go_wp2_with (first | (at_builtin; refine Stopped.out ?_) | (at_make; refine Stopped.out ?_))
      first | go_roundw | refine ⟨?rel, ?measure⟩
      case rel => exact ⟨y / 128, b ++ [UInt8.ofNat z], v2, by go_num, rfl, by omega, HE, by rw [List.length_append, List.map_append]; exact hst2, (hbl.alloc hbl.size _).grown hg2 (by have := hbl.size; simp; omega) (fun k hk => (hst.lt k hk).1)⟩
      case measure => simp [intOf]; omega
theorem u8e {a b : Nat} (h : a % 256 = b % 256) : UInt8.ofNat a = UInt8.ofNat b := by
  apply UInt8.toNat_inj.1
  simpa using h
theorem st64_32 (x : Nat) (hx : x < 18446744073709551616) : stBE64 x 8 = stBE32 (x / 4294967296) 4 ++ stBE32 (x % 4294967296) 4 := by
  unfold stBE64 stBE32
  simp [List.range_succ]
  repeat' apply And.intro
  all_goals (first | rfl | (apply u8e; omega))
/-! ### the document's writer -/
theorem refByte (w : World) {p : Nat} {G : List Nat} {l : List UInt8} {f : Nat} (h : Ob 55 w p G l f) (x : Nat) (hx : x < 256) (hb : l.length ≤ 140737488355000) :
    Calls Try.prog 24 #[.pointer (some ⟨p, 0, none⟩), .int .u8 x] w fun e w' => e = .returned (.tuple #[]) ∧ Stepped 55 w w' p G (putL l f [UInt8.ofNat x]) f := by
  go_enter Try.func24, Try.ntmps24
  go_wp2_with (first | (at_builtin; refine Stopped.out ?_) | (at_make; refine Stopped.out ?_))
  refine (refPut _ (h.below (one_below w _)) (one_sl w x hx) (by omega)).mono ?_
  rintro e w' ⟨rfl, hst⟩
  go_wp2
  go_end0
  exact ⟨rfl, hst.after (one_below w _)⟩
theorem refFixed (w : World) {p : Nat} {G : List Nat} {l : List UInt8} {f : Nat} (h : Ob 55 w p G l f) {A : Option Addr} {m c : Nat} {news : List UInt8} (hs : Sl w 1 A m c (news.map by8)) (hb : l.length + m ≤ 140737488355328) :
    Calls Try.prog 22 #[.pointer (some ⟨p, 0, none⟩), .slice A m c] w fun e w' => e = .returned (.tuple #[]) ∧ Stepped 55 w w' p G (putL l f news) f := by
  go_enter Try.func22, Try.ntmps22
  go_wp2_with (first | (at_builtin; refine Stopped.out ?_) | (at_make; refine Stopped.out ?_))
  refine (refPut _ h hs hb).mono ?_
  rintro e w' ⟨rfl, hst⟩
  go_wp2
  go_end0
  exact ⟨rfl, hst⟩
theorem refOUint (w : World) {p : Nat} {G : List Nat} {l : List UInt8} {f : Nat} (h : Ob 55 w p G l f) (x : Nat) (hx : x < 18446744073709551616) (hb : l.length ≤ 140737488355000) :
    Calls Try.prog 56 #[.pointer (some ⟨p, 0, none⟩), .int .u64 x] w fun e w' => e = .returned (.tuple #[]) ∧ Stepped 55 w w' p G (putL l f (shortL x)) f := by
  have HL := shortL_len x hx
  go_enter Try.func56, Try.ntmps56
  go_wp2_with (first | (at_builtin; refine Stopped.out ?_) | (at_make; refine Stopped.out ?_))
  refine (refUint _ x hx).mono ?_
  rintro e w1 ⟨v, rfl, o1, hb1⟩
  obtain ⟨A1, c1, rfl, s1, _⟩ := own_sl o1
  go_wp2_with (first | (at_builtin; refine Stopped.out ?_) | (at_make; refine Stopped.out ?_))
  refine (refPut _ (h.below hb1) s1 (by omega)).mono ?_
  rintro e w' ⟨rfl, hst⟩
  go_wp2
  go_end0
  exact ⟨rfl, hst.after hb1⟩
set_option maxHeartbeats 400000 in
theorem refCount (w : World) {p : Nat} {G : List Nat} {l : List UInt8} {f : Nat} (h : Ob 55 w p G l f) (m : Nat) (hm : m ≤ 9223372036854775807) (most : Int) (hb : l.length ≤ 140737488355000) :
    Calls Try.prog 42 #[.pointer (some ⟨p, 0, none⟩), .int .i64 m, .int .i64 most] w fun e w' => e = .returned (.tuple #[]) ∧ Stepped 55 w w' p G (putL l (cutF most m f) (shortL m)) (cutF most m f) := by
  have hcv : IntKind.u64.wrap (m : Int) = m := by rw [IntKind.wrap_u64]; omega
  by_cases hc : (m : Int) ≤ most
  · have HC : Hid (cutF most m f = f) := Lib.hid (by rw [cutF, if_pos hc])
    rw [HC.out]
    clear HC
    have hgt : decide (most < (m : Int)) = false := decide_eq_false (by omega)
    go_enter Try.func42, Try.ntmps42
    go_wp2_with (first | (at_builtin; refine Stopped.out ?_) | (at_make; refine Stopped.out ?_))
    refine (refOUint _ h m (by omega) (by omega)).mono ?_
    rintro e w1 ⟨rfl, hst⟩
    go_wp2
    go_end0
    exact ⟨rfl, hst⟩
  · obtain ⟨f', hf'⟩ : ∃ f', f' = cutF most m f := ⟨_, rfl⟩
    have hf0 : f' ≠ 0 := by rw [hf', cutF, if_neg hc]; split <;> omega
    rw [← hf']
    have HC : Hid ((if f = 0 then 1 else f) = f') := Lib.hid (by rw [hf', cutF, if_neg hc])
    have HP : Hid (putL l f' (shortL m) = l) := Lib.hid (by rw [putL, if_neg hf0])
    rw [HP.out]
    clear hf' hf0
    have hgt : most < (m : Int) := by omega
    go_enter Try.func42, Try.ntmps42
    go_wp2_with (first | (at_builtin; refine Stopped.out ?_) | (at_make; refine Stopped.out ?_))
    refine (refFail _ h 1).mono ?_
    rintro e w0 ⟨rfl, hst0⟩
    rw [HC.out] at hst0
    go_wp2
    refine bodyPost_ret (results_none rfl _ _ _) rfl ?_
    exact ⟨rfl, hst0⟩
set_option maxHeartbeats 400000 in
theorem refBytes (w : World) {p : Nat} {G : List Nat} {l : List UInt8} {f : Nat} (h : Ob 55 w p G l f) {A : Option Addr} {m c : Nat} {news : List UInt8} (hs : Sl w 1 A m c (news.map by8)) (hA : ∀ ad, A = some ad → 0 < m → ad.block ∉ G) (most : Int) (hb : l.length + m ≤ 140737488354000) :
    Calls Try.prog 25 #[.pointer (some ⟨p, 0, none⟩), .slice A m c, .int .i64 most] w fun e w' => e = .returned (.tuple #[]) ∧ Stepped 55 w w' p G (putL l (cutF most m f) (shortL m ++ news)) (cutF most m f) := by
  have hl := hs.le; have hm := hs.max
  obtain ⟨f', hf'⟩ : ∃ f', f' = cutF most m f := ⟨_, rfl⟩
  have HC := Lib.hid (refCount w h m (by omega) most (by omega))
  rw [← hf'] at HC ⊢
  clear hf'
  go_enter Try.func25, Try.ntmps25
  go_wp2_with (first | (at_builtin; refine Stopped.out ?_) | (at_make; refine Stopped.out ?_))
  refine HC.out.mono ?_
  rintro e w1 ⟨rfl, hst⟩
  obtain ⟨G1, hw1, hk1, hG1⟩ := hst.out
  have s1 := hs.keep0 hk1 hA
  have hpl := putL_len l (shortL m) f'
  have hsl := shortL_len m (by omega)
  clear hst HC
  go_wp2_with (first | (at_builtin; refine Stopped.out ?_) | (at_make; refine Stopped.out ?_))
  refine (refPut _ hw1 s1 (by omega)).mono ?_
  rintro e w2 ⟨rfl, hs2⟩
  have hs3 := Stepped.thn hk1 hG1 hs2
  have HE : Hid (putL (putL l f' (shortL m)) f' news = putL l f' (shortL m ++ news)) := Lib.hid (putL_putL ..)
  go_wp2
  go_end0
  exact ⟨rfl, by rw [← HE.out]; exact hs3⟩
def refDonePost (w : World) (G : List Nat) (l : List UInt8) (f : Nat) (e : Ending) (w' : World) : Prop := ∃ A n c, e = .returned (.tuple #[.slice A n c, .int .i64 f]) ∧ Sl w 1 A n c ((doneL l f).map by8) ∧ (∀ ad, A = some ad → ad.block ∈ G) ∧ Drawn w w'
set_option maxHeartbeats 400000 in
theorem refDone (w : World) {p : Nat} {G : List Nat} {l : List UInt8} {f : Nat} (h : Ob 55 w p G l f) :
    Calls Try.prog 26 #[.pointer (some ⟨p, 0, none⟩)] w (refDonePost w G l f) := by
  obtain ⟨v, hblk, hown, hv⟩ := h.out
  obtain ⟨A2, c2, rfl, s2, _⟩ := own_sl hown
  have c0 := box_cell hblk 0 (.slice A2 l.length c2) rfl
  have c1 := box_cell hblk 1 (.int .i64 f) rfl
  have HV : Hid (∀ ad, A2 = some ad → ad.block ∈ G) := Lib.hid (fun ad e => by subst e; exact (hv _ rfl).2)
  clear hblk hown hv
  by_cases hf : f = 0
  · subst hf
    have HD : Hid (doneL l 0 = l) := Lib.hid rfl
    go_enter Try.func26, Try.ntmps26
    go_wp2
    go_ret2
    exact ⟨_, _, _, rfl, by rw [HD.out]; exact s2, HV.out, Drawn.refl _⟩
  · have HD : Hid (doneL l f = []) := Lib.hid (by rw [doneL, if_neg hf])
    have hz : ((f : Int) != 0) = true := by simp; omega
    have hz2 : ((f : Int) == 0) = false := by simp; omega
    clear hf
    go_enter Try.func26, Try.ntmps26
    go_wp2
    go_quiet (fail)
    go_wp2
    go_ret2
    exact ⟨_, _, _, rfl, by rw [HD.out]; exact Sl.nilS _ _, (fun ad e => by cases e), ⟨⟨_, rfl⟩⟩⟩
end Go.Proofs.Ytikjhandhgfohaa
