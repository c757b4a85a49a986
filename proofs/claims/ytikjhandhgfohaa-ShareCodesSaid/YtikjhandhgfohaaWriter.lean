import Derived.Test.YtikjhandhgfohaaBits3
import Derived.Test.YtikjhandhgfohaaAp2
import Derived.Test.YtikjhandhgfohaaHeads
set_option linter.unusedVariables false
set_option linter.unusedSimpArgs false
namespace Go.Proofs.Ytikjhandhgfohaa
open Go.RowKit

theorem Sl.keep0 {M : List Nat} {w w' : World} {sz : Nat} {A : Option Addr} {n c : Nat} {vs : List Value} (h : Sl w sz A n c vs) (k : Keep M w w') (hM : ∀ ad, A = some ad → 0 < n → ad.block ∉ M) : Sl w' sz A n c vs := by
  by_cases h0 : 0 < n
  · exact h.keep k (fun ad e => hM ad e h0)
  · obtain rfl : n = 0 := by omega
    obtain rfl : vs = [] := List.eq_nil_of_length_eq_zero (by have := h.len; simpa using this)
    exact ⟨h.len, h.le, h.max, h.nil, fun ad e h2 => by simp at h2⟩
/-! ### the writer: its block, its row -/
structure Ob (T : TypeId) (w : World) (p : Nat) (G : List Nat) (l : List UInt8) (f : Nat) : Prop where
  out : ∃ v, w.heap[p]? = some (.cells #[v, .int .i64 f] T (0, 0)) ∧ w.ownsRow 0 5 1 v l.length (l.map by8) ∧ ∀ k, v.ownBlock = some k → k ≠ p ∧ k ∈ G
  mem : p ∈ G
  lts : ∀ x ∈ G, x < w.heap.size
theorem Ob.lt {T : TypeId} {w : World} {p : Nat} {G : List Nat} {l : List UInt8} {f : Nat} (h : Ob T w p G l f) : p < w.heap.size := by
  obtain ⟨v, h1, _⟩ := h.out
  exact lt_of_block h1
theorem Ob.keep {T : TypeId} {M : List Nat} {w w' : World} {p : Nat} {G : List Nat} {l : List UInt8} {f : Nat} (h : Ob T w p G l f) (k : Keep M w w') (hM : ∀ x ∈ G, x ∉ M) : Ob T w' p G l f := by
  obtain ⟨v, h1, h2, h3⟩ := h.out
  exact ⟨⟨v, k.heap h1 (hM _ h.mem), k.own h2 (fun j hj => hM _ (h3 j hj).2), h3⟩, h.mem, fun x hx => Nat.lt_of_lt_of_le (h.lts x hx) k.size⟩
theorem Ob.below {T : TypeId} {w w' : World} {p : Nat} {G : List Nat} {l : List UInt8} {f : Nat} (h : Ob T w p G l f) (k : Below w.heap.size w w') : Ob T w' p G l f :=
  h.keep (Keep.of_below k []) (by simp)
/-- what a step on the writer leaves -/
structure Stepped (T : TypeId) (w w' : World) (p : Nat) (G : List Nat) (l : List UInt8) (f : Nat) : Prop where
  out : ∃ G', Ob T w' p G' l f ∧ Keep G w w' ∧ ∀ x ∈ G', x ∈ G ∨ w.heap.size ≤ x
theorem Stepped.trans {T : TypeId} {w w' w'' : World} {p : Nat} {G : List Nat} {l l' : List UInt8} {f f' : Nat} (h : Stepped T w w' p G l f) (k : ∀ G', Ob T w' p G' l f → Stepped T w' w'' p G' l' f') : Stepped T w w'' p G l' f' := by
  obtain ⟨G', h1, h2, h3⟩ := h.out
  obtain ⟨G2, k1, k2, k3⟩ := (k G' h1).out
  refine ⟨G2, k1, h2.trans' k2 h3, fun x hx => ?_⟩
  rcases k3 x hx with h | h
  · exact h3 x h
  · exact .inr (Nat.le_trans h2.size h)
theorem Stepped.thn {T : TypeId} {w w' w'' : World} {p : Nat} {G G' : List Nat} {l : List UInt8} {f : Nat} (h2 : Keep G w w') (h3 : ∀ x ∈ G', x ∈ G ∨ w.heap.size ≤ x) (k : Stepped T w' w'' p G' l f) : Stepped T w w'' p G l f := by
  obtain ⟨G2, k1, k2, k3⟩ := k.out
  refine ⟨G2, k1, h2.trans' k2 h3, fun x hx => ?_⟩
  rcases k3 x hx with h | h
  · exact h3 x h
  · exact .inr (Nat.le_trans h2.size h)
theorem Stepped.after {T : TypeId} {w w1 w' : World} {p : Nat} {G : List Nat} {l : List UInt8} {f : Nat} (hb : Below w.heap.size w w1) (h : Stepped T w1 w' p G l f) : Stepped T w w' p G l f := by
  obtain ⟨G', h1, h2, h3⟩ := h.out
  exact ⟨G', h1, (Keep.of_below hb G).trans h2, fun x hx => (h3 x hx).imp id (Nat.le_trans hb.size)⟩
theorem NewWriter_any (w : World) : Calls Try.prog 15 #[] w fun e w' => e = .returned (.pointer (some ⟨w.heap.size, 0, none⟩)) ∧ Ob 70 w' w.heap.size [w.heap.size] [] 0 ∧ Below w.heap.size w w' := by
  go_enter Try.func15, Try.ntmps15
  go_wp2
  go_ret
  exact ⟨rfl, ⟨⟨_, heap_alloc_new w _, World.ownsRow_nil .., fun k hk => by cases hk⟩, by simp, by simp⟩, (Below.refl _ _).alloc (Nat.le_refl _) _⟩
set_option maxHeartbeats 800000 in
theorem lay_any (w : World) {p : Nat} {G : List Nat} {l : List UInt8} {f : Nat} (h : Ob 70 w p G l f) {A : Option Addr} {m c : Nat} {news : List UInt8} (hs : Sl w 1 A m c (news.map by8)) (hb : l.length + m ≤ 140737488355328) :
    Calls Try.prog 38 #[.pointer (some ⟨p, 0, none⟩), .slice A m c] w fun e w' => e = .returned (.tuple #[]) ∧ Stepped 70 w w' p G (if f = 0 then l ++ news else l) f := by
  obtain ⟨v, hblk, hown, hv⟩ := h.out
  have c0 := box_cell hblk 0 v rfl
  have c1 := box_cell hblk 1 (.int .i64 f) rfl
  have hp := h.lt
  have hm := h.mem; have hlts := h.lts
  have HB := Lib.hid hblk
  have hnl : news.length = m := by simpa using hs.len
  have HN := Lib.hid hnl
  clear hblk hnl
  by_cases hf : f = 0
  · subst hf
    rw [if_pos rfl]
    go_enter Try.func38, Try.ntmps38
    go_wp2_with (first | (at_builtin; refine Stopped.out ?_) | (at_make; refine Stopped.out ?_))
    refine Stopped.mk (apk_own EB rfl (.tmp 13) (.tmp 14) rfl rfl hown rfl hs (u8_one news) (by simp only [maxLen]; omega) (by omega) (Nat.zero_le _) ?_)
    intro v' w' hown' hg hk'
    have hpb : w'.heap[p]? = some (.cells #[v, .int .i64 (0 : Nat)] 70 (0, 0)) := (((Keep.refl G w).grown hg (fun k hk => .inl (hv k hk).2)).mono (M' := G) (fun _ hx => hx)) |> fun _ => (hg.block p hp (fun e => (hv p e.symm).1 rfl)).trans HB.out
    have c0' := box_cell hpb 0 v rfl
    have f0' := box_free hpb 0
    have HK : Hid (Stepped 70 w (w'.setCell ⟨p, 0, none⟩ v') p G (l ++ news) 0) := Lib.hid (by
      have k1 : Keep G w w' := (Keep.refl G w).grown hg (fun k hk => .inl (hv k hk).2)
      have k2 : Keep [p] w' (w'.setCell ⟨p, 0, none⟩ v') := (Keep.refl [p] w').setCell (.inl (by simp)) _
      refine ⟨v'.ownBlock.toList ++ G, ⟨⟨v', ?_, ?_, ?_⟩, List.mem_append_right _ hm, ?_⟩, k1.setCell (.inl hm) _, ?_⟩
      · have := heap_setCell_same w' p 0 _ _ v' hpb
        simpa using this
      · have h5 := k2.own hown' (fun k hk => by
          rcases hk' k hk with h | h
          · have := (hv k h).1; simpa using this
          · have := hp; simp; omega)
        rw [List.length_append, HN.out, List.map_append]
        exact h5
      · intro k hk
        rcases hk' k hk with h | h
        · exact ⟨(hv k h).1, List.mem_append_left _ (by simp [hk])⟩
        · exact ⟨by omega, List.mem_append_left _ (by simp [hk])⟩
      · intro x hx
        rcases List.mem_append.1 hx with h | h
        · have := (hown'.lt x (by simpa using h)).2
          simpa using this
        · have := Nat.lt_of_lt_of_le (hlts x h) k1.size
          simpa using this
      · intro x hx
        rcases List.mem_append.1 hx with h | h
        · rcases hk' x (by simpa using h) with h | h
          · exact .inl (hv x h).2
          · exact .inr (Nat.le_of_eq h.symm)
        · exact .inl h)
    obtain ⟨A2, c2, rfl, _, _⟩ := own_sl hown'
    clear hg hpb hown hown' hk'
    go_wp2
    go_end0
    exact ⟨rfl, HK.out⟩
  · rw [if_neg hf]
    have hz : ((f : Int) == 0) = false := by simp; omega
    clear hf
    go_enter Try.func38, Try.ntmps38
    go_wp2
    go_end0
    exact ⟨rfl, G, h, Keep.refl _ _, fun x hx => .inl hx⟩
set_option maxHeartbeats 400000 in
theorem fail_any (w : World) {p : Nat} {G : List Nat} {l : List UInt8} {f : Nat} (h : Ob 70 w p G l f) (g : Nat) :
    Calls Try.prog 39 #[.pointer (some ⟨p, 0, none⟩), .int .i64 g] w fun e w' => e = .returned (.tuple #[]) ∧ Stepped 70 w w' p G l (if f = 0 then g else f) := by
  obtain ⟨v, hblk, hown, hv⟩ := h.out
  have c1 := box_cell hblk 1 (.int .i64 f) rfl
  have f1 := box_free hblk 1
  have hm := h.mem; have hlts := h.lts
  by_cases hf : f = 0
  · subst hf
    rw [if_pos rfl]
    have HK : Hid (Stepped 70 w (w.setCell ⟨p, 1, none⟩ (.int .i64 g)) p G l g) := Lib.hid (by
      have k2 : Keep [p] w (w.setCell ⟨p, 1, none⟩ (.int .i64 g)) := (Keep.refl [p] w).setCell (.inl (by simp)) _
      refine ⟨G, ⟨⟨v, ?_, k2.own hown (fun k hk => by have := (hv k hk).1; simpa using this), hv⟩, hm, fun x hx => by have := hlts x hx; simpa using this⟩, (Keep.refl G w).setCell (.inl hm) _, fun x hx => .inl hx⟩
      have := heap_setCell_same w p 1 _ _ (.int .i64 g) hblk
      simpa using this)
    clear hblk hown hv
    go_enter Try.func39, Try.ntmps39
    go_wp2
    go_end0
    exact ⟨rfl, HK.out⟩
  · rw [if_neg hf]
    have hz : ((f : Int) == 0) = false := by simp; omega
    clear hf hblk hown hv
    go_enter Try.func39, Try.ntmps39
    go_wp2
    go_end0
    exact ⟨rfl, G, h, Keep.refl _ _, fun x hx => .inl hx⟩
/-! ### what is laid -/
/-- a number's short form -/
def shortL (x : Nat) : List UInt8 := if x < 128 then [UInt8.ofNat x] else UInt8.ofNat (x % 128 + 128) :: shortL (x / 128)
termination_by x
decreasing_by omega
theorem shortL_one {x : Nat} (h : x < 128) : shortL x = [UInt8.ofNat x] := by rw [shortL, if_pos h]
theorem shortL_more {x : Nat} (h : ¬ x < 128) : shortL x = UInt8.ofNat (x % 128 + 128) :: shortL (x / 128) := by rw [shortL, if_neg h]
theorem shortL_len (x : Nat) (h : x < 18446744073709551616) : (shortL x).length ≤ 10 := by
  have g : ∀ k x, x < 128 ^ (k + 1) → (shortL x).length ≤ k + 1 := by
    intro k
    induction k with
    | zero => intro x h; rw [shortL_one (by simpa using h)]; simp
    | succ k ih =>
      intro x h
      by_cases h2 : x < 128
      · rw [shortL_one h2]; simp
      · rw [shortL_more h2, List.length_cons]
        have := ih (x / 128) (by rw [Nat.pow_succ] at h; omega)
        omega
  exact g 9 x (by omega)
/-- what is there behind a step of a writer -/
def putL (l : List UInt8) (f : Nat) (b : List UInt8) : List UInt8 := if f = 0 then l ++ b else l
theorem putL_putL (l a b : List UInt8) (f : Nat) : putL (putL l f a) f b = putL l f (a ++ b) := by
  unfold putL; split <;> simp
theorem putL_len (l b : List UInt8) (f : Nat) : (putL l f b).length ≤ l.length + b.length := by
  unfold putL; split <;> simp
/-- one byte in memory of its own -/
theorem one_sl (w : World) (x : Nat) (hx : x < 256) : Sl (w.alloc (.cells #[.int .u8 (x : Int)] 5)) 1 (some ⟨w.heap.size, 0, none⟩) 1 1 ([UInt8.ofNat x].map by8) := by
  have e5 : [UInt8.ofNat x].map by8 = [Value.int .u8 (x : Int)] := by simp [by8]; omega
  rw [e5]
  exact Sl.fresh w [.int .u8 x] 5 1 1 rfl (by decide)
theorem one_below (w : World) (o : Obj) : Below w.heap.size w (w.alloc o) := (Below.refl _ _).alloc (Nat.le_refl _) _
theorem Byte_any (w : World) {p : Nat} {G : List Nat} {l : List UInt8} {f : Nat} (h : Ob 70 w p G l f) (x : Nat) (hx : x < 256) (hb : l.length ≤ 140737488355000) :
    Calls Try.prog 18 #[.pointer (some ⟨p, 0, none⟩), .int .u8 x] w fun e w' => e = .returned (.tuple #[]) ∧ Stepped 70 w w' p G (putL l f [UInt8.ofNat x]) f := by
  go_enter Try.func18, Try.ntmps18
  go_wp2_with (first | (at_builtin; refine Stopped.out ?_) | (at_make; refine Stopped.out ?_))
  refine (lay_any _ (h.below (one_below w _)) (one_sl w x hx) (by omega)).mono ?_
  rintro e w' ⟨rfl, hst⟩
  go_wp2
  go_end0
  exact ⟨rfl, hst.after (one_below w _)⟩
theorem Fixed_any (w : World) {p : Nat} {G : List Nat} {l : List UInt8} {f : Nat} (h : Ob 70 w p G l f) {A : Option Addr} {m c : Nat} {news : List UInt8} (hs : Sl w 1 A m c (news.map by8)) (hb : l.length + m ≤ 140737488355328) :
    Calls Try.prog 16 #[.pointer (some ⟨p, 0, none⟩), .slice A m c] w fun e w' => e = .returned (.tuple #[]) ∧ Stepped 70 w w' p G (putL l f news) f := by
  go_enter Try.func16, Try.ntmps16
  go_wp2_with (first | (at_builtin; refine Stopped.out ?_) | (at_make; refine Stopped.out ?_))
  refine (lay_any _ h hs hb).mono ?_
  rintro e w' ⟨rfl, hst⟩
  go_wp2
  go_end0
  exact ⟨rfl, hst⟩
set_option maxRecDepth 100000 in
set_option maxHeartbeats 800000 in
theorem Uint_any (w : World) {p : Nat} {G : List Nat} {l : List UInt8} {f : Nat} (h : Ob 70 w p G l f) (x : Nat) (hx : x < 18446744073709551616) (hb : l.length ≤ 140737488355000) :
    Calls Try.prog 40 #[.pointer (some ⟨p, 0, none⟩), .int .u64 x] w fun e w' => e = .returned (.tuple #[]) ∧ Stepped 70 w w' p G (putL l f (shortL x)) f := by
  have HL := Lib.hid (shortL_len x hx)
  go_enter Try.func40, Try.ntmps40
  go_wp2
  go_loopw [1] (fun x' wr => ∃ (y : Nat) (b : List UInt8), x' = .int .u64 y ∧ y < 18446744073709551616 ∧ Hid (b ++ shortL y = shortL x) ∧ Stepped 70 w wr p G (putL l f b) f) (fun x' _ => (intOf x').toNat)
  case atStart => exact ⟨x, [], rfl, hx, Lib.hid rfl, G, by simpa [putL] using h, Keep.refl _ _, fun x hx => .inl hx⟩
  case round =>
    obtain ⟨y, b, rfl, hy, hbx, hst⟩ := hrel
    have hbl : b.length ≤ 10 := by have := HL.out; rw [← hbx.out, List.length_append] at this; omega
    obtain ⟨G', hw', hk', hG'⟩ := hst.out
    have hpl := putL_len l b f
    by_cases h7 : y < 128
    · have hw : IntKind.u8.wrap (y : Int) = y := by rw [IntKind.wrap_u8]; omega
      have i7 : decide ((128 : Int) ≤ y) = false := decide_eq_false (by omega)
      go_wp2_with (first | (at_builtin; refine Stopped.out ?_) | (at_make; refine Stopped.out ?_))
      refine (lay_any _ (hw'.below (one_below wr _)) (one_sl wr y (by omega)) (by omega)).mono ?_
      rintro e w' ⟨rfl, hs2⟩
      have hs3 := Stepped.thn hk' hG' (hs2.after (one_below wr _))
      have HE : Hid (putL (putL l f b) f [UInt8.ofNat y] = putL l f (shortL x)) := Lib.hid (by rw [putL_putL, ← hbx.out, shortL_one h7])
      go_wp2
      go_end0
      exact ⟨rfl, by rw [← HE.out]; exact hs3⟩
    · have i7 : (128 : Int) ≤ y := by omega
      obtain ⟨z, hz⟩ : ∃ z, z = y % 128 + 128 := ⟨_, rfl⟩
      have hor : bits .or .u8 ((y : Int) % 256) 128 = (z : Int) := by
        have h1 : ((y : Int) % 256) = ((y % 256 : Nat) : Int) := by omega
        have h2 : ∀ q : Fin 256, q.val ||| 128 = q.val % 128 + 128 := by decide
        have h3 := h2 ⟨y % 256, by omega⟩
        simp only at h3
        rw [h1, show (128 : Int) = ((128 : Nat) : Int) by rfl, bits_or8 _ _ (by omega) (by decide), h3, hz]
        omega
      have hz2 : z < 256 := by omega
      have HE : Hid (b ++ [UInt8.ofNat z] ++ shortL (y / 128) = shortL x) := Lib.hid (by rw [← hbx.out, shortL_more h7, hz]; simp)
      clear hz
      go_wp2_with (first | (at_builtin; refine Stopped.out ?_) | (at_make; refine Stopped.out ?_))
      refine (lay_any _ (hw'.below (one_below wr _)) (one_sl wr z hz2) (by omega)).mono ?_
      rintro e w' ⟨rfl, hs2⟩
      have hs3 := Stepped.thn hk' hG' (hs2.after (one_below wr _))
      go_wp2_with (first | (at_builtin; refine Stopped.out ?_) | (at_make; refine Stopped.out ?_))
      first | go_roundw | refine ⟨?rel, ?measure⟩
      case rel => exact ⟨y / 128, b ++ [UInt8.ofNat z], by go_num, by omega, HE, by rw [← putL_putL]; exact hs3⟩
      case measure => simp [intOf]; omega
/-- the fault behind a bound -/
def cutF (most : Int) (m f : Nat) : Nat := if (m : Int) ≤ most then f else if f = 0 then 1 else f
set_option maxHeartbeats 400000 in
theorem Bytes_any (w : World) {p : Nat} {G : List Nat} {l : List UInt8} {f : Nat} (h : Ob 70 w p G l f) {A : Option Addr} {m c : Nat} {news : List UInt8} (hs : Sl w 1 A m c (news.map by8)) (hA : ∀ ad, A = some ad → 0 < m → ad.block ∉ G) (most : Int) (hb : l.length + m ≤ 140737488354000) :
    Calls Try.prog 19 #[.pointer (some ⟨p, 0, none⟩), .slice A m c, .int .i64 most] w fun e w' => e = .returned (.tuple #[]) ∧ Stepped 70 w w' p G (putL l (cutF most m f) (shortL m ++ news)) (cutF most m f) := by
  have hl := hs.le; have hm := hs.max
  by_cases hc : (m : Int) ≤ most
  · have HC : Hid (cutF most m f = f) := Lib.hid (by rw [cutF, if_pos hc])
    rw [HC.out]
    clear HC
    have hcv : IntKind.u64.wrap (m : Int) = m := by rw [IntKind.wrap_u64]; omega
    have hgt : decide (most < (m : Int)) = false := decide_eq_false (by omega)
    go_enter Try.func19, Try.ntmps19
    go_wp2_with (first | (at_builtin; refine Stopped.out ?_) | (at_make; refine Stopped.out ?_))
    refine (Uint_any _ h m (by omega) (by omega)).mono ?_
    rintro e w1 ⟨rfl, hst⟩
    obtain ⟨G1, hw1, hk1, hG1⟩ := hst.out
    have s1 := hs.keep0 hk1 hA
    have hpl := putL_len l (shortL m) f
    have hsl := shortL_len m (by omega)
    clear hst
    go_wp2_with (first | (at_builtin; refine Stopped.out ?_) | (at_make; refine Stopped.out ?_))
    refine (lay_any _ hw1 s1 (by omega)).mono ?_
    rintro e w2 ⟨rfl, hs2⟩
    have hs3 := Stepped.thn hk1 hG1 hs2
    have HE : Hid (putL (putL l f (shortL m)) f news = putL l f (shortL m ++ news)) := Lib.hid (putL_putL ..)
    go_wp2
    go_end0
    exact ⟨rfl, by rw [← HE.out]; exact hs3⟩
  · obtain ⟨f', hf'⟩ : ∃ f', f' = cutF most m f := ⟨_, rfl⟩
    rw [← hf']
    have HC : Hid ((if f = 0 then 1 else f) = f') := Lib.hid (by rw [hf', cutF, if_neg hc])
    clear hf'
    have hcv : IntKind.u64.wrap (m : Int) = m := by rw [IntKind.wrap_u64]; omega
    have hgt : most < (m : Int) := by omega
    go_enter Try.func19, Try.ntmps19
    go_wp2_with (first | (at_builtin; refine Stopped.out ?_) | (at_make; refine Stopped.out ?_))
    refine (fail_any _ h 1).mono ?_
    rintro e w0 ⟨rfl, hst0⟩
    rw [HC.out] at hst0
    clear HC
    obtain ⟨G0, hw0, hk0, hG0⟩ := hst0.out
    have s0 := hs.keep0 hk0 hA
    have lt0 : ∀ ad, A = some ad → 0 < m → ad.block < w.heap.size := fun ad e h => by
      obtain ⟨b, off, rfl⟩ := hs.form h
      obtain rfl := Option.some.inj e
      exact cell_lt (hs.byte 0 h)
    clear hst0
    go_wp2_with (first | (at_builtin; refine Stopped.out ?_) | (at_make; refine Stopped.out ?_))
    refine (Uint_any _ hw0 m (by omega) (by omega)).mono ?_
    rintro e w1 ⟨rfl, hst⟩
    obtain ⟨G1, hw1, hk1, hG1⟩ := hst.out
    have s1 : Sl w1 1 A m c (news.map by8) := by
      by_cases hm0 : 0 < m
      · refine s0.keep hk1 (fun ad e hx => ?_)
        rcases hG0 _ hx with h | h
        · exact hA ad e hm0 h
        · have := lt0 ad e hm0; omega
      · obtain rfl : m = 0 := by omega
        have hnil : news = [] := List.eq_nil_of_length_eq_zero (by have := hs.len; simpa using this)
        subst hnil
        exact ⟨by simp, hl, hm, hs.nil, fun ad e h => by simp at h⟩
    have hpl := putL_len l (shortL m) f'
    have hsl := shortL_len m (by omega)
    clear hst
    go_wp2_with (first | (at_builtin; refine Stopped.out ?_) | (at_make; refine Stopped.out ?_))
    refine (lay_any _ hw1 s1 (by omega)).mono ?_
    rintro e w2 ⟨rfl, hs2⟩
    have hs3 := Stepped.thn hk0 hG0 (Stepped.thn hk1 hG1 hs2)
    have HE : Hid (putL (putL l f' (shortL m)) f' news = putL l f' (shortL m ++ news)) := Lib.hid (putL_putL ..)
    go_wp2
    go_end0
    exact ⟨rfl, by rw [← HE.out]; exact hs3⟩
def doneL (l : List UInt8) (f : Nat) : List UInt8 := if f = 0 then l else []
def DonePost (w : World) (l : List UInt8) (f : Nat) (e : Ending) (w' : World) : Prop := ∃ v, e = .returned (.tuple #[v, .int .i64 f]) ∧ w'.ownsRow w.heap.size 5 1 v (doneL l f).length ((doneL l f).map by8) ∧ Below w.heap.size w w'
set_option maxHeartbeats 400000 in
theorem Done_any (w : World) {p : Nat} {G : List Nat} {l : List UInt8} {f : Nat} (h : Ob 70 w p G l f) (hb : l.length ≤ 140737488355000) :
    Calls Try.prog 20 #[.pointer (some ⟨p, 0, none⟩)] w (DonePost w l f) := by
  obtain ⟨v, hblk, hown, hv⟩ := h.out
  obtain ⟨A2, c2, rfl, s2, _⟩ := own_sl hown
  have c0 := box_cell hblk 0 (.slice A2 l.length c2) rfl
  have c1 := box_cell hblk 1 (.int .i64 f) rfl
  have HB := Lib.hid hblk
  clear hblk hown hv
  by_cases hf : f = 0
  · subst hf
    have HD : Hid (doneL l 0 = l) := Lib.hid rfl
    have c0a := cell_al c0 (.cells #[] 5)
    clear c0
    go_enter Try.func20, Try.ntmps20
    go_wp2_with (first | (at_builtin; refine Stopped.out ?_) | (at_make; refine Stopped.out ?_))
    refine Stopped.mk (ap_own EB rfl (.tmp 13) (.tmp 17) rfl rfl (World.ownsRow_lit (base := w.heap.size) _ #[] 0 (by simp) (by decide) rfl) rfl (s2.alloc _) (u8_one _) (by simp only [maxLen]; omega) (by omega) (by simp) ?_)
    intro v1 w1 o1 hg1 _
    have hb1 : Below w.heap.size w w1 := ((Below.refl _ w).alloc (Nat.le_refl _) _).grown hg1 (by simp) (fun k hk => (Option.some.inj hk) ▸ Nat.le_refl _)
    rw [List.nil_append, Nat.zero_add] at o1
    clear c0a
    go_wp2
    go_ret2
    exact ⟨_, rfl, by rw [HD.out]; exact o1, hb1⟩
  · have HD : Hid (doneL l f = []) := Lib.hid (by rw [doneL, if_neg hf])
    have hz : ((f : Int) != 0) = true := by simp; omega
    have hz2 : ((f : Int) == 0) = false := by simp; omega
    clear hf
    go_enter Try.func20, Try.ntmps20
    go_wp2
    go_quiet (fail)
    go_wp2
    go_ret2
    exact ⟨_, rfl, by rw [HD.out]; exact World.ownsRow_nil .., below_drewN (Below.refl _ _) _⟩
end Go.Proofs.Ytikjhandhgfohaa
