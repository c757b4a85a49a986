import Derived.Test.YtcpbdgedbjbgfaaDoorShLay
import Derived.Test.YtcpbdgedbjbgfaaDoorShPlain
import Derived.Test.YtcpbdgedbjbgfaaDoorAp2
set_option linter.unusedVariables false
set_option linter.unusedSimpArgs false
namespace Go.Proofs.YtcpbdgedbjbgfaaDoor
open Go.RowKit
theorem EStr : ElemT Tryd.prog 28 9 (.string ⟨#[]⟩) 1 16 := ⟨Tryd.underlying28, by kernel_rfl, rfl, by decide⟩
def stC (l : List UInt8) : Value := .string ⟨l.toArray⟩
def bI (n : Int) : Prop := -9223372036854775808 ≤ n ∧ n ≤ 9223372036854775807
def tabOk (w : World) : Prop := Lib.TabIs Tryd.prog w "internal/strconv.uint64pow10" .u64 Lib.pow10Tab
theorem tabOk.below {w w' : World} (h : tabOk w) (k : Below w.heap.size w w') : tabOk w' := Lib.tabBelow_of_tabIs h w' k
theorem stC_one (l : List (List UInt8)) : ∀ u ∈ l.map stC, u.oneCell' = true := by
  intro u hu
  obtain ⟨x, _, rfl⟩ := List.mem_map.1 hu
  rfl
theorem wordsT_take (e : Int) (ns : List Int) (k : Nat) (h : k < ns.length) : wordsT e (ns.take (k + 1)) = wordsT e (ns.take k) ++ [Lib.itoa ns[k]] := by
  unfold wordsT
  rw [List.take_succ_eq_append_getElem h, List.map_append, List.append_assoc]
  rfl
/-- strings.Join of one's own words -/
theorem join_own (w : World) {base : Nat} {v : Value} {ws : List (List UInt8)} (ho : w.ownsRow base 9 1 v ws.length (ws.map stC)) (hne : ws ≠ []) (h2 : ws.length ≤ 100000) (h1 : (Lib.join ws [32]).length ≤ 140737488355328) :
    Calls Tryd.prog 7 #[v, .string ⟨#[32]⟩] w fun e w' => e = .returned (stC (Lib.join ws [32])) ∧ Below w.heap.size w w' := by
  have hpos : 0 < ws.length := List.length_pos_iff.2 hne
  obtain ⟨g, c, rfl, hb, hlt, hc⟩ := own_form ho hpos
  have hm : ws.length ≤ 140737488355328 := by omega
  have hx : (ws.map fun l => (⟨l.toArray⟩ : ByteArray)).map (·.data.toList) = ws := by
    rw [List.map_map]
    conv => rhs; rw [← List.map_id ws]
    exact List.map_congr_left fun l _ => by simp
  have := joinC g 0 c (ws.map fun l => (⟨l.toArray⟩ : ByteArray)) ⟨#[32]⟩ w (fun j x hj => by
    have hj' : j < ws.length := by
      have := (List.getElem?_eq_some_iff.1 hj).1
      simpa using this
    rw [Nat.zero_add, ho.cellAt j (by omega)]
    rw [List.getElem?_map] at hj ⊢
    cases hq : ws[j]? with
    | none => rw [hq] at hj; cases hj
    | some l => rw [hq] at hj; obtain rfl := Option.some.inj hj; rfl) hlt (by simpa using hm) (by simpa using hc) (by rw [hx]; exact h1)
  rw [hx] at this
  simpa [stC] using this
theorem showT_len (e : Int) (he : bI e) (ns : List Int) (h : ∀ n ∈ ns, bI n) (hn : ns.length ≤ 8192) : (wordsT e ns).length ≤ 8194 ∧ (showT e ns).length ≤ 200000 := by
  have h1 := lens_itoa ns h
  have h2 := Lib.itoa_length_le e he.1 he.2
  have hl : (wordsT e ns).length ≤ 8194 ∧ Lib.lens (wordsT e ns) ≤ 21 * ns.length + 26 := by
    unfold wordsT
    split
    · refine ⟨by simp; omega, ?_⟩
      simp only [Lib.lens, List.map_append, List.sum_append, List.map_cons, List.map_nil, List.sum_cons, List.sum_nil] at h1 ⊢
      have : okT.length = 2 := rfl
      omega
    · refine ⟨by simp; omega, ?_⟩
      simp only [Lib.lens, List.map_append, List.sum_append, List.map_cons, List.map_nil, List.sum_cons, List.sum_nil] at h1 ⊢
      have : errT.length = 5 := rfl
      omega
  refine ⟨hl.1, ?_⟩
  obtain ⟨x, r, hx⟩ := words_ne e ns
  unfold showT
  rw [hx] at hl ⊢
  rw [Lib.join_length]
  have := hl.1; have := hl.2
  simp at *
  omega
theorem Sl.word0 {w : World} {b off n c : Nat} {ns : List Int} (h : Sl w 1 (some ⟨b, off, none⟩) n c (ns.map (Value.int .i64))) (k : Nat) (hk : k < ns.length) : w.cell? ⟨b, off + k, none⟩ = some (.int .i64 ns[k]) := by
  have := h.cell k (by simpa using hk)
  simpa using this
set_option maxRecDepth 100000 in
set_option maxHeartbeats 1600000 in
theorem show25 (w : World) (er : Int) (he : bI er) {A : Option Addr} {n c : Nat} {ns : List Int} (hs : Sl w 1 A n c (ns.map (Value.int .i64))) (hb : ∀ k ∈ ns, bI k) (hn : n ≤ 8192) (htab : tabOk w) :
    Calls Tryd.prog 4 #[.agg #[.int .i64 er, .slice A n c]] w fun e w' => e = .returned (stC (showT er ns)) ∧ Below w.heap.size w w' := by
  have hl : ns.length = n := by simpa using hs.len
  have HL := Lib.hid (showT_len er he ns hb (by omega))
  have HB := Lib.hid (And.intro he (And.intro hb hl))
  have hle := hs.le; have hmx := hs.max
  obtain ⟨W1, hW1⟩ : ∃ W1, W1 = w.alloc (.cells #[.int .i64 er, .slice A n c] 25) := ⟨_, rfl⟩
  have hb1 : Below w.heap.size w W1 := by rw [hW1]; exact (Below.refl _ w).alloc (Nat.le_refl _) _
  have hs1 : W1.heap.size = w.heap.size + 1 := by rw [hW1]; simp
  have x0 : W1.heap[w.heap.size]? = some (.cells #[.int .i64 er, .slice A n c] 25 (0, 0)) := by rw [hW1]; exact heap_alloc_new w _
  have c0 : W1.cell? ⟨w.heap.size, 0, none⟩ = some (.int .i64 er) := box_cell x0 0 _ rfl
  have c1 : W1.cell? ⟨w.heap.size, 1, none⟩ = some (.slice A n c) := box_cell x0 1 _ rfl
  have HT := Lib.hid htab
  have HS := Lib.hid hs
  clear x0 hs htab
  obtain ⟨W2, hW2⟩ : ∃ W2, W2 = W1.alloc (.cells #[.string ⟨#[111, 107]⟩] 9) := ⟨_, rfl⟩
  have hb2 : Below w.heap.size W1 W2 := by rw [hW2]; exact (Below.refl _ W1).alloc (by omega) _
  have o2 : W2.ownsRow w.heap.size 9 1 (.slice (some ⟨W1.heap.size, 0, none⟩) 1 1) 1 ([okT].map stC) := by
    rw [hW2]; exact World.ownsRow_lit (base := w.heap.size) W1 #[_] 1 (by omega) (by decide) rfl
  have HH : Hid (Calls Tryd.prog 4 #[.agg #[.int .i64 er, .slice A n c]] w fun e w' => e = .returned (stC (showT er ns)) ∧ Below w.heap.size w w') := by
    refine Lib.hid ?_
    by_cases h0 : er = 0
    · have q0 : ((er : Int) != 0) = false := by simp [h0]
      have HW := Lib.hid (show wordsT er (ns.take 0) = [okT] by simp [wordsT, h0])
      have HM := Lib.hid (show W2.ownsRow w.heap.size 9 1 (.slice (some ⟨w.heap.size + 1, 0, none⟩) 1 1) (wordsT er (ns.take 0)).length ((wordsT er (ns.take 0)).map stC) ∧ Below w.heap.size w W2 by rw [HW.out, ← hs1]; exact ⟨o2, hb1.trans hb2⟩)
      clear h0 HW o2 he
      go_enter Tryd.func4, Tryd.ntmps4
      go_wp2_with (first | rw [← hW1] | rw [← hW2])
      clear hW1 hW2 c0 c1 hb1 hb2 hs1
      go_loopw [3, 5, 17] (fun o x i wr => ∃ (k : Nat) (v : Value), k ≤ n ∧ i = .int .i64 k ∧ o = v ∧ wr.ownsRow w.heap.size 9 1 v (wordsT er (ns.take k)).length ((wordsT er (ns.take k)).map stC) ∧ Below w.heap.size w wr) (fun _ _ i _ => n - (intOf i).toNat)
      case atStart => exact ⟨0, _, by omega, rfl, rfl, HM.out.1, HM.out.2⟩
      case round =>
        clear HM
        obtain ⟨k, v, hk, rfl, rfl, hst, hbl⟩ := hrel
        by_cases hlt : k < n
        · have hk' : k < ns.length := by rw [hl]; exact hlt
          have sr := HS.out.below hbl
          obtain ⟨b, off, hA⟩ := sr.form (by omega)
          have HA := Lib.hid hA
          rw [hA] at sr
          have ga := sr.word0 k hk'
          have hx := hb _ (List.getElem_mem hk')
          have Hw := Lib.hid (wordsT_take er ns k hk')
          obtain ⟨x, hx0⟩ : ∃ x, x = ns[k] := ⟨_, rfl⟩
          rw [← hx0] at ga hx Hw
          have HX := Lib.hid hx
          have HK := Lib.hid hk'
          clear hx0 sr hx hk'
          subst hA
          have hk0 : (0 : Int) ≤ (k : Int) := Int.natCast_nonneg _
          have hk1 : (k : Int) < (n : Int) := by omega
          have H1 := Lib.hid (And.intro hst hbl)
          have HF := Lib.hid (fmtInt wr x HX.out.1 HX.out.2 (HT.out.below hbl))
          clear hst hbl
          go_wp2_with fail
          refine HF.out.mono ?_
          rintro e w2 ⟨rfl, hb2⟩
          clear HF
          have o2 := own_below H1.out.1 hb2
          have hbl2 := bthen H1.out.2 hb2
          have hsz := hbl2.size
          have hlw : (wordsT er (ns.take k)).length ≤ 8194 := (showT_len er HB.out.1 (ns.take k) (fun z hz => HB.out.2.1 z (List.mem_of_mem_take hz)) (by have := HK.out; have := HB.out.2.2; simp; omega)).1
          clear H1
          go_wp2_with (first | (at_builtin; refine Stopped.out ?_) | (at_make; refine Stopped.out ?_))
          refine Stopped.mk (apk_own EStr rfl (.tmp 21) (.tmp 24) rfl rfl (o2.alloc _) rfl (Sl.fresh w2 [_] 9 1 1 rfl (by decide)) (by simp [Value.oneCell']) (by simp only [maxLen]; omega) (by omega) (by simp; omega) ?_)
          intro v3 w3 o3 hg3 _
          have HN := Lib.hid (And.intro o3 ((hbl2.alloc hsz _).grown hg3 (by simp; omega) (fun k hk => (o2.lt k hk).1)))
          clear o2 o3 hg3
          go_wp2
          first | go_roundw | refine ⟨?rel, ?measure⟩
          case rel => exact ⟨k + 1, v3, by omega, by go_num, rfl, by rw [Hw.out, List.map_append, List.length_append]; exact HN.out.1, HN.out.2⟩
          case measure => simp [intOf]; omega
        · obtain rfl : k = n := by omega
          have HE := Lib.hid (show ns.take k = ns from List.take_of_length_le (by omega))
          rw [HE.out] at hst
          clear HE hlt
          have HJ := Lib.hid (join_own wr hst (by obtain ⟨y, r, hy⟩ := words_ne er ns; rw [hy]; simp) (by have := HL.out; omega) (by have := HL.out.2; unfold showT at this; omega))
          have H1 := Lib.hid hbl
          clear hst hbl
          go_wp2_with fail
          refine HJ.out.mono ?_
          rintro e w2 ⟨rfl, hb2⟩
          clear HJ
          go_wp2
          go_ret
          exact ⟨rfl, bthen H1.out hb2⟩
    · have q0 : ((er : Int) != 0) = true := by simp; omega
      have HW := Lib.hid (show wordsT er (ns.take 0) = [errT, Lib.itoa er] by simp [wordsT, h0])
      have hb2' : Below W1.heap.size W1 W2 := by rw [hW2]; exact (Below.refl _ W1).alloc (Nat.le_refl _) _
      have g0 := cell_below c0 hb2'
      have g1 := cell_below c1 hb2'
      have hB2 := bthen hb1 hb2'
      have HF := Lib.hid (itoaC W2 er he.1 he.2 (HT.out.below hB2))
      clear h0 he c0 c1 o2 hb1 hb2 hb2'
      go_enter Tryd.func4, Tryd.ntmps4
      go_wp2_with (first | rw [← hW1] | rw [← hW2])
      clear hW1 hW2
      refine HF.out.mono ?_
      rintro e w3 ⟨rfl, hb3⟩
      have g3 := cell_below g1 hb3
      have hB3 := bthen hB2 hb3
      have hsz3 := hB3.size
      obtain ⟨W4, hW4⟩ : ∃ W4, W4 = w3.alloc (.cells #[.string ⟨#[101, 114, 114, 111, 114]⟩, .string ⟨(Lib.itoa er).toArray⟩] 9) := ⟨_, rfl⟩
      have hb4 : Below w3.heap.size w3 W4 := by rw [hW4]; exact (Below.refl _ w3).alloc (Nat.le_refl _) _
      have o4 : W4.ownsRow w.heap.size 9 1 (.slice (some ⟨w3.heap.size, 0, none⟩) 2 2) 2 ([errT, Lib.itoa er].map stC) := by
        rw [hW4]; exact World.ownsRow_lit (base := w.heap.size) w3 #[_, _] 2 hsz3 (by decide) rfl
      have g4 := cell_below g3 hb4
      have HM := Lib.hid (show W4.ownsRow w.heap.size 9 1 (.slice (some ⟨w3.heap.size, 0, none⟩) 2 2) (wordsT er (ns.take 0)).length ((wordsT er (ns.take 0)).map stC) ∧ Below w.heap.size w W4 by rw [HW.out]; exact ⟨o4, bthen hB3 hb4⟩)
      have HW4 := Lib.hid hW4
      clear HF hB2 hb3 hb4 o4 g0 g1 g3 HW hs1 hB3 hW4
      go_wp2_with (rw [← HW4.out])
      clear HW4 g4
      go_loopw [3, 5, 17] (fun o x i wr => ∃ (k : Nat) (v : Value), k ≤ n ∧ i = .int .i64 k ∧ o = v ∧ wr.ownsRow w.heap.size 9 1 v (wordsT er (ns.take k)).length ((wordsT er (ns.take k)).map stC) ∧ Below w.heap.size w wr) (fun _ _ i _ => n - (intOf i).toNat)
      case atStart => exact ⟨0, _, by omega, rfl, rfl, HM.out.1, HM.out.2⟩
      case round =>
        clear HM
        obtain ⟨k, v, hk, rfl, rfl, hst, hbl⟩ := hrel
        by_cases hlt : k < n
        · have hk' : k < ns.length := by rw [hl]; exact hlt
          have sr := HS.out.below hbl
          obtain ⟨b, off, hA⟩ := sr.form (by omega)
          have HA := Lib.hid hA
          rw [hA] at sr
          have ga := sr.word0 k hk'
          have hx := hb _ (List.getElem_mem hk')
          have Hw := Lib.hid (wordsT_take er ns k hk')
          obtain ⟨x, hx0⟩ : ∃ x, x = ns[k] := ⟨_, rfl⟩
          rw [← hx0] at ga hx Hw
          have HX := Lib.hid hx
          have HK := Lib.hid hk'
          clear hx0 sr hx hk'
          subst hA
          have hk0 : (0 : Int) ≤ (k : Int) := Int.natCast_nonneg _
          have hk1 : (k : Int) < (n : Int) := by omega
          have H1 := Lib.hid (And.intro hst hbl)
          have HF := Lib.hid (fmtInt wr x HX.out.1 HX.out.2 (HT.out.below hbl))
          clear hst hbl
          go_wp2_with fail
          refine HF.out.mono ?_
          rintro e w2 ⟨rfl, hb2⟩
          clear HF
          have o2 := own_below H1.out.1 hb2
          have hbl2 := bthen H1.out.2 hb2
          have hsz := hbl2.size
          have hlw : (wordsT er (ns.take k)).length ≤ 8194 := (showT_len er HB.out.1 (ns.take k) (fun z hz => HB.out.2.1 z (List.mem_of_mem_take hz)) (by have := HK.out; have := HB.out.2.2; simp; omega)).1
          clear H1
          go_wp2_with (first | (at_builtin; refine Stopped.out ?_) | (at_make; refine Stopped.out ?_))
          refine Stopped.mk (apk_own EStr rfl (.tmp 21) (.tmp 24) rfl rfl (o2.alloc _) rfl (Sl.fresh w2 [_] 9 1 1 rfl (by decide)) (by simp [Value.oneCell']) (by simp only [maxLen]; omega) (by omega) (by simp; omega) ?_)
          intro v3 w3 o3 hg3 _
          have HN := Lib.hid (And.intro o3 ((hbl2.alloc hsz _).grown hg3 (by simp; omega) (fun k hk => (o2.lt k hk).1)))
          clear o2 o3 hg3
          go_wp2
          first | go_roundw | refine ⟨?rel, ?measure⟩
          case rel => exact ⟨k + 1, v3, by omega, by go_num, rfl, by rw [Hw.out, List.map_append, List.length_append]; exact HN.out.1, HN.out.2⟩
          case measure => simp [intOf]; omega
        · obtain rfl : k = n := by omega
          have HE := Lib.hid (show ns.take k = ns from List.take_of_length_le (by omega))
          rw [HE.out] at hst
          clear HE hlt
          have HJ := Lib.hid (join_own wr hst (by obtain ⟨y, r, hy⟩ := words_ne er ns; rw [hy]; simp) (by have := HL.out; omega) (by have := HL.out.2; unfold showT at this; omega))
          have H1 := Lib.hid hbl
          clear hst hbl
          go_wp2_with fail
          refine HJ.out.mono ?_
          rintro e w2 ⟨rfl, hb2⟩
          clear HJ
          go_wp2
          go_ret
          exact ⟨rfl, bthen H1.out hb2⟩
  exact HH.out
end Go.Proofs.YtcpbdgedbjbgfaaDoor
