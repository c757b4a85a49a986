import Derived.Deep.RegionHeld3
import Derived.Test.YtcpbdgedbjbgfaaDoorShShow
set_option linter.unusedVariables false
set_option linter.unusedSimpArgs false
namespace Go.Proofs.YtcpbdgedbjbgfaaDoor
open Go.RowKit
set_option maxRecDepth 100000 in
set_option maxHeartbeats 3200000 in
theorem ScriptShows_walk (W : World) (er es : Int) (he : bI er) (hg : bI es) {A B : Option Addr} {n c m d : Nat} {ns ms : List Int} (ha : Sl W 1 A n c (ns.map (Value.int .i64))) (hb : Sl W 1 B m d (ms.map (Value.int .i64))) (h1 : ∀ k ∈ ns, bI k) (h2 : ∀ k ∈ ms, bI k) (htab : tabOk W) :
    Calls Tryd.prog 3 #[.agg #[.int .i64 er, .slice A n c], .agg #[.int .i64 es, .slice B m d]] W fun e w' => e = .returned (.bool true) ∧ Below W.heap.size W w' := by
  have hl : ns.length = n := by simpa using ha.len
  have hr : ms.length = m := by simpa using hb.len
  have n1 := ha.le; have n2 := ha.max; have m1 := hb.le; have m2 := hb.max
  have H0 := Lib.hid (((Below.refl W.heap.size W).alloc (Nat.le_refl _) (.cells #[.int .i64 er, .slice A n c] 25)).alloc (by simp) (.cells #[.int .i64 es, .slice B m d] 25))
  by_cases hn : 8192 < n
  · have i0 : (8192 : Int) < (n : Int) := by omega
    clear hn
    go_enter Tryd.func3, Tryd.ntmps3
    go_wp2
    go_ret
    exact ⟨rfl, H0.out⟩
  have i0 : decide ((8192 : Int) < (n : Int)) = false := decide_eq_false (by omega)
  by_cases hm : 8192 < m
  · have i1 : (8192 : Int) < (m : Int) := by omega
    clear hn hm
    go_enter Tryd.func3, Tryd.ntmps3
    go_wp2
    go_ret
    exact ⟨rfl, H0.out⟩
  have i1 : decide ((8192 : Int) < (m : Int)) = false := decide_eq_false (by omega)
  have HN := Lib.hid (And.intro (show n ≤ 8192 by omega) (show m ≤ 8192 by omega))
  clear hn hm
  obtain ⟨W1, hW1⟩ : ∃ W1, W1 = (W.alloc (.cells #[.int .i64 er, .slice A n c] 25)).alloc (.cells #[.int .i64 es, .slice B m d] 25) := ⟨_, rfl⟩
  have hB1 : Below W.heap.size W W1 := by rw [hW1]; exact H0.out
  have x0 : W1.heap[W.heap.size]? = some (.cells #[.int .i64 er, .slice A n c] 25 (0, 0)) := by rw [hW1]; exact heap_below (heap_alloc_new W _) ((Below.refl _ _).alloc (Nat.le_refl _) _)
  have x1 : W1.heap[W.heap.size + 1]? = some (.cells #[.int .i64 es, .slice B m d] 25 (0, 0)) := by
    rw [hW1]
    have := heap_alloc_new (W.alloc (.cells #[.int .i64 er, .slice A n c] 25)) (.cells #[.int .i64 es, .slice B m d] 25)
    rwa [World.size_alloc] at this
  have a0 : W1.cell? ⟨W.heap.size, 0, none⟩ = some (.int .i64 er) := box_cell x0 0 _ rfl
  have a1 : W1.cell? ⟨W.heap.size, 1, none⟩ = some (.slice A n c) := box_cell x0 1 _ rfl
  have b0 : W1.cell? ⟨W.heap.size + 1, 0, none⟩ = some (.int .i64 es) := box_cell x1 0 _ rfl
  have b1 : W1.cell? ⟨W.heap.size + 1, 1, none⟩ = some (.slice B m d) := box_cell x1 1 _ rfl
  have sa := ha.below hB1
  have sb := hb.below hB1
  have ht1 := htab.below hB1
  have HS1 : Hid (∀ w, Below W1.heap.size W1 w → Calls Tryd.prog 4 #[.agg #[.int .i64 er, .slice A n c]] w fun e w' => e = .returned (.string ⟨(showT er ns).toArray⟩) ∧ Below w.heap.size w w') := Lib.hid fun w k => show25 w er he (sa.below k) h1 HN.out.1 (ht1.below k)
  have HS2 : Hid (∀ w, Below W1.heap.size W1 w → Calls Tryd.prog 4 #[.agg #[.int .i64 es, .slice B m d]] w fun e w' => e = .returned (.string ⟨(showT es ms).toArray⟩) ∧ Below w.heap.size w w') := Lib.hid fun w k => show25 w es hg (sb.below k) h2 HN.out.2 (ht1.below k)
  have HS3 : Hid (∀ w, Below W1.heap.size W1 w → Calls Tryd.prog 4 #[.agg #[.int .i64 0, .slice none 0 0]] w fun e w' => e = .returned (.string ⟨#[111, 107]⟩) ∧ Below w.heap.size w w') := Lib.hid fun w k => by
    have := show25 w 0 (by unfold bI; omega) (ns := []) (Sl.nilS w 1) (by simp) (by omega) (ht1.below k)
    rwa [show showT 0 [] = okT from rfl] at this
  have HL := Lib.hid (And.intro hl hr)
  have HSa := Lib.hid sa; have HSb := Lib.hid sb
  clear x0 x1 ha hb htab ht1 hl hr sa sb h1 h2 he hg
  by_cases hes : er = es
  · have p1 : ((er : Int) == es) = true := by simp [hes]
    by_cases hnm : n = m
    · have p2 : ((n : Int) == m) = true := by simp [hnm]
      have HQ : Hid (∀ q : Bool, q = true → (q = true → er = es ∧ n = m ∧ ns.take 0 = ms.take 0) ∧ (q = false → ¬ (er = es ∧ ns = ms))) := Lib.hid (fun q e => by subst e; exact ⟨fun _ => ⟨hes, hnm, by simp⟩, fun h => by cases h⟩)
      clear hes hnm
      go_enter Tryd.func3, Tryd.ntmps3
      go_wp2_with (rw [← hW1])
      clear hW1
      go_loopw [5, 6] (fun a i wr => ∃ (k : Nat) (q : Bool), k ≤ n ∧ i = .int .i64 k ∧ a = .bool q ∧ Hid ((q = true → er = es ∧ n = m ∧ ns.take k = ms.take k) ∧ (q = false → ¬ (er = es ∧ ns = ms))) ∧ Drawn W1 wr) (fun _ i _ => n - (intOf i).toNat)
      case atStart => exact ⟨0, _, by omega, rfl, rfl, Lib.hid (HQ.out _ rfl), Drawn.refl _⟩
      case round =>
        clear HQ
        obtain ⟨k, q, hk, rfl, rfl, hq, hw⟩ := hrel
        obtain ⟨dq, rfl⟩ := hw.out
        have hk0 : (0 : Int) ≤ (k : Int) := Int.natCast_nonneg _
        have hDone : ∀ b : Bool, Hid (b = decide (er = es ∧ ns = ms)) → (showT er ns == showT es ms) = b := fun b hb => by
          rw [hb.out]
          have h : (showT er ns == showT es ms) = decide (showT er ns = showT es ms) := by
            by_cases he : showT er ns = showT es ms
            · rw [decide_eq_true he]; simp [he]
            · rw [decide_eq_false he]; simp [he]
          rw [h]
          exact decide_eq_decide.2 ⟨fun h => showT_inj h, fun h => by rw [h.1, h.2]⟩
        by_cases hlt : q = true ∧ k < n
        · obtain ⟨rfl, hlt⟩ := hlt
          have hqq := hq.out.1 rfl
          have hkn : k < ns.length := by rw [HL.out.1]; exact hlt
          have hkm : k < ms.length := by rw [HL.out.2, ← hqq.2.1]; exact hlt
          obtain ⟨b1, o1, hA⟩ := HSa.out.form (by omega)
          obtain ⟨b2, o2, hB⟩ := HSb.out.form (by have := HL.out.2; omega)
          have sa := HSa.out; have sb := HSb.out
          rw [hA] at sa; rw [hB] at sb
          have ga := sa.word0 k hkn
          have gb := sb.word0 k hkm
          have Ta := Lib.hid (List.take_succ_eq_append_getElem hkn)
          have Tb := Lib.hid (List.take_succ_eq_append_getElem hkm)
          have Na := Lib.hid (show ns[k]? = some ns[k] from List.getElem?_eq_getElem hkn)
          have Nb := Lib.hid (show ms[k]? = some ms[k] from List.getElem?_eq_getElem hkm)
          obtain ⟨x, hx⟩ : ∃ x, x = ns[k] := ⟨_, rfl⟩
          obtain ⟨y, hy⟩ : ∃ y, y = ms[k] := ⟨_, rfl⟩
          rw [← hx] at ga Ta Na; rw [← hy] at gb Tb Nb
          have HA := Lib.hid hA; have HB := Lib.hid hB
          have hqh := Lib.hid hqq
          have HK := Lib.hid (And.intro hkn hkm)
          have hkm0 : k < m := by rw [← HL.out.2]; exact hkm
          clear hx hy sa sb hq hqq hkn hkm hDone
          subst hA; subst hB
          have hk1 : (k : Int) < (n : Int) := by omega
          have hk2 : (k : Int) < (m : Int) := by omega
          obtain ⟨z, hz⟩ : ∃ z : Bool, z = (x == y) := ⟨_, rfl⟩
          have HZ := Lib.hid hz
          have hxy : ((x : Int) == y) = z := hz.symm
          clear hz
          go_wp2
          go_quiet (fail)
          go_wp2
          first | go_roundw | refine ⟨?rel, ?measure⟩
          case rel => exact ⟨k + 1, z, by omega, by go_num, rfl, Lib.hid ⟨fun h => ⟨hqh.out.1, hqh.out.2.1, by rw [Ta.out, Tb.out, hqh.out.2.2, show x = y from eq_of_beq (HZ.out.symm.trans h)]⟩, fun h hh => by
            have e1 := Na.out; have e2 := Nb.out
            rw [hh.2, e2] at e1
            have := Option.some.inj e1
            rw [h, this] at HZ
            have := HZ.out
            simp at this⟩, (by first | exact ⟨⟨_, rfl⟩⟩ | exact ⟨⟨_, World.drewN_drewN ..⟩⟩)⟩
          case measure => simp [intOf]; omega
        · have HD := hDone q (Lib.hid (by
            cases q with
            | false => exact (decide_eq_false (hq.out.2 rfl)).symm
            | true =>
              have h := hq.out.1 rfl
              have hkn : k = n := by by_cases h2 : k < n; exact absurd ⟨rfl, h2⟩ hlt; omega
              refine (decide_eq_true ⟨h.1, ?_⟩).symm
              have h3 := h.2.2
              rwa [List.take_of_length_le (by have := HL.out.1; omega), List.take_of_length_le (by have := HL.out.2; omega)] at h3))
          have S1 := hB1
          clear hDone hq HL HSa HSb
          have hex : q = true → (n : Int) ≤ (k : Int) := fun h => Int.not_lt.1 (fun h2 => hlt ⟨h, by omega⟩)
          cases q
          all_goals (first | (have i9 := hex rfl) | skip)
          all_goals clear hex hlt
          all_goals go_wp2_with fail
          · skip
            refine wp_region_held_drew (S := (fun w' => w'.cell? ⟨W.heap.size, 0, none⟩ = some (.int .i64 er) ∧ w'.cell? ⟨W.heap.size, 1, none⟩ = some (.slice A n c) ∧ w'.cell? ⟨W.heap.size + 1, 0, none⟩ = some (.int .i64 es) ∧ w'.cell? ⟨W.heap.size + 1, 1, none⟩ = some (.slice B m d))) (by kernel_rfl) (by (first | exact ⟨a0, a1, b0, b1⟩ | exact ⟨a4, a5, b4, b5⟩ | exact ⟨a6, a7, b6, b7⟩ | exact ⟨a8, a9, b8, b9⟩)) (fun hHeld => ?_)
            refine wpAnyH_take (i := 0) (v := ?_) (by simp only [List.getElem?_toArray, List.getElem?_cons_succ, List.getElem?_cons_zero]; rfl) (by kernel_rfl) (by kernel_rfl) (by kernel_rfl) (by exact fun _ _ _ h => h) (Or.inl ⟨by rfl, ?_⟩) (by assumption) ?_
            rotate_left
            · (intro w hSw; (try dsimp only at hSw); go_simp; try with_reducible rfl)
            try simp only [Act.put, List.setIfInBounds_toArray, List.set_cons_zero, List.set_cons_succ]
            refine wpAnyH_take (i := 2) (v := ?_) (by simp only [List.getElem?_toArray, List.getElem?_cons_succ, List.getElem?_cons_zero]; rfl) (by kernel_rfl) (by kernel_rfl) (by kernel_rfl) (by exact fun _ _ _ h => h) (Or.inl ⟨by rfl, ?_⟩) (by assumption) ?_
            rotate_left
            · (intro w hSw; (try dsimp only at hSw); go_simp; try with_reducible rfl)
            try simp only [Act.put, List.setIfInBounds_toArray, List.set_cons_zero, List.set_cons_succ]
            refine wpAnyH_take (i := 5) (v := ?_) (by simp only [List.getElem?_toArray, List.getElem?_cons_succ, List.getElem?_cons_zero]; rfl) (by kernel_rfl) (by kernel_rfl) (by kernel_rfl) (by exact fun _ _ _ h => h) (Or.inl ⟨by rfl, ?_⟩) (by assumption) ?_
            rotate_left
            · (intro w hSw; (try dsimp only at hSw); go_simp; try with_reducible rfl)
            try simp only [Act.put, List.setIfInBounds_toArray, List.set_cons_zero, List.set_cons_succ]
            refine wpAnyH_ready (rs := [1]) (by kernel_rfl) (by simp) ?_
            refine AllReadyH.cons rfl (fun K hK => ?_) AllReadyH.nil
            rw [if_pos (by rfl)]
            (go_wp2_with fail; refine (HS1.out _ (by first | exact (Below.refl _ W1).drew.drew | exact (below_drewN (Below.refl _ W1) _).drew | exact below_drewN (Below.refl _ W1) _)).mono ?_; rintro e w4 ⟨rfl, hb4⟩; have k4 : Below W1.heap.size W1 w4 := bthen (below_drewN (Below.refl _ W1) _) hb4; have a4 := cell_below a0 k4; have a5 := cell_below a1 k4; have b4 := cell_below b0 k4; have b5 := cell_below b1 k4; try dsimp only)
            refine hK.out _ _ (by (first | exact ⟨a0, a1, b0, b1⟩ | exact ⟨a4, a5, b4, b5⟩ | exact ⟨a6, a7, b6, b7⟩ | exact ⟨a8, a9, b8, b9⟩)) (fun hHeld => ?_)
            clear hK K
            try simp only [Act.put, List.setIfInBounds_toArray, List.set_cons_zero, List.set_cons_succ]
            refine wpAnyH_ready (rs := [3]) (by kernel_rfl) (by simp) ?_
            refine AllReadyH.cons rfl (fun K hK => ?_) AllReadyH.nil
            rw [if_pos (by rfl)]
            (go_wp2_with fail; refine (HS2.out _ k4).mono ?_; rintro e w5 ⟨rfl, hb5⟩; have k5 : Below W1.heap.size W1 w5 := bthen k4 hb5; have a6 := cell_below a0 k5; have a7 := cell_below a1 k5; have b6 := cell_below b0 k5; have b7 := cell_below b1 k5; try dsimp only)
            refine hK.out _ _ (by (first | exact ⟨a0, a1, b0, b1⟩ | exact ⟨a4, a5, b4, b5⟩ | exact ⟨a6, a7, b6, b7⟩ | exact ⟨a8, a9, b8, b9⟩)) (fun hHeld => ?_)
            clear hK K
            try simp only [Act.put, List.setIfInBounds_toArray, List.set_cons_zero, List.set_cons_succ]
            refine wpAnyH_take (i := 4) (v := ?_) (by simp only [List.getElem?_toArray, List.getElem?_cons_succ, List.getElem?_cons_zero]; rfl) (by kernel_rfl) (by kernel_rfl) (by kernel_rfl) (by exact fun _ _ _ h => h) (Or.inl ⟨by rfl, ?_⟩) (by assumption) ?_
            rotate_left
            · (intro w hSw; (try dsimp only at hSw); go_simp; try with_reducible rfl)
            try simp only [Act.put, List.setIfInBounds_toArray, List.set_cons_zero, List.set_cons_succ]
            refine wpAnyH_take (i := 6) (v := ?_) (by simp only [List.getElem?_toArray, List.getElem?_cons_succ, List.getElem?_cons_zero]; rfl) (by kernel_rfl) (by kernel_rfl) (by kernel_rfl) (by exact fun _ _ _ h => h) (Or.inl ⟨by rfl, ?_⟩) (by assumption) ?_
            rotate_left
            · (intro w hSw; (try dsimp only at hSw); go_simp; try with_reducible rfl)
            try simp only [Act.put, List.setIfInBounds_toArray, List.set_cons_zero, List.set_cons_succ]
            refine wpAnyH_take (i := 7) (v := ?_) (by simp only [List.getElem?_toArray, List.getElem?_cons_succ, List.getElem?_cons_zero]; rfl) (by kernel_rfl) (by kernel_rfl) (by kernel_rfl) (by exact fun _ _ _ h => h) (Or.inl ⟨by rfl, ?_⟩) (by assumption) ?_
            rotate_left
            · (intro w hSw; (try dsimp only at hSw); go_simp; try with_reducible rfl)
            try simp only [Act.put, List.setIfInBounds_toArray, List.set_cons_zero, List.set_cons_succ]
            refine wpAnyH_take (i := 8) (v := ?_) (by simp only [List.getElem?_toArray, List.getElem?_cons_succ, List.getElem?_cons_zero]; rfl) (by kernel_rfl) (by kernel_rfl) (by kernel_rfl) (by exact fun _ _ _ h => h) (Or.inl ⟨by rfl, ?_⟩) (by assumption) ?_
            rotate_left
            · (intro w hSw; (try dsimp only at hSw); go_simp; try with_reducible rfl)
            try simp only [Act.put, List.setIfInBounds_toArray, List.set_cons_zero, List.set_cons_succ]
            refine wpAnyH_ready (rs := [9]) (by kernel_rfl) (by simp) ?_
            refine AllReadyH.cons rfl (fun K hK => ?_) AllReadyH.nil
            rw [if_pos (by rfl)]
            (go_wp2_with fail; refine (HS3.out _ k5).mono ?_; rintro e w6 ⟨rfl, hb6⟩; have k6 : Below W1.heap.size W1 w6 := bthen k5 hb6; have a8 := cell_below a0 k6; have a9 := cell_below a1 k6; have b8 := cell_below b0 k6; have b9 := cell_below b1 k6; try dsimp only)
            refine hK.out _ _ (by (first | exact ⟨a0, a1, b0, b1⟩ | exact ⟨a4, a5, b4, b5⟩ | exact ⟨a6, a7, b6, b7⟩ | exact ⟨a8, a9, b8, b9⟩)) (fun hHeld => ?_)
            clear hK K
            try simp only [Act.put, List.setIfInBounds_toArray, List.set_cons_zero, List.set_cons_succ]
            refine wpAnyH_take (i := 10) (v := ?_) (by simp only [List.getElem?_toArray, List.getElem?_cons_succ, List.getElem?_cons_zero]; rfl) (by kernel_rfl) (by kernel_rfl) (by kernel_rfl) (by exact fun _ _ _ h => h) (Or.inl ⟨by rfl, ?_⟩) (by assumption) ?_
            rotate_left
            · (intro w hSw; (try dsimp only at hSw); go_simp; try with_reducible rfl)
            try simp only [Act.put, List.setIfInBounds_toArray, List.set_cons_zero, List.set_cons_succ]
            refine wpAnyH_take (i := 11) (v := ?_) (by simp only [List.getElem?_toArray, List.getElem?_cons_succ, List.getElem?_cons_zero]; rfl) (by kernel_rfl) (by kernel_rfl) (by kernel_rfl) (by exact fun _ _ _ h => h) (Or.inl ⟨by rfl, ?_⟩) (by assumption) ?_
            rotate_left
            · (intro w hSw; (try dsimp only at hSw); go_simp; try with_reducible rfl)
            try simp only [Act.put, List.setIfInBounds_toArray, List.set_cons_zero, List.set_cons_succ]
            refine wpAnyH_take (i := 12) (v := ?_) (by simp only [List.getElem?_toArray, List.getElem?_cons_succ, List.getElem?_cons_zero]; rfl) (by kernel_rfl) (by kernel_rfl) (by kernel_rfl) (by exact fun _ _ _ h => h) (Or.inl ⟨by rfl, ?_⟩) (by assumption) ?_
            rotate_left
            · (intro w hSw; (try dsimp only at hSw); go_simp; try with_reducible rfl)
            try simp only [Act.put, List.setIfInBounds_toArray, List.set_cons_zero, List.set_cons_succ]
            refine wpAnyH_done (by kernel_rfl) ?_ _
            go_wp2
            go_ret
            exact ⟨rfl, bthen S1 k6⟩
          · skip
            refine wp_region_held_drew (S := (fun w' => w'.cell? ⟨W.heap.size, 0, none⟩ = some (.int .i64 er) ∧ w'.cell? ⟨W.heap.size, 1, none⟩ = some (.slice A n c) ∧ w'.cell? ⟨W.heap.size + 1, 0, none⟩ = some (.int .i64 es) ∧ w'.cell? ⟨W.heap.size + 1, 1, none⟩ = some (.slice B m d))) (by kernel_rfl) (by (first | exact ⟨a0, a1, b0, b1⟩ | exact ⟨a4, a5, b4, b5⟩ | exact ⟨a6, a7, b6, b7⟩ | exact ⟨a8, a9, b8, b9⟩)) (fun hHeld => ?_)
            refine wpAnyH_take (i := 0) (v := ?_) (by simp only [List.getElem?_toArray, List.getElem?_cons_succ, List.getElem?_cons_zero]; rfl) (by kernel_rfl) (by kernel_rfl) (by kernel_rfl) (by exact fun _ _ _ h => h) (Or.inl ⟨by rfl, ?_⟩) (by assumption) ?_
            rotate_left
            · (intro w hSw; (try dsimp only at hSw); go_simp; try with_reducible rfl)
            try simp only [Act.put, List.setIfInBounds_toArray, List.set_cons_zero, List.set_cons_succ]
            refine wpAnyH_take (i := 2) (v := ?_) (by simp only [List.getElem?_toArray, List.getElem?_cons_succ, List.getElem?_cons_zero]; rfl) (by kernel_rfl) (by kernel_rfl) (by kernel_rfl) (by exact fun _ _ _ h => h) (Or.inl ⟨by rfl, ?_⟩) (by assumption) ?_
            rotate_left
            · (intro w hSw; (try dsimp only at hSw); go_simp; try with_reducible rfl)
            try simp only [Act.put, List.setIfInBounds_toArray, List.set_cons_zero, List.set_cons_succ]
            refine wpAnyH_take (i := 5) (v := ?_) (by simp only [List.getElem?_toArray, List.getElem?_cons_succ, List.getElem?_cons_zero]; rfl) (by kernel_rfl) (by kernel_rfl) (by kernel_rfl) (by exact fun _ _ _ h => h) (Or.inl ⟨by rfl, ?_⟩) (by assumption) ?_
            rotate_left
            · (intro w hSw; (try dsimp only at hSw); go_simp; try with_reducible rfl)
            try simp only [Act.put, List.setIfInBounds_toArray, List.set_cons_zero, List.set_cons_succ]
            refine wpAnyH_ready (rs := [1]) (by kernel_rfl) (by simp) ?_
            refine AllReadyH.cons rfl (fun K hK => ?_) AllReadyH.nil
            rw [if_pos (by rfl)]
            (go_wp2_with fail; refine (HS1.out _ (by first | exact (Below.refl _ W1).drew.drew | exact (below_drewN (Below.refl _ W1) _).drew | exact below_drewN (Below.refl _ W1) _)).mono ?_; rintro e w4 ⟨rfl, hb4⟩; have k4 : Below W1.heap.size W1 w4 := bthen (below_drewN (Below.refl _ W1) _) hb4; have a4 := cell_below a0 k4; have a5 := cell_below a1 k4; have b4 := cell_below b0 k4; have b5 := cell_below b1 k4; try dsimp only)
            refine hK.out _ _ (by (first | exact ⟨a0, a1, b0, b1⟩ | exact ⟨a4, a5, b4, b5⟩ | exact ⟨a6, a7, b6, b7⟩ | exact ⟨a8, a9, b8, b9⟩)) (fun hHeld => ?_)
            clear hK K
            try simp only [Act.put, List.setIfInBounds_toArray, List.set_cons_zero, List.set_cons_succ]
            refine wpAnyH_ready (rs := [3]) (by kernel_rfl) (by simp) ?_
            refine AllReadyH.cons rfl (fun K hK => ?_) AllReadyH.nil
            rw [if_pos (by rfl)]
            (go_wp2_with fail; refine (HS2.out _ k4).mono ?_; rintro e w5 ⟨rfl, hb5⟩; have k5 : Below W1.heap.size W1 w5 := bthen k4 hb5; have a6 := cell_below a0 k5; have a7 := cell_below a1 k5; have b6 := cell_below b0 k5; have b7 := cell_below b1 k5; try dsimp only)
            refine hK.out _ _ (by (first | exact ⟨a0, a1, b0, b1⟩ | exact ⟨a4, a5, b4, b5⟩ | exact ⟨a6, a7, b6, b7⟩ | exact ⟨a8, a9, b8, b9⟩)) (fun hHeld => ?_)
            clear hK K
            try simp only [Act.put, List.setIfInBounds_toArray, List.set_cons_zero, List.set_cons_succ]
            refine wpAnyH_take (i := 4) (v := ?_) (by simp only [List.getElem?_toArray, List.getElem?_cons_succ, List.getElem?_cons_zero]; rfl) (by kernel_rfl) (by kernel_rfl) (by kernel_rfl) (by exact fun _ _ _ h => h) (Or.inl ⟨by rfl, ?_⟩) (by assumption) ?_
            rotate_left
            · (intro w hSw; (try dsimp only at hSw); go_simp; try with_reducible rfl)
            try simp only [Act.put, List.setIfInBounds_toArray, List.set_cons_zero, List.set_cons_succ]
            refine wpAnyH_take (i := 6) (v := ?_) (by simp only [List.getElem?_toArray, List.getElem?_cons_succ, List.getElem?_cons_zero]; rfl) (by kernel_rfl) (by kernel_rfl) (by kernel_rfl) (by exact fun _ _ _ h => h) (Or.inl ⟨by rfl, ?_⟩) (by assumption) ?_
            rotate_left
            · (intro w hSw; (try dsimp only at hSw); go_simp; try with_reducible rfl)
            try simp only [Act.put, List.setIfInBounds_toArray, List.set_cons_zero, List.set_cons_succ]
            refine wpAnyH_take (i := 7) (v := ?_) (by simp only [List.getElem?_toArray, List.getElem?_cons_succ, List.getElem?_cons_zero]; rfl) (by kernel_rfl) (by kernel_rfl) (by kernel_rfl) (by exact fun _ _ _ h => h) (Or.inl ⟨by rfl, ?_⟩) (by assumption) ?_
            rotate_left
            · (intro w hSw; (try dsimp only at hSw); go_simp; try with_reducible rfl)
            try simp only [Act.put, List.setIfInBounds_toArray, List.set_cons_zero, List.set_cons_succ]
            refine wpAnyH_take (i := 8) (v := ?_) (by simp only [List.getElem?_toArray, List.getElem?_cons_succ, List.getElem?_cons_zero]; rfl) (by kernel_rfl) (by kernel_rfl) (by kernel_rfl) (by exact fun _ _ _ h => h) (Or.inl ⟨by rfl, ?_⟩) (by assumption) ?_
            rotate_left
            · (intro w hSw; (try dsimp only at hSw); go_simp; try with_reducible rfl)
            try simp only [Act.put, List.setIfInBounds_toArray, List.set_cons_zero, List.set_cons_succ]
            refine wpAnyH_ready (rs := [9]) (by kernel_rfl) (by simp) ?_
            refine AllReadyH.cons rfl (fun K hK => ?_) AllReadyH.nil
            rw [if_pos (by rfl)]
            (go_wp2_with fail; refine (HS3.out _ k5).mono ?_; rintro e w6 ⟨rfl, hb6⟩; have k6 : Below W1.heap.size W1 w6 := bthen k5 hb6; have a8 := cell_below a0 k6; have a9 := cell_below a1 k6; have b8 := cell_below b0 k6; have b9 := cell_below b1 k6; try dsimp only)
            refine hK.out _ _ (by (first | exact ⟨a0, a1, b0, b1⟩ | exact ⟨a4, a5, b4, b5⟩ | exact ⟨a6, a7, b6, b7⟩ | exact ⟨a8, a9, b8, b9⟩)) (fun hHeld => ?_)
            clear hK K
            try simp only [Act.put, List.setIfInBounds_toArray, List.set_cons_zero, List.set_cons_succ]
            refine wpAnyH_take (i := 10) (v := ?_) (by simp only [List.getElem?_toArray, List.getElem?_cons_succ, List.getElem?_cons_zero]; rfl) (by kernel_rfl) (by kernel_rfl) (by kernel_rfl) (by exact fun _ _ _ h => h) (Or.inl ⟨by rfl, ?_⟩) (by assumption) ?_
            rotate_left
            · (intro w hSw; (try dsimp only at hSw); go_simp; try with_reducible rfl)
            try simp only [Act.put, List.setIfInBounds_toArray, List.set_cons_zero, List.set_cons_succ]
            refine wpAnyH_take (i := 11) (v := ?_) (by simp only [List.getElem?_toArray, List.getElem?_cons_succ, List.getElem?_cons_zero]; rfl) (by kernel_rfl) (by kernel_rfl) (by kernel_rfl) (by exact fun _ _ _ h => h) (Or.inl ⟨by rfl, ?_⟩) (by assumption) ?_
            rotate_left
            · (intro w hSw; (try dsimp only at hSw); go_simp; try with_reducible rfl)
            try simp only [Act.put, List.setIfInBounds_toArray, List.set_cons_zero, List.set_cons_succ]
            refine wpAnyH_take (i := 12) (v := ?_) (by simp only [List.getElem?_toArray, List.getElem?_cons_succ, List.getElem?_cons_zero]; rfl) (by kernel_rfl) (by kernel_rfl) (by kernel_rfl) (by exact fun _ _ _ h => h) (Or.inl ⟨by rfl, ?_⟩) (by assumption) ?_
            rotate_left
            · (intro w hSw; (try dsimp only at hSw); go_simp; try with_reducible rfl)
            try simp only [Act.put, List.setIfInBounds_toArray, List.set_cons_zero, List.set_cons_succ]
            refine wpAnyH_done (by kernel_rfl) ?_ _
            go_wp2
            go_ret
            exact ⟨rfl, bthen S1 k6⟩
    · have p2 : ((n : Int) == m) = false := by simp; omega
      have HQ : Hid (∀ q : Bool, q = false → (q = true → er = es ∧ n = m ∧ ns.take 0 = ms.take 0) ∧ (q = false → ¬ (er = es ∧ ns = ms))) := Lib.hid (fun q e => by subst e; exact ⟨(fun h => by cases h), fun _ h => hnm (by rw [← HL.out.1, ← HL.out.2, h.2])⟩)
      clear hes hnm
      go_enter Tryd.func3, Tryd.ntmps3
      go_wp2_with (rw [← hW1])
      clear hW1
      go_loopw [5, 6] (fun a i wr => ∃ (k : Nat) (q : Bool), k ≤ n ∧ i = .int .i64 k ∧ a = .bool q ∧ Hid ((q = true → er = es ∧ n = m ∧ ns.take k = ms.take k) ∧ (q = false → ¬ (er = es ∧ ns = ms))) ∧ Drawn W1 wr) (fun _ i _ => n - (intOf i).toNat)
      case atStart => exact ⟨0, _, by omega, rfl, rfl, Lib.hid (HQ.out _ rfl), Drawn.refl _⟩
      case round =>
        clear HQ
        obtain ⟨k, q, hk, rfl, rfl, hq, hw⟩ := hrel
        obtain ⟨dq, rfl⟩ := hw.out
        have hk0 : (0 : Int) ≤ (k : Int) := Int.natCast_nonneg _
        have hDone : ∀ b : Bool, Hid (b = decide (er = es ∧ ns = ms)) → (showT er ns == showT es ms) = b := fun b hb => by
          rw [hb.out]
          have h : (showT er ns == showT es ms) = decide (showT er ns = showT es ms) := by
            by_cases he : showT er ns = showT es ms
            · rw [decide_eq_true he]; simp [he]
            · rw [decide_eq_false he]; simp [he]
          rw [h]
          exact decide_eq_decide.2 ⟨fun h => showT_inj h, fun h => by rw [h.1, h.2]⟩
        by_cases hlt : q = true ∧ k < n
        · obtain ⟨rfl, hlt⟩ := hlt
          have hqq := hq.out.1 rfl
          have hkn : k < ns.length := by rw [HL.out.1]; exact hlt
          have hkm : k < ms.length := by rw [HL.out.2, ← hqq.2.1]; exact hlt
          obtain ⟨b1, o1, hA⟩ := HSa.out.form (by omega)
          obtain ⟨b2, o2, hB⟩ := HSb.out.form (by have := HL.out.2; omega)
          have sa := HSa.out; have sb := HSb.out
          rw [hA] at sa; rw [hB] at sb
          have ga := sa.word0 k hkn
          have gb := sb.word0 k hkm
          have Ta := Lib.hid (List.take_succ_eq_append_getElem hkn)
          have Tb := Lib.hid (List.take_succ_eq_append_getElem hkm)
          have Na := Lib.hid (show ns[k]? = some ns[k] from List.getElem?_eq_getElem hkn)
          have Nb := Lib.hid (show ms[k]? = some ms[k] from List.getElem?_eq_getElem hkm)
          obtain ⟨x, hx⟩ : ∃ x, x = ns[k] := ⟨_, rfl⟩
          obtain ⟨y, hy⟩ : ∃ y, y = ms[k] := ⟨_, rfl⟩
          rw [← hx] at ga Ta Na; rw [← hy] at gb Tb Nb
          have HA := Lib.hid hA; have HB := Lib.hid hB
          have hqh := Lib.hid hqq
          have HK := Lib.hid (And.intro hkn hkm)
          have hkm0 : k < m := by rw [← HL.out.2]; exact hkm
          clear hx hy sa sb hq hqq hkn hkm hDone
          subst hA; subst hB
          have hk1 : (k : Int) < (n : Int) := by omega
          have hk2 : (k : Int) < (m : Int) := by omega
          obtain ⟨z, hz⟩ : ∃ z : Bool, z = (x == y) := ⟨_, rfl⟩
          have HZ := Lib.hid hz
          have hxy : ((x : Int) == y) = z := hz.symm
          clear hz
          go_wp2
          go_quiet (fail)
          go_wp2
          first | go_roundw | refine ⟨?rel, ?measure⟩
          case rel => exact ⟨k + 1, z, by omega, by go_num, rfl, Lib.hid ⟨fun h => ⟨hqh.out.1, hqh.out.2.1, by rw [Ta.out, Tb.out, hqh.out.2.2, show x = y from eq_of_beq (HZ.out.symm.trans h)]⟩, fun h hh => by
            have e1 := Na.out; have e2 := Nb.out
            rw [hh.2, e2] at e1
            have := Option.some.inj e1
            rw [h, this] at HZ
            have := HZ.out
            simp at this⟩, (by first | exact ⟨⟨_, rfl⟩⟩ | exact ⟨⟨_, World.drewN_drewN ..⟩⟩)⟩
          case measure => simp [intOf]; omega
        · have HD := hDone q (Lib.hid (by
            cases q with
            | false => exact (decide_eq_false (hq.out.2 rfl)).symm
            | true =>
              have h := hq.out.1 rfl
              have hkn : k = n := by by_cases h2 : k < n; exact absurd ⟨rfl, h2⟩ hlt; omega
              refine (decide_eq_true ⟨h.1, ?_⟩).symm
              have h3 := h.2.2
              rwa [List.take_of_length_le (by have := HL.out.1; omega), List.take_of_length_le (by have := HL.out.2; omega)] at h3))
          have S1 := hB1
          clear hDone hq HL HSa HSb
          have hex : q = true → (n : Int) ≤ (k : Int) := fun h => Int.not_lt.1 (fun h2 => hlt ⟨h, by omega⟩)
          cases q
          all_goals (first | (have i9 := hex rfl) | skip)
          all_goals clear hex hlt
          all_goals go_wp2_with fail
          · skip
            refine wp_region_held_drew (S := (fun w' => w'.cell? ⟨W.heap.size, 0, none⟩ = some (.int .i64 er) ∧ w'.cell? ⟨W.heap.size, 1, none⟩ = some (.slice A n c) ∧ w'.cell? ⟨W.heap.size + 1, 0, none⟩ = some (.int .i64 es) ∧ w'.cell? ⟨W.heap.size + 1, 1, none⟩ = some (.slice B m d))) (by kernel_rfl) (by (first | exact ⟨a0, a1, b0, b1⟩ | exact ⟨a4, a5, b4, b5⟩ | exact ⟨a6, a7, b6, b7⟩ | exact ⟨a8, a9, b8, b9⟩)) (fun hHeld => ?_)
            refine wpAnyH_take (i := 0) (v := ?_) (by simp only [List.getElem?_toArray, List.getElem?_cons_succ, List.getElem?_cons_zero]; rfl) (by kernel_rfl) (by kernel_rfl) (by kernel_rfl) (by exact fun _ _ _ h => h) (Or.inl ⟨by rfl, ?_⟩) (by assumption) ?_
            rotate_left
            · (intro w hSw; (try dsimp only at hSw); go_simp; try with_reducible rfl)
            try simp only [Act.put, List.setIfInBounds_toArray, List.set_cons_zero, List.set_cons_succ]
            refine wpAnyH_take (i := 2) (v := ?_) (by simp only [List.getElem?_toArray, List.getElem?_cons_succ, List.getElem?_cons_zero]; rfl) (by kernel_rfl) (by kernel_rfl) (by kernel_rfl) (by exact fun _ _ _ h => h) (Or.inl ⟨by rfl, ?_⟩) (by assumption) ?_
            rotate_left
            · (intro w hSw; (try dsimp only at hSw); go_simp; try with_reducible rfl)
            try simp only [Act.put, List.setIfInBounds_toArray, List.set_cons_zero, List.set_cons_succ]
            refine wpAnyH_take (i := 5) (v := ?_) (by simp only [List.getElem?_toArray, List.getElem?_cons_succ, List.getElem?_cons_zero]; rfl) (by kernel_rfl) (by kernel_rfl) (by kernel_rfl) (by exact fun _ _ _ h => h) (Or.inl ⟨by rfl, ?_⟩) (by assumption) ?_
            rotate_left
            · (intro w hSw; (try dsimp only at hSw); go_simp; try with_reducible rfl)
            try simp only [Act.put, List.setIfInBounds_toArray, List.set_cons_zero, List.set_cons_succ]
            refine wpAnyH_ready (rs := [1]) (by kernel_rfl) (by simp) ?_
            refine AllReadyH.cons rfl (fun K hK => ?_) AllReadyH.nil
            rw [if_pos (by rfl)]
            (go_wp2_with fail; refine (HS1.out _ (by first | exact (Below.refl _ W1).drew.drew | exact (below_drewN (Below.refl _ W1) _).drew | exact below_drewN (Below.refl _ W1) _)).mono ?_; rintro e w4 ⟨rfl, hb4⟩; have k4 : Below W1.heap.size W1 w4 := bthen (below_drewN (Below.refl _ W1) _) hb4; have a4 := cell_below a0 k4; have a5 := cell_below a1 k4; have b4 := cell_below b0 k4; have b5 := cell_below b1 k4; try dsimp only)
            refine hK.out _ _ (by (first | exact ⟨a0, a1, b0, b1⟩ | exact ⟨a4, a5, b4, b5⟩ | exact ⟨a6, a7, b6, b7⟩ | exact ⟨a8, a9, b8, b9⟩)) (fun hHeld => ?_)
            clear hK K
            try simp only [Act.put, List.setIfInBounds_toArray, List.set_cons_zero, List.set_cons_succ]
            refine wpAnyH_ready (rs := [3]) (by kernel_rfl) (by simp) ?_
            refine AllReadyH.cons rfl (fun K hK => ?_) AllReadyH.nil
            rw [if_pos (by rfl)]
            (go_wp2_with fail; refine (HS2.out _ k4).mono ?_; rintro e w5 ⟨rfl, hb5⟩; have k5 : Below W1.heap.size W1 w5 := bthen k4 hb5; have a6 := cell_below a0 k5; have a7 := cell_below a1 k5; have b6 := cell_below b0 k5; have b7 := cell_below b1 k5; try dsimp only)
            refine hK.out _ _ (by (first | exact ⟨a0, a1, b0, b1⟩ | exact ⟨a4, a5, b4, b5⟩ | exact ⟨a6, a7, b6, b7⟩ | exact ⟨a8, a9, b8, b9⟩)) (fun hHeld => ?_)
            clear hK K
            try simp only [Act.put, List.setIfInBounds_toArray, List.set_cons_zero, List.set_cons_succ]
            refine wpAnyH_take (i := 4) (v := ?_) (by simp only [List.getElem?_toArray, List.getElem?_cons_succ, List.getElem?_cons_zero]; rfl) (by kernel_rfl) (by kernel_rfl) (by kernel_rfl) (by exact fun _ _ _ h => h) (Or.inl ⟨by rfl, ?_⟩) (by assumption) ?_
            rotate_left
            · (intro w hSw; (try dsimp only at hSw); go_simp; try with_reducible rfl)
            try simp only [Act.put, List.setIfInBounds_toArray, List.set_cons_zero, List.set_cons_succ]
            refine wpAnyH_take (i := 6) (v := ?_) (by simp only [List.getElem?_toArray, List.getElem?_cons_succ, List.getElem?_cons_zero]; rfl) (by kernel_rfl) (by kernel_rfl) (by kernel_rfl) (by exact fun _ _ _ h => h) (Or.inl ⟨by rfl, ?_⟩) (by assumption) ?_
            rotate_left
            · (intro w hSw; (try dsimp only at hSw); go_simp; try with_reducible rfl)
            try simp only [Act.put, List.setIfInBounds_toArray, List.set_cons_zero, List.set_cons_succ]
            refine wpAnyH_take (i := 7) (v := ?_) (by simp only [List.getElem?_toArray, List.getElem?_cons_succ, List.getElem?_cons_zero]; rfl) (by kernel_rfl) (by kernel_rfl) (by kernel_rfl) (by exact fun _ _ _ h => h) (Or.inl ⟨by rfl, ?_⟩) (by assumption) ?_
            rotate_left
            · (intro w hSw; (try dsimp only at hSw); go_simp; try with_reducible rfl)
            try simp only [Act.put, List.setIfInBounds_toArray, List.set_cons_zero, List.set_cons_succ]
            refine wpAnyH_take (i := 8) (v := ?_) (by simp only [List.getElem?_toArray, List.getElem?_cons_succ, List.getElem?_cons_zero]; rfl) (by kernel_rfl) (by kernel_rfl) (by kernel_rfl) (by exact fun _ _ _ h => h) (Or.inl ⟨by rfl, ?_⟩) (by assumption) ?_
            rotate_left
            · (intro w hSw; (try dsimp only at hSw); go_simp; try with_reducible rfl)
            try simp only [Act.put, List.setIfInBounds_toArray, List.set_cons_zero, List.set_cons_succ]
            refine wpAnyH_ready (rs := [9]) (by kernel_rfl) (by simp) ?_
            refine AllReadyH.cons rfl (fun K hK => ?_) AllReadyH.nil
            rw [if_pos (by rfl)]
            (go_wp2_with fail; refine (HS3.out _ k5).mono ?_; rintro e w6 ⟨rfl, hb6⟩; have k6 : Below W1.heap.size W1 w6 := bthen k5 hb6; have a8 := cell_below a0 k6; have a9 := cell_below a1 k6; have b8 := cell_below b0 k6; have b9 := cell_below b1 k6; try dsimp only)
            refine hK.out _ _ (by (first | exact ⟨a0, a1, b0, b1⟩ | exact ⟨a4, a5, b4, b5⟩ | exact ⟨a6, a7, b6, b7⟩ | exact ⟨a8, a9, b8, b9⟩)) (fun hHeld => ?_)
            clear hK K
            try simp only [Act.put, List.setIfInBounds_toArray, List.set_cons_zero, List.set_cons_succ]
            refine wpAnyH_take (i := 10) (v := ?_) (by simp only [List.getElem?_toArray, List.getElem?_cons_succ, List.getElem?_cons_zero]; rfl) (by kernel_rfl) (by kernel_rfl) (by kernel_rfl) (by exact fun _ _ _ h => h) (Or.inl ⟨by rfl, ?_⟩) (by assumption) ?_
            rotate_left
            · (intro w hSw; (try dsimp only at hSw); go_simp; try with_reducible rfl)
            try simp only [Act.put, List.setIfInBounds_toArray, List.set_cons_zero, List.set_cons_succ]
            refine wpAnyH_take (i := 11) (v := ?_) (by simp only [List.getElem?_toArray, List.getElem?_cons_succ, List.getElem?_cons_zero]; rfl) (by kernel_rfl) (by kernel_rfl) (by kernel_rfl) (by exact fun _ _ _ h => h) (Or.inl ⟨by rfl, ?_⟩) (by assumption) ?_
            rotate_left
            · (intro w hSw; (try dsimp only at hSw); go_simp; try with_reducible rfl)
            try simp only [Act.put, List.setIfInBounds_toArray, List.set_cons_zero, List.set_cons_succ]
            refine wpAnyH_take (i := 12) (v := ?_) (by simp only [List.getElem?_toArray, List.getElem?_cons_succ, List.getElem?_cons_zero]; rfl) (by kernel_rfl) (by kernel_rfl) (by kernel_rfl) (by exact fun _ _ _ h => h) (Or.inl ⟨by rfl, ?_⟩) (by assumption) ?_
            rotate_left
            · (intro w hSw; (try dsimp only at hSw); go_simp; try with_reducible rfl)
            try simp only [Act.put, List.setIfInBounds_toArray, List.set_cons_zero, List.set_cons_succ]
            refine wpAnyH_done (by kernel_rfl) ?_ _
            go_wp2
            go_ret
            exact ⟨rfl, bthen S1 k6⟩
          · skip
            refine wp_region_held_drew (S := (fun w' => w'.cell? ⟨W.heap.size, 0, none⟩ = some (.int .i64 er) ∧ w'.cell? ⟨W.heap.size, 1, none⟩ = some (.slice A n c) ∧ w'.cell? ⟨W.heap.size + 1, 0, none⟩ = some (.int .i64 es) ∧ w'.cell? ⟨W.heap.size + 1, 1, none⟩ = some (.slice B m d))) (by kernel_rfl) (by (first | exact ⟨a0, a1, b0, b1⟩ | exact ⟨a4, a5, b4, b5⟩ | exact ⟨a6, a7, b6, b7⟩ | exact ⟨a8, a9, b8, b9⟩)) (fun hHeld => ?_)
            refine wpAnyH_take (i := 0) (v := ?_) (by simp only [List.getElem?_toArray, List.getElem?_cons_succ, List.getElem?_cons_zero]; rfl) (by kernel_rfl) (by kernel_rfl) (by kernel_rfl) (by exact fun _ _ _ h => h) (Or.inl ⟨by rfl, ?_⟩) (by assumption) ?_
            rotate_left
            · (intro w hSw; (try dsimp only at hSw); go_simp; try with_reducible rfl)
            try simp only [Act.put, List.setIfInBounds_toArray, List.set_cons_zero, List.set_cons_succ]
            refine wpAnyH_take (i := 2) (v := ?_) (by simp only [List.getElem?_toArray, List.getElem?_cons_succ, List.getElem?_cons_zero]; rfl) (by kernel_rfl) (by kernel_rfl) (by kernel_rfl) (by exact fun _ _ _ h => h) (Or.inl ⟨by rfl, ?_⟩) (by assumption) ?_
            rotate_left
            · (intro w hSw; (try dsimp only at hSw); go_simp; try with_reducible rfl)
            try simp only [Act.put, List.setIfInBounds_toArray, List.set_cons_zero, List.set_cons_succ]
            refine wpAnyH_take (i := 5) (v := ?_) (by simp only [List.getElem?_toArray, List.getElem?_cons_succ, List.getElem?_cons_zero]; rfl) (by kernel_rfl) (by kernel_rfl) (by kernel_rfl) (by exact fun _ _ _ h => h) (Or.inl ⟨by rfl, ?_⟩) (by assumption) ?_
            rotate_left
            · (intro w hSw; (try dsimp only at hSw); go_simp; try with_reducible rfl)
            try simp only [Act.put, List.setIfInBounds_toArray, List.set_cons_zero, List.set_cons_succ]
            refine wpAnyH_ready (rs := [1]) (by kernel_rfl) (by simp) ?_
            refine AllReadyH.cons rfl (fun K hK => ?_) AllReadyH.nil
            rw [if_pos (by rfl)]
            (go_wp2_with fail; refine (HS1.out _ (by first | exact (Below.refl _ W1).drew.drew | exact (below_drewN (Below.refl _ W1) _).drew | exact below_drewN (Below.refl _ W1) _)).mono ?_; rintro e w4 ⟨rfl, hb4⟩; have k4 : Below W1.heap.size W1 w4 := bthen (below_drewN (Below.refl _ W1) _) hb4; have a4 := cell_below a0 k4; have a5 := cell_below a1 k4; have b4 := cell_below b0 k4; have b5 := cell_below b1 k4; try dsimp only)
            refine hK.out _ _ (by (first | exact ⟨a0, a1, b0, b1⟩ | exact ⟨a4, a5, b4, b5⟩ | exact ⟨a6, a7, b6, b7⟩ | exact ⟨a8, a9, b8, b9⟩)) (fun hHeld => ?_)
            clear hK K
            try simp only [Act.put, List.setIfInBounds_toArray, List.set_cons_zero, List.set_cons_succ]
            refine wpAnyH_ready (rs := [3]) (by kernel_rfl) (by simp) ?_
            refine AllReadyH.cons rfl (fun K hK => ?_) AllReadyH.nil
            rw [if_pos (by rfl)]
            (go_wp2_with fail; refine (HS2.out _ k4).mono ?_; rintro e w5 ⟨rfl, hb5⟩; have k5 : Below W1.heap.size W1 w5 := bthen k4 hb5; have a6 := cell_below a0 k5; have a7 := cell_below a1 k5; have b6 := cell_below b0 k5; have b7 := cell_below b1 k5; try dsimp only)
            refine hK.out _ _ (by (first | exact ⟨a0, a1, b0, b1⟩ | exact ⟨a4, a5, b4, b5⟩ | exact ⟨a6, a7, b6, b7⟩ | exact ⟨a8, a9, b8, b9⟩)) (fun hHeld => ?_)
            clear hK K
            try simp only [Act.put, List.setIfInBounds_toArray, List.set_cons_zero, List.set_cons_succ]
            refine wpAnyH_take (i := 4) (v := ?_) (by simp only [List.getElem?_toArray, List.getElem?_cons_succ, List.getElem?_cons_zero]; rfl) (by kernel_rfl) (by kernel_rfl) (by kernel_rfl) (by exact fun _ _ _ h => h) (Or.inl ⟨by rfl, ?_⟩) (by assumption) ?_
            rotate_left
            · (intro w hSw; (try dsimp only at hSw); go_simp; try with_reducible rfl)
            try simp only [Act.put, List.setIfInBounds_toArray, List.set_cons_zero, List.set_cons_succ]
            refine wpAnyH_take (i := 6) (v := ?_) (by simp only [List.getElem?_toArray, List.getElem?_cons_succ, List.getElem?_cons_zero]; rfl) (by kernel_rfl) (by kernel_rfl) (by kernel_rfl) (by exact fun _ _ _ h => h) (Or.inl ⟨by rfl, ?_⟩) (by assumption) ?_
            rotate_left
            · (intro w hSw; (try dsimp only at hSw); go_simp; try with_reducible rfl)
            try simp only [Act.put, List.setIfInBounds_toArray, List.set_cons_zero, List.set_cons_succ]
            refine wpAnyH_take (i := 7) (v := ?_) (by simp only [List.getElem?_toArray, List.getElem?_cons_succ, List.getElem?_cons_zero]; rfl) (by kernel_rfl) (by kernel_rfl) (by kernel_rfl) (by exact fun _ _ _ h => h) (Or.inl ⟨by rfl, ?_⟩) (by assumption) ?_
            rotate_left
            · (intro w hSw; (try dsimp only at hSw); go_simp; try with_reducible rfl)
            try simp only [Act.put, List.setIfInBounds_toArray, List.set_cons_zero, List.set_cons_succ]
            refine wpAnyH_take (i := 8) (v := ?_) (by simp only [List.getElem?_toArray, List.getElem?_cons_succ, List.getElem?_cons_zero]; rfl) (by kernel_rfl) (by kernel_rfl) (by kernel_rfl) (by exact fun _ _ _ h => h) (Or.inl ⟨by rfl, ?_⟩) (by assumption) ?_
            rotate_left
            · (intro w hSw; (try dsimp only at hSw); go_simp; try with_reducible rfl)
            try simp only [Act.put, List.setIfInBounds_toArray, List.set_cons_zero, List.set_cons_succ]
            refine wpAnyH_ready (rs := [9]) (by kernel_rfl) (by simp) ?_
            refine AllReadyH.cons rfl (fun K hK => ?_) AllReadyH.nil
            rw [if_pos (by rfl)]
            (go_wp2_with fail; refine (HS3.out _ k5).mono ?_; rintro e w6 ⟨rfl, hb6⟩; have k6 : Below W1.heap.size W1 w6 := bthen k5 hb6; have a8 := cell_below a0 k6; have a9 := cell_below a1 k6; have b8 := cell_below b0 k6; have b9 := cell_below b1 k6; try dsimp only)
            refine hK.out _ _ (by (first | exact ⟨a0, a1, b0, b1⟩ | exact ⟨a4, a5, b4, b5⟩ | exact ⟨a6, a7, b6, b7⟩ | exact ⟨a8, a9, b8, b9⟩)) (fun hHeld => ?_)
            clear hK K
            try simp only [Act.put, List.setIfInBounds_toArray, List.set_cons_zero, List.set_cons_succ]
            refine wpAnyH_take (i := 10) (v := ?_) (by simp only [List.getElem?_toArray, List.getElem?_cons_succ, List.getElem?_cons_zero]; rfl) (by kernel_rfl) (by kernel_rfl) (by kernel_rfl) (by exact fun _ _ _ h => h) (Or.inl ⟨by rfl, ?_⟩) (by assumption) ?_
            rotate_left
            · (intro w hSw; (try dsimp only at hSw); go_simp; try with_reducible rfl)
            try simp only [Act.put, List.setIfInBounds_toArray, List.set_cons_zero, List.set_cons_succ]
            refine wpAnyH_take (i := 11) (v := ?_) (by simp only [List.getElem?_toArray, List.getElem?_cons_succ, List.getElem?_cons_zero]; rfl) (by kernel_rfl) (by kernel_rfl) (by kernel_rfl) (by exact fun _ _ _ h => h) (Or.inl ⟨by rfl, ?_⟩) (by assumption) ?_
            rotate_left
            · (intro w hSw; (try dsimp only at hSw); go_simp; try with_reducible rfl)
            try simp only [Act.put, List.setIfInBounds_toArray, List.set_cons_zero, List.set_cons_succ]
            refine wpAnyH_take (i := 12) (v := ?_) (by simp only [List.getElem?_toArray, List.getElem?_cons_succ, List.getElem?_cons_zero]; rfl) (by kernel_rfl) (by kernel_rfl) (by kernel_rfl) (by exact fun _ _ _ h => h) (Or.inl ⟨by rfl, ?_⟩) (by assumption) ?_
            rotate_left
            · (intro w hSw; (try dsimp only at hSw); go_simp; try with_reducible rfl)
            try simp only [Act.put, List.setIfInBounds_toArray, List.set_cons_zero, List.set_cons_succ]
            refine wpAnyH_done (by kernel_rfl) ?_ _
            go_wp2
            go_ret
            exact ⟨rfl, bthen S1 k6⟩
  · have p1 : ((er : Int) == es) = false := by simp [hes]
    have HQ : Hid (∀ q : Bool, q = false → (q = true → er = es ∧ n = m ∧ ns.take 0 = ms.take 0) ∧ (q = false → ¬ (er = es ∧ ns = ms))) := Lib.hid (fun q e => by subst e; exact ⟨(fun h => by cases h), fun _ h => hes h.1⟩)
    clear hes
    go_enter Tryd.func3, Tryd.ntmps3
    go_wp2_with (rw [← hW1])
    clear hW1
    go_loopw [5, 6] (fun a i wr => ∃ (k : Nat) (q : Bool), k ≤ n ∧ i = .int .i64 k ∧ a = .bool q ∧ Hid ((q = true → er = es ∧ n = m ∧ ns.take k = ms.take k) ∧ (q = false → ¬ (er = es ∧ ns = ms))) ∧ Drawn W1 wr) (fun _ i _ => n - (intOf i).toNat)
    case atStart => exact ⟨0, _, by omega, rfl, rfl, Lib.hid (HQ.out _ rfl), Drawn.refl _⟩
    case round =>
      clear HQ
      obtain ⟨k, q, hk, rfl, rfl, hq, hw⟩ := hrel
      obtain ⟨dq, rfl⟩ := hw.out
      have hk0 : (0 : Int) ≤ (k : Int) := Int.natCast_nonneg _
      have hDone : ∀ b : Bool, Hid (b = decide (er = es ∧ ns = ms)) → (showT er ns == showT es ms) = b := fun b hb => by
        rw [hb.out]
        have h : (showT er ns == showT es ms) = decide (showT er ns = showT es ms) := by
          by_cases he : showT er ns = showT es ms
          · rw [decide_eq_true he]; simp [he]
          · rw [decide_eq_false he]; simp [he]
        rw [h]
        exact decide_eq_decide.2 ⟨fun h => showT_inj h, fun h => by rw [h.1, h.2]⟩
      by_cases hlt : q = true ∧ k < n
      · obtain ⟨rfl, hlt⟩ := hlt
        have hqq := hq.out.1 rfl
        have hkn : k < ns.length := by rw [HL.out.1]; exact hlt
        have hkm : k < ms.length := by rw [HL.out.2, ← hqq.2.1]; exact hlt
        obtain ⟨b1, o1, hA⟩ := HSa.out.form (by omega)
        obtain ⟨b2, o2, hB⟩ := HSb.out.form (by have := HL.out.2; omega)
        have sa := HSa.out; have sb := HSb.out
        rw [hA] at sa; rw [hB] at sb
        have ga := sa.word0 k hkn
        have gb := sb.word0 k hkm
        have Ta := Lib.hid (List.take_succ_eq_append_getElem hkn)
        have Tb := Lib.hid (List.take_succ_eq_append_getElem hkm)
        have Na := Lib.hid (show ns[k]? = some ns[k] from List.getElem?_eq_getElem hkn)
        have Nb := Lib.hid (show ms[k]? = some ms[k] from List.getElem?_eq_getElem hkm)
        obtain ⟨x, hx⟩ : ∃ x, x = ns[k] := ⟨_, rfl⟩
        obtain ⟨y, hy⟩ : ∃ y, y = ms[k] := ⟨_, rfl⟩
        rw [← hx] at ga Ta Na; rw [← hy] at gb Tb Nb
        have HA := Lib.hid hA; have HB := Lib.hid hB
        have hqh := Lib.hid hqq
        have HK := Lib.hid (And.intro hkn hkm)
        have hkm0 : k < m := by rw [← HL.out.2]; exact hkm
        clear hx hy sa sb hq hqq hkn hkm hDone
        subst hA; subst hB
        have hk1 : (k : Int) < (n : Int) := by omega
        have hk2 : (k : Int) < (m : Int) := by omega
        obtain ⟨z, hz⟩ : ∃ z : Bool, z = (x == y) := ⟨_, rfl⟩
        have HZ := Lib.hid hz
        have hxy : ((x : Int) == y) = z := hz.symm
        clear hz
        go_wp2
        go_quiet (fail)
        go_wp2
        first | go_roundw | refine ⟨?rel, ?measure⟩
        case rel => exact ⟨k + 1, z, by omega, by go_num, rfl, Lib.hid ⟨fun h => ⟨hqh.out.1, hqh.out.2.1, by rw [Ta.out, Tb.out, hqh.out.2.2, show x = y from eq_of_beq (HZ.out.symm.trans h)]⟩, fun h hh => by
          have e1 := Na.out; have e2 := Nb.out
          rw [hh.2, e2] at e1
          have := Option.some.inj e1
          rw [h, this] at HZ
          have := HZ.out
          simp at this⟩, (by first | exact ⟨⟨_, rfl⟩⟩ | exact ⟨⟨_, World.drewN_drewN ..⟩⟩)⟩
        case measure => simp [intOf]; omega
      · have HD := hDone q (Lib.hid (by
          cases q with
          | false => exact (decide_eq_false (hq.out.2 rfl)).symm
          | true =>
            have h := hq.out.1 rfl
            have hkn : k = n := by by_cases h2 : k < n; exact absurd ⟨rfl, h2⟩ hlt; omega
            refine (decide_eq_true ⟨h.1, ?_⟩).symm
            have h3 := h.2.2
            rwa [List.take_of_length_le (by have := HL.out.1; omega), List.take_of_length_le (by have := HL.out.2; omega)] at h3))
        have S1 := hB1
        clear hDone hq HL HSa HSb
        have hex : q = true → (n : Int) ≤ (k : Int) := fun h => Int.not_lt.1 (fun h2 => hlt ⟨h, by omega⟩)
        cases q
        all_goals (first | (have i9 := hex rfl) | skip)
        all_goals clear hex hlt
        all_goals go_wp2_with fail
        · skip
          refine wp_region_held_drew (S := (fun w' => w'.cell? ⟨W.heap.size, 0, none⟩ = some (.int .i64 er) ∧ w'.cell? ⟨W.heap.size, 1, none⟩ = some (.slice A n c) ∧ w'.cell? ⟨W.heap.size + 1, 0, none⟩ = some (.int .i64 es) ∧ w'.cell? ⟨W.heap.size + 1, 1, none⟩ = some (.slice B m d))) (by kernel_rfl) (by (first | exact ⟨a0, a1, b0, b1⟩ | exact ⟨a4, a5, b4, b5⟩ | exact ⟨a6, a7, b6, b7⟩ | exact ⟨a8, a9, b8, b9⟩)) (fun hHeld => ?_)
          refine wpAnyH_take (i := 0) (v := ?_) (by simp only [List.getElem?_toArray, List.getElem?_cons_succ, List.getElem?_cons_zero]; rfl) (by kernel_rfl) (by kernel_rfl) (by kernel_rfl) (by exact fun _ _ _ h => h) (Or.inl ⟨by rfl, ?_⟩) (by assumption) ?_
          rotate_left
          · (intro w hSw; (try dsimp only at hSw); go_simp; try with_reducible rfl)
          try simp only [Act.put, List.setIfInBounds_toArray, List.set_cons_zero, List.set_cons_succ]
          refine wpAnyH_take (i := 2) (v := ?_) (by simp only [List.getElem?_toArray, List.getElem?_cons_succ, List.getElem?_cons_zero]; rfl) (by kernel_rfl) (by kernel_rfl) (by kernel_rfl) (by exact fun _ _ _ h => h) (Or.inl ⟨by rfl, ?_⟩) (by assumption) ?_
          rotate_left
          · (intro w hSw; (try dsimp only at hSw); go_simp; try with_reducible rfl)
          try simp only [Act.put, List.setIfInBounds_toArray, List.set_cons_zero, List.set_cons_succ]
          refine wpAnyH_take (i := 5) (v := ?_) (by simp only [List.getElem?_toArray, List.getElem?_cons_succ, List.getElem?_cons_zero]; rfl) (by kernel_rfl) (by kernel_rfl) (by kernel_rfl) (by exact fun _ _ _ h => h) (Or.inl ⟨by rfl, ?_⟩) (by assumption) ?_
          rotate_left
          · (intro w hSw; (try dsimp only at hSw); go_simp; try with_reducible rfl)
          try simp only [Act.put, List.setIfInBounds_toArray, List.set_cons_zero, List.set_cons_succ]
          refine wpAnyH_ready (rs := [1]) (by kernel_rfl) (by simp) ?_
          refine AllReadyH.cons rfl (fun K hK => ?_) AllReadyH.nil
          rw [if_pos (by rfl)]
          (go_wp2_with fail; refine (HS1.out _ (by first | exact (Below.refl _ W1).drew.drew | exact (below_drewN (Below.refl _ W1) _).drew | exact below_drewN (Below.refl _ W1) _)).mono ?_; rintro e w4 ⟨rfl, hb4⟩; have k4 : Below W1.heap.size W1 w4 := bthen (below_drewN (Below.refl _ W1) _) hb4; have a4 := cell_below a0 k4; have a5 := cell_below a1 k4; have b4 := cell_below b0 k4; have b5 := cell_below b1 k4; try dsimp only)
          refine hK.out _ _ (by (first | exact ⟨a0, a1, b0, b1⟩ | exact ⟨a4, a5, b4, b5⟩ | exact ⟨a6, a7, b6, b7⟩ | exact ⟨a8, a9, b8, b9⟩)) (fun hHeld => ?_)
          clear hK K
          try simp only [Act.put, List.setIfInBounds_toArray, List.set_cons_zero, List.set_cons_succ]
          refine wpAnyH_ready (rs := [3]) (by kernel_rfl) (by simp) ?_
          refine AllReadyH.cons rfl (fun K hK => ?_) AllReadyH.nil
          rw [if_pos (by rfl)]
          (go_wp2_with fail; refine (HS2.out _ k4).mono ?_; rintro e w5 ⟨rfl, hb5⟩; have k5 : Below W1.heap.size W1 w5 := bthen k4 hb5; have a6 := cell_below a0 k5; have a7 := cell_below a1 k5; have b6 := cell_below b0 k5; have b7 := cell_below b1 k5; try dsimp only)
          refine hK.out _ _ (by (first | exact ⟨a0, a1, b0, b1⟩ | exact ⟨a4, a5, b4, b5⟩ | exact ⟨a6, a7, b6, b7⟩ | exact ⟨a8, a9, b8, b9⟩)) (fun hHeld => ?_)
          clear hK K
          try simp only [Act.put, List.setIfInBounds_toArray, List.set_cons_zero, List.set_cons_succ]
          refine wpAnyH_take (i := 4) (v := ?_) (by simp only [List.getElem?_toArray, List.getElem?_cons_succ, List.getElem?_cons_zero]; rfl) (by kernel_rfl) (by kernel_rfl) (by kernel_rfl) (by exact fun _ _ _ h => h) (Or.inl ⟨by rfl, ?_⟩) (by assumption) ?_
          rotate_left
          · (intro w hSw; (try dsimp only at hSw); go_simp; try with_reducible rfl)
          try simp only [Act.put, List.setIfInBounds_toArray, List.set_cons_zero, List.set_cons_succ]
          refine wpAnyH_take (i := 6) (v := ?_) (by simp only [List.getElem?_toArray, List.getElem?_cons_succ, List.getElem?_cons_zero]; rfl) (by kernel_rfl) (by kernel_rfl) (by kernel_rfl) (by exact fun _ _ _ h => h) (Or.inl ⟨by rfl, ?_⟩) (by assumption) ?_
          rotate_left
          · (intro w hSw; (try dsimp only at hSw); go_simp; try with_reducible rfl)
          try simp only [Act.put, List.setIfInBounds_toArray, List.set_cons_zero, List.set_cons_succ]
          refine wpAnyH_take (i := 7) (v := ?_) (by simp only [List.getElem?_toArray, List.getElem?_cons_succ, List.getElem?_cons_zero]; rfl) (by kernel_rfl) (by kernel_rfl) (by kernel_rfl) (by exact fun _ _ _ h => h) (Or.inl ⟨by rfl, ?_⟩) (by assumption) ?_
          rotate_left
          · (intro w hSw; (try dsimp only at hSw); go_simp; try with_reducible rfl)
          try simp only [Act.put, List.setIfInBounds_toArray, List.set_cons_zero, List.set_cons_succ]
          refine wpAnyH_take (i := 8) (v := ?_) (by simp only [List.getElem?_toArray, List.getElem?_cons_succ, List.getElem?_cons_zero]; rfl) (by kernel_rfl) (by kernel_rfl) (by kernel_rfl) (by exact fun _ _ _ h => h) (Or.inl ⟨by rfl, ?_⟩) (by assumption) ?_
          rotate_left
          · (intro w hSw; (try dsimp only at hSw); go_simp; try with_reducible rfl)
          try simp only [Act.put, List.setIfInBounds_toArray, List.set_cons_zero, List.set_cons_succ]
          refine wpAnyH_ready (rs := [9]) (by kernel_rfl) (by simp) ?_
          refine AllReadyH.cons rfl (fun K hK => ?_) AllReadyH.nil
          rw [if_pos (by rfl)]
          (go_wp2_with fail; refine (HS3.out _ k5).mono ?_; rintro e w6 ⟨rfl, hb6⟩; have k6 : Below W1.heap.size W1 w6 := bthen k5 hb6; have a8 := cell_below a0 k6; have a9 := cell_below a1 k6; have b8 := cell_below b0 k6; have b9 := cell_below b1 k6; try dsimp only)
          refine hK.out _ _ (by (first | exact ⟨a0, a1, b0, b1⟩ | exact ⟨a4, a5, b4, b5⟩ | exact ⟨a6, a7, b6, b7⟩ | exact ⟨a8, a9, b8, b9⟩)) (fun hHeld => ?_)
          clear hK K
          try simp only [Act.put, List.setIfInBounds_toArray, List.set_cons_zero, List.set_cons_succ]
          refine wpAnyH_take (i := 10) (v := ?_) (by simp only [List.getElem?_toArray, List.getElem?_cons_succ, List.getElem?_cons_zero]; rfl) (by kernel_rfl) (by kernel_rfl) (by kernel_rfl) (by exact fun _ _ _ h => h) (Or.inl ⟨by rfl, ?_⟩) (by assumption) ?_
          rotate_left
          · (intro w hSw; (try dsimp only at hSw); go_simp; try with_reducible rfl)
          try simp only [Act.put, List.setIfInBounds_toArray, List.set_cons_zero, List.set_cons_succ]
          refine wpAnyH_take (i := 11) (v := ?_) (by simp only [List.getElem?_toArray, List.getElem?_cons_succ, List.getElem?_cons_zero]; rfl) (by kernel_rfl) (by kernel_rfl) (by kernel_rfl) (by exact fun _ _ _ h => h) (Or.inl ⟨by rfl, ?_⟩) (by assumption) ?_
          rotate_left
          · (intro w hSw; (try dsimp only at hSw); go_simp; try with_reducible rfl)
          try simp only [Act.put, List.setIfInBounds_toArray, List.set_cons_zero, List.set_cons_succ]
          refine wpAnyH_take (i := 12) (v := ?_) (by simp only [List.getElem?_toArray, List.getElem?_cons_succ, List.getElem?_cons_zero]; rfl) (by kernel_rfl) (by kernel_rfl) (by kernel_rfl) (by exact fun _ _ _ h => h) (Or.inl ⟨by rfl, ?_⟩) (by assumption) ?_
          rotate_left
          · (intro w hSw; (try dsimp only at hSw); go_simp; try with_reducible rfl)
          try simp only [Act.put, List.setIfInBounds_toArray, List.set_cons_zero, List.set_cons_succ]
          refine wpAnyH_done (by kernel_rfl) ?_ _
          go_wp2
          go_ret
          exact ⟨rfl, bthen S1 k6⟩
        · skip
          refine wp_region_held_drew (S := (fun w' => w'.cell? ⟨W.heap.size, 0, none⟩ = some (.int .i64 er) ∧ w'.cell? ⟨W.heap.size, 1, none⟩ = some (.slice A n c) ∧ w'.cell? ⟨W.heap.size + 1, 0, none⟩ = some (.int .i64 es) ∧ w'.cell? ⟨W.heap.size + 1, 1, none⟩ = some (.slice B m d))) (by kernel_rfl) (by (first | exact ⟨a0, a1, b0, b1⟩ | exact ⟨a4, a5, b4, b5⟩ | exact ⟨a6, a7, b6, b7⟩ | exact ⟨a8, a9, b8, b9⟩)) (fun hHeld => ?_)
          refine wpAnyH_take (i := 0) (v := ?_) (by simp only [List.getElem?_toArray, List.getElem?_cons_succ, List.getElem?_cons_zero]; rfl) (by kernel_rfl) (by kernel_rfl) (by kernel_rfl) (by exact fun _ _ _ h => h) (Or.inl ⟨by rfl, ?_⟩) (by assumption) ?_
          rotate_left
          · (intro w hSw; (try dsimp only at hSw); go_simp; try with_reducible rfl)
          try simp only [Act.put, List.setIfInBounds_toArray, List.set_cons_zero, List.set_cons_succ]
          refine wpAnyH_take (i := 2) (v := ?_) (by simp only [List.getElem?_toArray, List.getElem?_cons_succ, List.getElem?_cons_zero]; rfl) (by kernel_rfl) (by kernel_rfl) (by kernel_rfl) (by exact fun _ _ _ h => h) (Or.inl ⟨by rfl, ?_⟩) (by assumption) ?_
          rotate_left
          · (intro w hSw; (try dsimp only at hSw); go_simp; try with_reducible rfl)
          try simp only [Act.put, List.setIfInBounds_toArray, List.set_cons_zero, List.set_cons_succ]
          refine wpAnyH_take (i := 5) (v := ?_) (by simp only [List.getElem?_toArray, List.getElem?_cons_succ, List.getElem?_cons_zero]; rfl) (by kernel_rfl) (by kernel_rfl) (by kernel_rfl) (by exact fun _ _ _ h => h) (Or.inl ⟨by rfl, ?_⟩) (by assumption) ?_
          rotate_left
          · (intro w hSw; (try dsimp only at hSw); go_simp; try with_reducible rfl)
          try simp only [Act.put, List.setIfInBounds_toArray, List.set_cons_zero, List.set_cons_succ]
          refine wpAnyH_ready (rs := [1]) (by kernel_rfl) (by simp) ?_
          refine AllReadyH.cons rfl (fun K hK => ?_) AllReadyH.nil
          rw [if_pos (by rfl)]
          (go_wp2_with fail; refine (HS1.out _ (by first | exact (Below.refl _ W1).drew.drew | exact (below_drewN (Below.refl _ W1) _).drew | exact below_drewN (Below.refl _ W1) _)).mono ?_; rintro e w4 ⟨rfl, hb4⟩; have k4 : Below W1.heap.size W1 w4 := bthen (below_drewN (Below.refl _ W1) _) hb4; have a4 := cell_below a0 k4; have a5 := cell_below a1 k4; have b4 := cell_below b0 k4; have b5 := cell_below b1 k4; try dsimp only)
          refine hK.out _ _ (by (first | exact ⟨a0, a1, b0, b1⟩ | exact ⟨a4, a5, b4, b5⟩ | exact ⟨a6, a7, b6, b7⟩ | exact ⟨a8, a9, b8, b9⟩)) (fun hHeld => ?_)
          clear hK K
          try simp only [Act.put, List.setIfInBounds_toArray, List.set_cons_zero, List.set_cons_succ]
          refine wpAnyH_ready (rs := [3]) (by kernel_rfl) (by simp) ?_
          refine AllReadyH.cons rfl (fun K hK => ?_) AllReadyH.nil
          rw [if_pos (by rfl)]
          (go_wp2_with fail; refine (HS2.out _ k4).mono ?_; rintro e w5 ⟨rfl, hb5⟩; have k5 : Below W1.heap.size W1 w5 := bthen k4 hb5; have a6 := cell_below a0 k5; have a7 := cell_below a1 k5; have b6 := cell_below b0 k5; have b7 := cell_below b1 k5; try dsimp only)
          refine hK.out _ _ (by (first | exact ⟨a0, a1, b0, b1⟩ | exact ⟨a4, a5, b4, b5⟩ | exact ⟨a6, a7, b6, b7⟩ | exact ⟨a8, a9, b8, b9⟩)) (fun hHeld => ?_)
          clear hK K
          try simp only [Act.put, List.setIfInBounds_toArray, List.set_cons_zero, List.set_cons_succ]
          refine wpAnyH_take (i := 4) (v := ?_) (by simp only [List.getElem?_toArray, List.getElem?_cons_succ, List.getElem?_cons_zero]; rfl) (by kernel_rfl) (by kernel_rfl) (by kernel_rfl) (by exact fun _ _ _ h => h) (Or.inl ⟨by rfl, ?_⟩) (by assumption) ?_
          rotate_left
          · (intro w hSw; (try dsimp only at hSw); go_simp; try with_reducible rfl)
          try simp only [Act.put, List.setIfInBounds_toArray, List.set_cons_zero, List.set_cons_succ]
          refine wpAnyH_take (i := 6) (v := ?_) (by simp only [List.getElem?_toArray, List.getElem?_cons_succ, List.getElem?_cons_zero]; rfl) (by kernel_rfl) (by kernel_rfl) (by kernel_rfl) (by exact fun _ _ _ h => h) (Or.inl ⟨by rfl, ?_⟩) (by assumption) ?_
          rotate_left
          · (intro w hSw; (try dsimp only at hSw); go_simp; try with_reducible rfl)
          try simp only [Act.put, List.setIfInBounds_toArray, List.set_cons_zero, List.set_cons_succ]
          refine wpAnyH_take (i := 7) (v := ?_) (by simp only [List.getElem?_toArray, List.getElem?_cons_succ, List.getElem?_cons_zero]; rfl) (by kernel_rfl) (by kernel_rfl) (by kernel_rfl) (by exact fun _ _ _ h => h) (Or.inl ⟨by rfl, ?_⟩) (by assumption) ?_
          rotate_left
          · (intro w hSw; (try dsimp only at hSw); go_simp; try with_reducible rfl)
          try simp only [Act.put, List.setIfInBounds_toArray, List.set_cons_zero, List.set_cons_succ]
          refine wpAnyH_take (i := 8) (v := ?_) (by simp only [List.getElem?_toArray, List.getElem?_cons_succ, List.getElem?_cons_zero]; rfl) (by kernel_rfl) (by kernel_rfl) (by kernel_rfl) (by exact fun _ _ _ h => h) (Or.inl ⟨by rfl, ?_⟩) (by assumption) ?_
          rotate_left
          · (intro w hSw; (try dsimp only at hSw); go_simp; try with_reducible rfl)
          try simp only [Act.put, List.setIfInBounds_toArray, List.set_cons_zero, List.set_cons_succ]
          refine wpAnyH_ready (rs := [9]) (by kernel_rfl) (by simp) ?_
          refine AllReadyH.cons rfl (fun K hK => ?_) AllReadyH.nil
          rw [if_pos (by rfl)]
          (go_wp2_with fail; refine (HS3.out _ k5).mono ?_; rintro e w6 ⟨rfl, hb6⟩; have k6 : Below W1.heap.size W1 w6 := bthen k5 hb6; have a8 := cell_below a0 k6; have a9 := cell_below a1 k6; have b8 := cell_below b0 k6; have b9 := cell_below b1 k6; try dsimp only)
          refine hK.out _ _ (by (first | exact ⟨a0, a1, b0, b1⟩ | exact ⟨a4, a5, b4, b5⟩ | exact ⟨a6, a7, b6, b7⟩ | exact ⟨a8, a9, b8, b9⟩)) (fun hHeld => ?_)
          clear hK K
          try simp only [Act.put, List.setIfInBounds_toArray, List.set_cons_zero, List.set_cons_succ]
          refine wpAnyH_take (i := 10) (v := ?_) (by simp only [List.getElem?_toArray, List.getElem?_cons_succ, List.getElem?_cons_zero]; rfl) (by kernel_rfl) (by kernel_rfl) (by kernel_rfl) (by exact fun _ _ _ h => h) (Or.inl ⟨by rfl, ?_⟩) (by assumption) ?_
          rotate_left
          · (intro w hSw; (try dsimp only at hSw); go_simp; try with_reducible rfl)
          try simp only [Act.put, List.setIfInBounds_toArray, List.set_cons_zero, List.set_cons_succ]
          refine wpAnyH_take (i := 11) (v := ?_) (by simp only [List.getElem?_toArray, List.getElem?_cons_succ, List.getElem?_cons_zero]; rfl) (by kernel_rfl) (by kernel_rfl) (by kernel_rfl) (by exact fun _ _ _ h => h) (Or.inl ⟨by rfl, ?_⟩) (by assumption) ?_
          rotate_left
          · (intro w hSw; (try dsimp only at hSw); go_simp; try with_reducible rfl)
          try simp only [Act.put, List.setIfInBounds_toArray, List.set_cons_zero, List.set_cons_succ]
          refine wpAnyH_take (i := 12) (v := ?_) (by simp only [List.getElem?_toArray, List.getElem?_cons_succ, List.getElem?_cons_zero]; rfl) (by kernel_rfl) (by kernel_rfl) (by kernel_rfl) (by exact fun _ _ _ h => h) (Or.inl ⟨by rfl, ?_⟩) (by assumption) ?_
          rotate_left
          · (intro w hSw; (try dsimp only at hSw); go_simp; try with_reducible rfl)
          try simp only [Act.put, List.setIfInBounds_toArray, List.set_cons_zero, List.set_cons_succ]
          refine wpAnyH_done (by kernel_rfl) ?_ _
          go_wp2
          go_ret
          exact ⟨rfl, bthen S1 k6⟩
end Go.Proofs.YtcpbdgedbjbgfaaDoor
