import Derived.Test.YtikjhandhgfohaaRd4
set_option linter.unusedVariables false
set_option linter.unusedSimpArgs false
namespace Go.Proofs.Ytikjhandhgfohaa
open Go.RowKit
/-- bytes behind their number -/
def bytR (l : List UInt8) (a : Nat) (most : Int) : Except Nat Nat := match cntR (rdS (l.drop a) 0 0) most with
  | .error n => .error n
  | .ok (x, k) => if a + k + x ≤ l.length then .ok (k + x) else .error 90
def bytV (l : List UInt8) (a : Nat) (most : Int) : List UInt8 := match cntR (rdS (l.drop a) 0 0) most with
  | .error _ => []
  | .ok (x, k) => (l.drop (a + k)).take x
theorem cntR_le {r : Option (Nat × Nat)} {most : Int} {x k : Nat} (h : cntR r most = .ok (x, k)) : (x : Int) ≤ most := by
  unfold cntR at h
  split at h
  · cases h
  · split at h
    · cases h
    · rename_i h2
      injection h with h
      injection h with h _
      subst h
      omega
/-- new bytes -/
def NewB (B : Nat) (l : List UInt8) (v : Value) (w : World) : Prop := w.ownsRow B 5 1 v l.length (l.map by8)
theorem NewB.below {B : Nat} {l : List UInt8} {v : Value} {w w' : World} (h : NewB B l v w) (k : Below w.heap.size w w') : NewB B l v w' := own_below h k
theorem Rd.drew {w : World} {p : Nat} {G : List Nat} {l : List UInt8} {a f : Nat} (h : Rd w p G l a f) : Rd w.drew p G l a f := h.below ((Below.refl _ _).drew)
set_option maxRecDepth 100000 in
set_option maxHeartbeats 1600000 in
theorem bytes1 (w : World) {p : Nat} {G : List Nat} {l : List UInt8} {a f : Nat} (h : Rd w p G l a f) (b2 b3 : Nat) (most : Int) (hm : most ≤ 9223372036854775807) (c2 : w.cell? ⟨b2, 0, none⟩ = some (.pointer (some ⟨p, 0, none⟩))) (c3 : w.cell? ⟨b3, 0, none⟩ = some (.int .i64 most)) (n2 : b2 ≠ p) (n3 : b3 ≠ p) :
    Calls Try.prog 49 #[.pointer (some ⟨b2, 0, none⟩), .pointer (some ⟨b3, 0, none⟩)] w (EndQ w p G l a f (bytR l a most) (NewB w.heap.size (bytV l a most))) := by
  have HC := Lib.hid (count_any _ h.drew most hm)
  cases hc : cntR (rdS (l.drop a) 0 0) most with
  | error n =>
    have HF : Hid (bytR l a most = .error n) := Lib.hid (by rw [bytR, hc])
    rw [hc] at HC
    clear hc h
    go_enter Try.func49, Try.ntmps49
    go_wp2_with fail
    refine wp_region_held_drew (S := (fun w' => w'.cell? ⟨b2, 0, none⟩ = some (.pointer (some ⟨p, 0, none⟩)) ∧ w'.cell? ⟨b3, 0, none⟩ = some (.int .i64 most))) (by kernel_rfl) (by exact ⟨c2, c3⟩) (fun hHeld => ?_)
    refine wpAnyH_take (i := 0) (v := ?_) (by simp only [List.getElem?_toArray, List.getElem?_cons_succ, List.getElem?_cons_zero]; rfl) (by kernel_rfl) (by kernel_rfl) (by kernel_rfl) (by exact fun _ _ _ h => h) (Or.inl ⟨by rfl, ?_⟩) (by assumption) ?_
    rotate_left
    · (intro w hSw; (try dsimp only at hSw); go_simp; try with_reducible rfl)
    try simp only [Act.put, List.setIfInBounds_toArray, List.set_cons_zero, List.set_cons_succ]
    refine wpAnyH_take (i := 1) (v := ?_) (by simp only [List.getElem?_toArray, List.getElem?_cons_succ, List.getElem?_cons_zero]; rfl) (by kernel_rfl) (by kernel_rfl) (by kernel_rfl) (by exact fun _ _ _ h => h) (Or.inl ⟨by rfl, ?_⟩) (by assumption) ?_
    rotate_left
    · (intro w hSw; (try dsimp only at hSw); go_simp; try with_reducible rfl)
    try simp only [Act.put, List.setIfInBounds_toArray, List.set_cons_zero, List.set_cons_succ]
    refine wpAnyH_take (i := 2) (v := ?_) (by simp only [List.getElem?_toArray, List.getElem?_cons_succ, List.getElem?_cons_zero]; rfl) (by kernel_rfl) (by kernel_rfl) (by kernel_rfl) (by exact fun _ _ _ h => h) (Or.inl ⟨by rfl, ?_⟩) (by assumption) ?_
    rotate_left
    · (intro w hSw; (try dsimp only at hSw); go_simp; try with_reducible rfl)
    try simp only [Act.put, List.setIfInBounds_toArray, List.set_cons_zero, List.set_cons_succ]
    refine wpAnyH_ready (rs := [3]) (by kernel_rfl) (by simp) ?_
    refine AllReadyH.cons rfl (fun K hK => ?_) AllReadyH.nil
    rw [if_pos (by rfl)]
    go_wp2_with fail
    refine HC.out.mono ?_
    rintro e w1 ⟨hk, rfl, hb⟩
    dsimp only [gave]
    refine ⟨rfl, (Keep.refl [p] w).drew.trans hk, ?_⟩
    rw [HF.out]
    exact ⟨rfl, hb⟩
  | ok xk =>
    obtain ⟨x, k⟩ := xk
    rw [hc] at HC
    have HX := Lib.hid (cntR_le hc)
    by_cases hle : a + k + x ≤ l.length
    · have HF : Hid (bytR l a most = .ok (k + x) ∧ bytV l a most = (l.drop (a + k)).take x) := Lib.hid ⟨by rw [bytR, hc]; simp [hle], by rw [bytV, hc]⟩
      have HV : Hid (((l.drop (a + k)).take x).length = x) := Lib.hid (by simp; omega)
      have HLE := Lib.hid hle
      clear hc h hle
      go_enter Try.func49, Try.ntmps49
      go_wp2_with fail
      refine wp_region_held_drew (S := (fun w' => w'.cell? ⟨b2, 0, none⟩ = some (.pointer (some ⟨p, 0, none⟩)) ∧ w'.cell? ⟨b3, 0, none⟩ = some (.int .i64 most))) (by kernel_rfl) (by (first | exact ⟨c2, c3⟩ | exact ⟨j2, j3⟩ | exact ⟨l2, l3⟩)) (fun hHeld => ?_)
      refine wpAnyH_take (i := 0) (v := ?_) (by simp only [List.getElem?_toArray, List.getElem?_cons_succ, List.getElem?_cons_zero]; rfl) (by kernel_rfl) (by kernel_rfl) (by kernel_rfl) (by exact fun _ _ _ h => h) (Or.inl ⟨by rfl, ?_⟩) (by assumption) ?_
      rotate_left
      · (intro w hSw; (try dsimp only at hSw); go_simp; try with_reducible rfl)
      try simp only [Act.put, List.setIfInBounds_toArray, List.set_cons_zero, List.set_cons_succ]
      refine wpAnyH_take (i := 1) (v := ?_) (by simp only [List.getElem?_toArray, List.getElem?_cons_succ, List.getElem?_cons_zero]; rfl) (by kernel_rfl) (by kernel_rfl) (by kernel_rfl) (by exact fun _ _ _ h => h) (Or.inl ⟨by rfl, ?_⟩) (by assumption) ?_
      rotate_left
      · (intro w hSw; (try dsimp only at hSw); go_simp; try with_reducible rfl)
      try simp only [Act.put, List.setIfInBounds_toArray, List.set_cons_zero, List.set_cons_succ]
      refine wpAnyH_take (i := 2) (v := ?_) (by simp only [List.getElem?_toArray, List.getElem?_cons_succ, List.getElem?_cons_zero]; rfl) (by kernel_rfl) (by kernel_rfl) (by kernel_rfl) (by exact fun _ _ _ h => h) (Or.inl ⟨by rfl, ?_⟩) (by assumption) ?_
      rotate_left
      · (intro w hSw; (try dsimp only at hSw); go_simp; try with_reducible rfl)
      try simp only [Act.put, List.setIfInBounds_toArray, List.set_cons_zero, List.set_cons_succ]
      refine wpAnyH_ready (rs := [3]) (by kernel_rfl) (by simp) ?_
      refine AllReadyH.cons rfl (fun K hK => ?_) AllReadyH.nil
      rw [if_pos (by rfl)]
      (go_wp2_with fail; refine HC.out.mono ?_; rintro e w1 ⟨hk, rfl, hb⟩; have j2 := hk.cell (w := w.drew) c2 (by simpa using n2); have j3 := hk.cell (w := w.drew) c3 (by simpa using n3); try dsimp only)
      refine hK.out _ _ (by (first | exact ⟨c2, c3⟩ | exact ⟨j2, j3⟩ | exact ⟨l2, l3⟩)) (fun hHeld => ?_)
      clear hK K
      try simp only [Act.put, List.setIfInBounds_toArray, List.set_cons_zero, List.set_cons_succ]
      refine wpAnyH_ready (rs := [4]) (by kernel_rfl) (by simp) ?_
      refine AllReadyH.cons rfl (fun K hK => ?_) AllReadyH.nil
      rw [if_pos (by rfl)]
      (go_wp2_with fail; refine (take_yes _ hb x HLE.out).mono ?_; rintro e w2 ⟨v, rfl, o2, hr2, hk2⟩; have l2 := hk2.cell j2 (by simpa using n2); have l3 := hk2.cell j3 (by simpa using n3); try dsimp only)
      refine hK.out _ _ (by (first | exact ⟨c2, c3⟩ | exact ⟨j2, j3⟩ | exact ⟨l2, l3⟩)) (fun hHeld => ?_)
      clear hK K
      try simp only [Act.put, List.setIfInBounds_toArray, List.set_cons_zero, List.set_cons_succ]
      refine wpAnyH_take (i := 5) (v := ?_) (by simp only [List.getElem?_toArray, List.getElem?_cons_succ, List.getElem?_cons_zero]; rfl) (by kernel_rfl) (by kernel_rfl) (by kernel_rfl) (by exact fun _ _ _ h => h) (Or.inl ⟨by rfl, ?_⟩) (by assumption) ?_
      rotate_left
      · (intro w hSw; (try dsimp only at hSw); go_simp; try with_reducible rfl)
      try simp only [Act.put, List.setIfInBounds_toArray, List.set_cons_zero, List.set_cons_succ]
      refine wpAnyH_done (by kernel_rfl) ?_ _
      go_wp2
      go_ret
      refine ⟨((Keep.refl [p] w).drew.trans hk).trans hk2, ?_⟩
      rw [HF.out.1, HF.out.2]
      exact ⟨v, rfl, by rw [← Nat.add_assoc]; exact hr2, by unfold NewB; rw [HV.out]; exact own_mono o2 hk.size⟩
    · have HF : Hid (bytR l a most = .error 90) := Lib.hid (by rw [bytR, hc]; simp [hle])
      have HLE := Lib.hid hle
      clear hc h hle
      go_enter Try.func49, Try.ntmps49
      go_wp2_with fail
      refine wp_region_held_drew (S := (fun w' => w'.cell? ⟨b2, 0, none⟩ = some (.pointer (some ⟨p, 0, none⟩)) ∧ w'.cell? ⟨b3, 0, none⟩ = some (.int .i64 most))) (by kernel_rfl) (by (first | exact ⟨c2, c3⟩ | exact ⟨j2, j3⟩ | exact ⟨l2, l3⟩)) (fun hHeld => ?_)
      refine wpAnyH_take (i := 0) (v := ?_) (by simp only [List.getElem?_toArray, List.getElem?_cons_succ, List.getElem?_cons_zero]; rfl) (by kernel_rfl) (by kernel_rfl) (by kernel_rfl) (by exact fun _ _ _ h => h) (Or.inl ⟨by rfl, ?_⟩) (by assumption) ?_
      rotate_left
      · (intro w hSw; (try dsimp only at hSw); go_simp; try with_reducible rfl)
      try simp only [Act.put, List.setIfInBounds_toArray, List.set_cons_zero, List.set_cons_succ]
      refine wpAnyH_take (i := 1) (v := ?_) (by simp only [List.getElem?_toArray, List.getElem?_cons_succ, List.getElem?_cons_zero]; rfl) (by kernel_rfl) (by kernel_rfl) (by kernel_rfl) (by exact fun _ _ _ h => h) (Or.inl ⟨by rfl, ?_⟩) (by assumption) ?_
      rotate_left
      · (intro w hSw; (try dsimp only at hSw); go_simp; try with_reducible rfl)
      try simp only [Act.put, List.setIfInBounds_toArray, List.set_cons_zero, List.set_cons_succ]
      refine wpAnyH_take (i := 2) (v := ?_) (by simp only [List.getElem?_toArray, List.getElem?_cons_succ, List.getElem?_cons_zero]; rfl) (by kernel_rfl) (by kernel_rfl) (by kernel_rfl) (by exact fun _ _ _ h => h) (Or.inl ⟨by rfl, ?_⟩) (by assumption) ?_
      rotate_left
      · (intro w hSw; (try dsimp only at hSw); go_simp; try with_reducible rfl)
      try simp only [Act.put, List.setIfInBounds_toArray, List.set_cons_zero, List.set_cons_succ]
      refine wpAnyH_ready (rs := [3]) (by kernel_rfl) (by simp) ?_
      refine AllReadyH.cons rfl (fun K hK => ?_) AllReadyH.nil
      rw [if_pos (by rfl)]
      (go_wp2_with fail; refine HC.out.mono ?_; rintro e w1 ⟨hk, rfl, hb⟩; have j2 := hk.cell (w := w.drew) c2 (by simpa using n2); have j3 := hk.cell (w := w.drew) c3 (by simpa using n3); try dsimp only)
      refine hK.out _ _ (by (first | exact ⟨c2, c3⟩ | exact ⟨j2, j3⟩ | exact ⟨l2, l3⟩)) (fun hHeld => ?_)
      clear hK K
      try simp only [Act.put, List.setIfInBounds_toArray, List.set_cons_zero, List.set_cons_succ]
      refine wpAnyH_ready (rs := [4]) (by kernel_rfl) (by simp) ?_
      refine AllReadyH.cons rfl (fun K hK => ?_) AllReadyH.nil
      rw [if_pos (by rfl)]
      go_wp2_with fail
      refine (take_no _ hb x (.inr (by have := HLE.out; have := hb.le; omega)) (by have := HX.out; omega)).mono ?_
      rintro e w2 ⟨rfl, hd⟩
      dsimp only [gave]
      refine ⟨rfl, ((Keep.refl [p] w).drew.trans hk).trans (hd.keep [p]), ?_⟩
      rw [HF.out]
      exact ⟨rfl, _, hb.below hd.below⟩
theorem enter_bytes1 (args : Array Value) (w : World) : (callFunc 49 args).run Try.prog w = .ok (.enter 49 args) w := by
  simp [go_sem]
theorem Rd_Bytes (w : World) {p : Nat} {G : List Nat} {l : List UInt8} {a f : Nat} (h : Rd w p G l a f) (most : Int) (hm : most ≤ 9223372036854775807) :
    Calls Try.prog 31 #[.pointer (some ⟨p, 0, none⟩), .int .i64 most] w (CaughtQ w p G l a f (bytR l a most) (.slice none 0 0) (NewB w.heap.size (bytV l a most))) := by
  have hmf : ∀ (fn : Fn) (first cap : Array Value) (w : World), (Instr.makeFunc fn first cap).run Try.prog w = .ok (.func fn first cap) w := fun _ _ _ _ => rfl
  have hp := h.lts p h.mem
  have b0 := box_cell (heap_alloc_new w (.cells #[.pointer (some ⟨p, 0, none⟩)] 59)) 0 _ rfl
  have b0' := cell_al b0 (.cells #[.int .i64 most] 3)
  have b1 : ((w.alloc (.cells #[.pointer (some ⟨p, 0, none⟩)] 59)).alloc (.cells #[.int .i64 most] 3)).cell? ⟨w.heap.size + 1, 0, none⟩ = some (.int .i64 most) := by
    have := box_cell (heap_alloc_new (w.alloc (.cells #[.pointer (some ⟨p, 0, none⟩)] 59)) (.cells #[.int .i64 most] 3)) 0 _ rfl
    rwa [show (w.alloc (.cells #[.pointer (some ⟨p, 0, none⟩)] 59)).heap.size = w.heap.size + 1 by simp] at this
  have h2 := (h.below ((Below.refl _ _).alloc (Nat.le_refl _) (.cells #[.pointer (some ⟨p, 0, none⟩)] 59))).below ((Below.refl _ _).alloc (Nat.le_refl _) (.cells #[.int .i64 most] 3))
  have hB2 : Below w.heap.size w ((w.alloc (.cells #[.pointer (some ⟨p, 0, none⟩)] 59)).alloc (.cells #[.int .i64 most] 3)) := ((Below.refl _ w).alloc (Nat.le_refl _) _).alloc (by simp) _
  have HX := Lib.hid (And.intro (And.intro b0' b1) (And.intro h2 hB2))
  clear b0' b1 h2 hB2 h
  go_enter Try.func31, Try.ntmps31
  go_wp2_with (first | (at_builtin; refine Stopped.out ?_) | (at_make; refine Stopped.out ?_))
  have hr := HX.out.2.1
  refine (caught_any _ hr 49 #[] #[.pointer (some ⟨w.heap.size, 0, none⟩), .pointer (some ⟨w.heap.size + 1, 0, none⟩)] (bytR l a most) (NewB w.heap.size (bytV l a most)) (fun v w' w'' hv k => hv.below k) (enter_bytes1 _) (fun hf w' k => ?_)).mono ?_
  · subst hf
    refine (bytes1 w' (hr.below k) w.heap.size (w.heap.size + 1) most hm (cell_below HX.out.1.1 k) (cell_below HX.out.1.2 k) (by omega) (by omega)).mono ?_
    rintro e w2 ⟨hk, hr2⟩
    refine ⟨hk, ?_⟩
    cases hb : bytR l a most with
    | error n => rw [hb] at hr2; exact hr2
    | ok k2 =>
      rw [hb] at hr2
      obtain ⟨v, e1, e2, e3⟩ := hr2
      exact ⟨v, e1, e2, own_mono e3 (Nat.le_trans HX.out.2.2.size k.size)⟩
  · rintro e w3 ⟨hk, hr3⟩
    have hk3 : Keep [p] w w3 := (Keep.of_below HX.out.2.2 [p]).trans hk
    clear hk HX hr
    cases hb : effR (bytR l a most) f with
    | error n =>
      rw [hb] at hr3
      obtain ⟨rfl, hr4⟩ := hr3
      have HN := Lib.hid (show CaughtQ w p G l a f (bytR l a most) (.slice none 0 0) (NewB w.heap.size (bytV l a most)) (.returned (.slice none 0 0)) w3 from ⟨hk3, by rw [hb]; exact ⟨rfl, hr4⟩⟩)
      clear hk3 hr4 hb
      go_wp2
      go_ret
      exact HN.out
    | ok k =>
      rw [hb] at hr3
      obtain ⟨v, rfl, hr4, hq⟩ := hr3
      have HN := Lib.hid (show CaughtQ w p G l a f (bytR l a most) (.slice none 0 0) (NewB w.heap.size (bytV l a most)) (.returned v) w3 from ⟨hk3, by rw [hb]; exact ⟨v, rfl, hr4, hq⟩⟩)
      clear hk3 hr4 hq hb
      go_wp2
      go_ret
      exact HN.out
theorem NewReader_any (w : World) {A : Option Addr} {n c : Nat} {l : List UInt8} (h : Sl w 1 A n c (l.map by8)) (hn : n ≤ 140737488351232) :
    Calls Try.prog 28 #[.slice A n c] w fun e w' => ∃ p G, e = .returned (.pointer (some ⟨p, 0, none⟩)) ∧ Rd w' p G l 0 0 ∧ Below w.heap.size w w' ∧ ∀ x ∈ G, w.heap.size ≤ x := by
  have hl : l.length = n := by simpa using h.len
  have h1 := h.le; have h2 := h.max
  have HL := Lib.hid hl
  clear hl
  go_enter Try.func28, Try.ntmps28
  go_wp2_with (first | (at_builtin; refine Stopped.out ?_) | (at_make; refine Stopped.out ?_))
  refine Stopped.mk (ap_own EBr rfl (.tmp 3) (.tmp 4) rfl rfl (World.ownsRow_lit (base := w.heap.size) _ #[] 0 (by simp) (by decide) rfl) rfl (h.alloc _) (u8_one _) (by simp only [maxLen]; omega) (by omega) (by simp) ?_)
  intro v1 w1 o1 hg1 _
  have hb1 : Below w.heap.size w w1 := ((Below.refl _ w).alloc (Nat.le_refl _) _).grown hg1 (by simp) (fun k hk => (Option.some.inj hk) ▸ Nat.le_refl _)
  rw [List.nil_append, Nat.zero_add] at o1
  have HN := Lib.hid (show ∃ G, Rd (w1.alloc (.cells #[v1, .int .i64 0, .int .i64 0] 77)) w1.heap.size G l 0 0 ∧ ∀ x ∈ G, w.heap.size ≤ x by
    refine ⟨w1.heap.size :: v1.ownBlock.toList, ⟨⟨v1, heap_alloc_new w1 _, own_mono (own_below (by rw [HL.out]; exact o1) ((Below.refl _ _).alloc (Nat.le_refl _) _)) (Nat.zero_le _), fun k hk => ⟨by have := (o1.lt k hk).2; omega, by simp [hk]⟩⟩, by simp, fun x hx => ?_, Nat.zero_le _, by rw [HL.out]; exact hn⟩, fun x hx => ?_⟩
    · rcases List.mem_cons.1 hx with rfl | hx
      · simp
      · have := (o1.lt x (by simpa using hx)).2
        simp; omega
    · rcases List.mem_cons.1 hx with rfl | hx
      · exact hb1.size
      · exact (o1.lt x (by simpa using hx)).1)
  have HB := Lib.hid (hb1.alloc hb1.size (.cells #[v1, .int .i64 0, .int .i64 0] 77))
  obtain ⟨A1, c1, rfl, -, -⟩ := own_sl o1
  clear o1 hg1 hb1 h
  go_wp2
  go_ret
  obtain ⟨G, g1, g2⟩ := HN.out
  exact ⟨_, G, rfl, g1, HB.out, g2⟩
end Go.Proofs.Ytikjhandhgfohaa
