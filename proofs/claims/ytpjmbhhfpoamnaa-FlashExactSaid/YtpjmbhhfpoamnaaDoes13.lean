import Derived.Test.YtpjmbhhfpoamnaaDoes12
set_option linter.unusedVariables false
set_option linter.unusedSimpArgs false
namespace Go.Proofs.Ytpjmbhhfpoamnaa
open Go.RowKit
theorem lit_drew' (w : World) (base g : Nat) (hg : g = w.heap.size) (h : base ≤ w.heap.size) : (w.alloc (.cells #[] 5)).drew.ownsRow base 5 1 (.slice (some ⟨g, 0, none⟩) 0 0) 0 [] := by
  subst hg
  have := World.ownsRow_lit (base := base) (e := 5) (size := 1) w #[] 0 h (by decide) rfl
  exact this
set_option maxRecDepth 100000 in
set_option maxHeartbeats 1600000 in
theorem does12 (w : World) {p : Nat} {G : List Nat} {s : FSt} (h : Fl w p G s) (hk : FOk s) (t : St12) {A : Option Addr} {m c : Nat} (hb : Sl w 1 A m c (t.b.map by8)) (hm : m ≤ 2097152) :
    Calls Try.prog 37 #[.pointer (some ⟨p, 0, none⟩), .agg #[.int .i64 t.kd, .int .i64 t.bank, .slice A m c, .int .i64 t.x, .int .i64 t.y]] w fun e w' => e = .returned (.int .i64 ((doesF s t).2 : Nat)) ∧ FStep w w' p G (doesF s t).1 := by
  obtain ⟨kd, bank, b, x, y⟩ := t
  simp only at hb ⊢
  have n1 := hb.le; have n2 := hb.max
  have hbx : Below w.heap.size w (w.alloc (.cells #[.int .i64 kd, .int .i64 bank, .slice A m c, .int .i64 x, .int .i64 y] 53)) := (Below.refl _ _).alloc (Nat.le_refl _) _
  have hblk := heap_alloc_new w (.cells #[.int .i64 kd, .int .i64 bank, .slice A m c, .int .i64 x, .int .i64 y] 53)
  have g0 := box_cell hblk 0 _ rfl
  have g1 := box_cell hblk 1 _ rfl
  have g2 := box_cell hblk 2 _ rfl
  have g3 := box_cell hblk 3 _ rfl
  have g4 := box_cell hblk 4 _ rfl
  have h1 := h.below hbx
  have hstay : FStep w (w.alloc (.cells #[.int .i64 kd, .int .i64 bank, .slice A m c, .int .i64 x, .int .i64 y] 53)) p G s := ⟨G, h1, Keep.of_below hbx G, fun x hx => .inl hx⟩
  have HH := Lib.hid (And.intro h1 (And.intro hbx (And.intro hb hstay)))
  have HL := Lib.hid h.lts
  have HK := Lib.hid hk
  clear h1 hbx hb hstay hblk h hk
  by_cases k1 : kd = 1
  · subst k1
    have HD : Hid (doesF s ⟨1, bank, b, x, y⟩ = appF s bank b) := Lib.hid rfl
    rw [HD.out]
    clear HD
    go_enter Try.func37, Try.ntmps37
    go_wp2_with fail
    have hgs : w.heap.size ∉ G := fun hx => by have := HL.out _ hx; omega
    have hAx : ∀ (A2 : Option Addr) (z : Nat), (∀ ad, A2 = some ad → (w.alloc (.cells #[.int .i64 1, .int .i64 bank, .slice A m c, .int .i64 x, .int .i64 y] 53)).heap.size ≤ ad.block ∧ ad.block < z) → ∀ ad, A2 = some ad → 0 < m → ad.block ∉ G := fun A2 z h ad e _ hx => by
      have h1 := HL.out _ hx
      have h2 := (h ad e).1
      simp at h2
      omega
    have hmm : m ≤ 140737488355328 := by omega
    go_region_held3 (fun w' => w'.cell? ⟨w.heap.size, 1, none⟩ = some (.int .i64 bank) ∧ w'.cell? ⟨w.heap.size, 2, none⟩ = some (.slice A m c))
      (first | exact ⟨g1, g2⟩ | exact ⟨j5, j6⟩ | exact ⟨j1, j2⟩ | exact ⟨cell_ald g1 _, cell_ald g2 _⟩ | go_keep)
      (first
        | (go_at_call 23; refine (flash_Append _ (HH.out.1.below hb2) HK.out bank so (hAx _ _ hA2) hmm).mono ?_; rintro e w3 ⟨rfl, hst⟩; obtain ⟨G3, fl3, hk3, hG3⟩ := hst.out; have j5 := hk3.cell j1 hgs; have j6 := hk3.cell j2 hgs)
        | (refine ap_step EF (by rfl) _ _ (by rfl) (by rfl) (lit_drew' (w.alloc (.cells #[.int .i64 1, .int .i64 bank, .slice A m c, .int .i64 x, .int .i64 y] 53)) _ (w.heap.size + 1) (by simp) (Nat.le_refl _)) (by rfl) ((HH.out.2.2.1.below HH.out.2.1).below (w' := (((w.alloc (.cells #[.int .i64 1, .int .i64 bank, .slice A m c, .int .i64 x, .int .i64 y] 53)).alloc (.cells #[] 5)).drew)) (((Below.refl _ _).alloc (Nat.le_refl _) _).drew)) (u8_one _) (by simp only [maxLen]; omega) (by omega) (by simp) ?_; intro v2 w2 o2 hg2 hnil2; rw [List.nil_append, Nat.zero_add] at o2; have hb2 : Below (w.alloc (.cells #[.int .i64 1, .int .i64 bank, .slice A m c, .int .i64 x, .int .i64 y] 53)).heap.size (w.alloc (.cells #[.int .i64 1, .int .i64 bank, .slice A m c, .int .i64 x, .int .i64 y] 53)) w2 := ((((Below.refl _ _).alloc (Nat.le_refl _) _).drew).grown hg2 (by simp) (fun k hk => by have h9 := Option.some.inj hk; simp at h9 ⊢; omega)); have j1 := cell_below g1 hb2; have j2 := cell_below g2 hb2; obtain ⟨A2, c2, rfl, so, hA2⟩ := own_sl o2))
    all_goals
      have HN := Lib.hid (FStep.thn (Keep.of_below (bthen HH.out.2.1 hb2) G) (fun x hx => .inl hx) hst)
      clear hst
      go_wp2
      go_ret
      exact ⟨rfl, HN.out⟩
  by_cases k2 : kd = 2
  · subst k2
    have HD : Hid (doesF s ⟨2, bank, b, x, y⟩ = eraF s bank) := Lib.hid rfl
    rw [HD.out]
    clear HD
    go_enter Try.func37, Try.ntmps37
    go_wp2_with (first | (at_builtin; refine Stopped.out ?_) | (at_make; refine Stopped.out ?_))
    refine (flash_Erase _ HH.out.1 HK.out bank).mono ?_
    rintro e w1 ⟨rfl, hst⟩
    have HN := Lib.hid (FStep.thn (Keep.of_below HH.out.2.1 G) (fun x hx => .inl hx) hst)
    clear hst
    go_wp2
    go_ret
    exact ⟨rfl, HN.out⟩
  by_cases k5 : kd = 5
  · subst k5
    have HD : Hid (doesF s ⟨5, bank, b, x, y⟩ = armF s x y) := Lib.hid rfl
    rw [HD.out]
    clear HD
    go_enter Try.func37, Try.ntmps37
    go_wp2_with (first | (at_builtin; refine Stopped.out ?_) | (at_make; refine Stopped.out ?_))
    refine (flash_Arm _ HH.out.1 x y).mono ?_
    rintro e w1 ⟨rfl, hst⟩
    have HN := Lib.hid (FStep.thn (Keep.of_below HH.out.2.1 G) (fun x hx => .inl hx) hst)
    clear hst
    go_wp2
    go_ret
    exact ⟨rfl, HN.out⟩
  by_cases k6 : kd = 6
  · subst k6
    have HD : Hid (doesF s ⟨6, bank, b, x, y⟩ = ({ s with armed := [], count := 0 }, 0)) := Lib.hid rfl
    rw [HD.out]
    clear HD
    go_enter Try.func37, Try.ntmps37
    go_wp2_with (first | (at_builtin; refine Stopped.out ?_) | (at_make; refine Stopped.out ?_))
    refine (flash_Disarm _ HH.out.1).mono ?_
    rintro e w1 ⟨rfl, hst⟩
    have HN := Lib.hid (FStep.thn (Keep.of_below HH.out.2.1 G) (fun x hx => .inl hx) hst)
    clear hst
    go_wp2
    go_ret
    exact ⟨rfl, HN.out⟩
  by_cases k7 : kd = 7
  · subst k7
    have HD : Hid (doesF s ⟨7, bank, b, x, y⟩ = rstF s) := Lib.hid rfl
    rw [HD.out]
    clear HD
    go_enter Try.func37, Try.ntmps37
    go_wp2_with (first | (at_builtin; refine Stopped.out ?_) | (at_make; refine Stopped.out ?_))
    refine (flash_Restart _ HH.out.1).mono ?_
    rintro e w1 ⟨rfl, hst⟩
    have HN := Lib.hid (FStep.thn (Keep.of_below HH.out.2.1 G) (fun x hx => .inl hx) hst)
    clear hst
    obtain ⟨r, hr⟩ : ∃ r : Nat, r = (rstF s).2 := ⟨_, rfl⟩
    have hr2 : (if s.down = true then (0 : Int) else 123) = (r : Int) := by rw [hr]; unfold rstF; split <;> rfl
    rw [hr2]
    have HR := Lib.hid hr
    clear hr hr2
    go_wp2
    go_ret
    exact ⟨by rw [← HR.out]; rfl, HN.out⟩
  have HD : Hid (doesF s ⟨kd, bank, b, x, y⟩ = (s, 0)) := Lib.hid (by simp [doesF, k1, k2, k5, k6, k7])
  rw [HD.out]
  have q1 : (kd == 1) = false := by simpa using k1
  have q2 : (kd == 2) = false := by simpa using k2
  have q5 : (kd == 5) = false := by simpa using k5
  have q6 : (kd == 6) = false := by simpa using k6
  have q7 : (kd == 7) = false := by simpa using k7
  clear HD k1 k2 k5 k6 k7
  go_enter Try.func37, Try.ntmps37
  go_wp2
  go_ret
  exact ⟨rfl, HH.out.2.2.2⟩
end Go.Proofs.Ytpjmbhhfpoamnaa
