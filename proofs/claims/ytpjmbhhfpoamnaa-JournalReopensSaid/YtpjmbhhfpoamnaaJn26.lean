import Derived.Test.YtpjmbhhfpoamnaaJn26a
import Derived.Test.YtpjmbhhfpoamnaaOps14
import Derived.Deep.Cut
set_option linter.unusedVariables false
set_option linter.unusedSimpArgs false
namespace Go.Proofs.Ytpjmbhhfpoamnaa
open Go.RowKit
theorem hin_zero (w : World) (P : Nat → Prop) : HIn w P (.slice none 0 0) (.slice none 0 0) ⟨[], []⟩ :=
  ⟨none, 0, 0, none, 0, 0, [], rfl, rfl, Sl.nilS w 1, fun _ e => by (cases e), ⟨Sl.nilS w 1, rfl, fun i l hl => by (cases hl)⟩, fun _ e => by (cases e), fun i a m c hv => by (cases hv)⟩
/-- between two rounds of arming -/
structure ArmI (W wr : World) (s0 : FSt) (pf pg k : Nat) (Gg : List Nat) : Prop where
  out : ∃ Gf sf, Fl wr pf Gf sf ∧ (∀ x ∈ Gf, W.heap.size ≤ x) ∧ Fl wr pg Gg s0 ∧ (∀ x ∈ Gg, x ∉ Gf) ∧ Below W.heap.size W wr ∧ sf.b0 = s0.b0 ∧ sf.b1 = s0.b1 ∧ sf.down = false ∧ sf.armed.length ≤ k ∧ FOkN k sf
set_option maxRecDepth 100000 in
set_option maxHeartbeats 6400000 in
theorem JournalReopens_walk (W : World) (z : Int) {A C : Option Addr} {n c n2 c2 : Nat} {l r : List UInt8} (hs : Sl W 1 A n c (l.map by8)) (hs2 : Sl W 1 C n2 c2 (r.map by8)) (hn : n ≤ 140737488351232) (hn2 : n2 ≤ 140737488351232) {B : Option Addr} {m d : Nat} {vs : List Value} {ss : List Op14} (hO : Ops14 W B m d vs ss) (hm : m ≤ 1954687338213) :
    Calls Try.prog 16 #[.int .i64 z, .slice A n c, .slice C n2 c2, .slice B m d] W fun e w' => e = .returned (.bool true) ∧ Below W.heap.size W w' := by
  go_enter Try.func16, Try.ntmps16
  go_wp2_with fail
  refine (flash_Load _ z hs hs2).mono ?_
  rintro e w1 ⟨Gf, rfl, f1, hb1, hG1⟩
  have H1 := Lib.hid (And.intro f1 (And.intro hb1 hG1))
  clear f1 hb1 hG1
  go_wp2_with fail
  refine (flash_Load _ z (hs.below H1.out.2.1) (hs2.below H1.out.2.1)).mono ?_
  rintro e w2 ⟨Gg, rfl, f2, hb2, hG2⟩
  obtain ⟨s0, hs0⟩ : ∃ s0 : FSt, s0 = ⟨capF z, l.take (capF z), r.take (capF z), [], 0, 0, false⟩ := ⟨_, rfl⟩
  rw [← hs0] at f2 H1
  have hok0 : FOkN 0 s0 := by
    rw [hs0]
    exact ⟨capF_le z, by simp only [List.length_take]; omega, by simp only [List.length_take]; omega, Nat.le_refl _, Nat.le_refl _, by simp, by simp⟩
  have hd0 : s0.down = false := by rw [hs0]
  have ha0 : s0.armed = [] := by rw [hs0]
  have hR : ArmI W w2 s0 W.heap.size w1.heap.size 0 Gg := ⟨Gf, s0, H1.out.1.below hb2, H1.out.2.2, f2, fun x hx hx2 => by have h1 := hG2 x hx; have h2 := H1.out.1.lts x hx2; omega, bthen H1.out.2.1 hb2, rfl, rfl, hd0, by rw [ha0]; simp, hok0⟩
  have hGg : ∀ x ∈ Gg, W.heap.size ≤ x := fun x hx => by have h1 := hG2 x hx; have h2 := H1.out.2.1.size; omega
  have H0 := Lib.hid (And.intro hok0 (And.intro hd0 (And.intro ha0 hGg)))
  have hpg : w1.heap.size ≠ 0 ∨ True := .inr trivial
  clear f2 hb2 hG2 H1 hs0 hok0 hd0 ha0 hGg hpg
  obtain ⟨pg, hpg⟩ : ∃ x, x = w1.heap.size := ⟨_, rfl⟩
  rw [← hpg] at hR ⊢
  clear hpg
  have n1 := hO.sl.le; have n2' := hO.sl.max
  have hln := hO.len
  go_wp2_with fail
  go_loopw [11] (fun i wr => ∃ k : Nat, k ≤ m ∧ i = .int .i64 k ∧ Hid (ArmI W wr s0 W.heap.size pg k Gg)) (fun i _ => m - (intOf i).toNat)
  case atStart => exact ⟨0, by omega, rfl, Lib.hid hR⟩
  case round =>
    clear hR
    obtain ⟨k, hk, rfl, HI⟩ := hrel
    obtain ⟨Gf, sf, fF, gF, fG, dj, hb, e0, e1, hd, har, hok⟩ := HI.out.out
    by_cases hlt : k < m
    · have hk0 : (0 : Int) ≤ (k : Int) := Int.natCast_nonneg _
      have hk1 : (k : Int) < (m : Int) := by omega
      obtain ⟨b, off, rfl⟩ := hO.sl.form (by omega)
      obtain ⟨da, dn, dc, sa, sn, sc, g0, g1, g2, g3, g4, _⟩ := hO.get k (by omega)
      obtain ⟨av, hav⟩ : ∃ x, x = (ss[k]'(by omega)).after := ⟨_, rfl⟩
      obtain ⟨kv, hkv⟩ : ∃ x, x = (ss[k]'(by omega)).keep := ⟨_, rfl⟩
      rw [← hav] at g3; rw [← hkv] at g4
      have bW : b < W.heap.size := by simpa using cell_lt g3
      have S0 := And.intro (cell_below g3 hb) (cell_below g4 hb)
      have HA := Lib.hid (fun (wx : World) (h : Below wr.heap.size wr wx) => flash_Arm wx (fF.below h) av kv)
      have HF := Lib.hid (And.intro gF (And.intro fG (And.intro dj (And.intro hb (And.intro e0 (And.intro e1 (And.intro hd (And.intro har (And.intro hok (And.intro bW (And.intro fF S0)))))))))))
      have S1 := S0
      clear g0 g1 g2 g3 g4 hav hkv fF gF fG dj hb e0 e1 hd har hok bW
      go_wp2_with fail
      refine wp_region_held_drew (S := (fun w' => w'.cell? ⟨b, off + k * 5 + 3, none⟩ = some (.int .i64 av) ∧ w'.cell? ⟨b, off + k * 5 + 4, none⟩ = some (.int .i64 kv))) (by kernel_rfl) (by (first | exact S2 | exact S1)) (fun hHeld => ?_)
      refine wpAnyH_take (i := 0) (v := ?_) (by simp only [List.getElem?_toArray, List.getElem?_cons_succ, List.getElem?_cons_zero]; rfl) (by kernel_rfl) (by kernel_rfl) (by kernel_rfl) (by exact fun _ _ _ h => h) (Or.inl ⟨by rfl, ?_⟩) (by assumption) ?_
      rotate_left
      · (intro w hSw; (try dsimp only at hSw); go_simp; try with_reducible rfl)
      try simp only [Act.put, List.setIfInBounds_toArray, List.set_cons_zero, List.set_cons_succ]
      refine wpAnyH_take (i := 1) (v := ?_) (by simp only [List.getElem?_toArray, List.getElem?_cons_succ, List.getElem?_cons_zero]; rfl) (by kernel_rfl) (by kernel_rfl) (by kernel_rfl) (by exact fun _ _ _ h => h) (Or.inl ⟨by rfl, ?_⟩) (by assumption) ?_
      rotate_left
      · (intro w hSw; (try dsimp only at hSw); go_simp; try with_reducible rfl)
      try simp only [Act.put, List.setIfInBounds_toArray, List.set_cons_zero, List.set_cons_succ]
      refine wpAnyH_take (i := 2) (v := ?_) (by simp only [List.getElem?_toArray, List.getElem?_cons_succ, List.getElem?_cons_zero]; rfl) (by kernel_rfl) (by kernel_rfl) (by kernel_rfl) (by exact fun _ _ _ h => h) (Or.inl ⟨by rfl, ?_⟩) (by assumption) ?_
      rotate_left
      · (intro w hSw; (try dsimp only at hSw); go_simp; try with_reducible rfl)
      try simp only [Act.put, List.setIfInBounds_toArray, List.set_cons_zero, List.set_cons_succ]
      refine wpAnyH_take (i := 3) (v := ?_) (by simp only [List.getElem?_toArray, List.getElem?_cons_succ, List.getElem?_cons_zero]; rfl) (by kernel_rfl) (by kernel_rfl) (by kernel_rfl) (by exact fun _ _ _ h => h) (Or.inl ⟨by rfl, ?_⟩) (by assumption) ?_
      rotate_left
      · (intro w hSw; (try dsimp only at hSw); go_simp; try with_reducible rfl)
      try simp only [Act.put, List.setIfInBounds_toArray, List.set_cons_zero, List.set_cons_succ]
      refine wpAnyH_take (i := 4) (v := ?_) (by simp only [List.getElem?_toArray, List.getElem?_cons_succ, List.getElem?_cons_zero]; rfl) (by kernel_rfl) (by kernel_rfl) (by kernel_rfl) (by exact fun _ _ _ h => h) (Or.inl ⟨by rfl, ?_⟩) (by assumption) ?_
      rotate_left
      · (intro w hSw; (try dsimp only at hSw); go_simp; try with_reducible rfl)
      try simp only [Act.put, List.setIfInBounds_toArray, List.set_cons_zero, List.set_cons_succ]
      refine wpAnyH_take (i := 5) (v := ?_) (by simp only [List.getElem?_toArray, List.getElem?_cons_succ, List.getElem?_cons_zero]; rfl) (by kernel_rfl) (by kernel_rfl) (by kernel_rfl) (by exact fun _ _ _ h => h) (Or.inl ⟨by rfl, ?_⟩) (by assumption) ?_
      rotate_left
      · (intro w hSw; (try dsimp only at hSw); go_simp; try with_reducible rfl)
      try simp only [Act.put, List.setIfInBounds_toArray, List.set_cons_zero, List.set_cons_succ]
      refine wpAnyH_take (i := 6) (v := ?_) (by simp only [List.getElem?_toArray, List.getElem?_cons_succ, List.getElem?_cons_zero]; rfl) (by kernel_rfl) (by kernel_rfl) (by kernel_rfl) (by exact fun _ _ _ h => h) (Or.inl ⟨by rfl, ?_⟩) (by assumption) ?_
      rotate_left
      · (intro w hSw; (try dsimp only at hSw); go_simp; try with_reducible rfl)
      try simp only [Act.put, List.setIfInBounds_toArray, List.set_cons_zero, List.set_cons_succ]
      refine wpAnyH_take (i := 7) (v := ?_) (by simp only [List.getElem?_toArray, List.getElem?_cons_succ, List.getElem?_cons_zero]; rfl) (by kernel_rfl) (by kernel_rfl) (by kernel_rfl) (by exact fun _ _ _ h => h) (Or.inl ⟨by rfl, ?_⟩) (by assumption) ?_
      rotate_left
      · (intro w hSw; (try dsimp only at hSw); go_simp; try with_reducible rfl)
      try simp only [Act.put, List.setIfInBounds_toArray, List.set_cons_zero, List.set_cons_succ]
      refine wpAnyH_take (i := 8) (v := ?_) (by simp only [List.getElem?_toArray, List.getElem?_cons_succ, List.getElem?_cons_zero]; rfl) (by kernel_rfl) (by kernel_rfl) (by kernel_rfl) (by exact fun _ _ _ h => h) (Or.inl ⟨by rfl, ?_⟩) (by assumption) ?_
      rotate_left
      · (intro w hSw; (try dsimp only at hSw); go_simp; try with_reducible rfl)
      try simp only [Act.put, List.setIfInBounds_toArray, List.set_cons_zero, List.set_cons_succ]
      refine wpAnyH_take (i := 9) (v := ?_) (by simp only [List.getElem?_toArray, List.getElem?_cons_succ, List.getElem?_cons_zero]; rfl) (by kernel_rfl) (by kernel_rfl) (by kernel_rfl) (by exact fun _ _ _ h => h) (Or.inl ⟨by rfl, ?_⟩) (by assumption) ?_
      rotate_left
      · (intro w hSw; (try dsimp only at hSw); go_simp; try with_reducible rfl)
      try simp only [Act.put, List.setIfInBounds_toArray, List.set_cons_zero, List.set_cons_succ]
      refine wpAnyH_take (i := 10) (v := ?_) (by simp only [List.getElem?_toArray, List.getElem?_cons_succ, List.getElem?_cons_zero]; rfl) (by kernel_rfl) (by kernel_rfl) (by kernel_rfl) (by exact fun _ _ _ h => h) (Or.inl ⟨by rfl, ?_⟩) (by assumption) ?_
      rotate_left
      · (intro w hSw; (try dsimp only at hSw); go_simp; try with_reducible rfl)
      try simp only [Act.put, List.setIfInBounds_toArray, List.set_cons_zero, List.set_cons_succ]
      refine wpAnyH_ready (rs := [11]) (by kernel_rfl) (by simp) ?_
      refine AllReadyH.cons rfl (fun K hK => ?_) AllReadyH.nil
      rw [if_pos (by rfl)]
      (go_wp2_with fail; refine (HA.out _ (by first | exact (Below.refl _ _).drew | exact below_drewN (Below.refl _ _) _)).mono ?_; rintro e w4 ⟨rfl, k4⟩; have hbG : b ∉ Gf := fun hx => absurd (HF.out.1 b hx) (by have := HF.out.2.2.2.2.2.2.2.2.2.1; omega); have S2 := And.intro (k4.keep.cell (cell_below S0.1 (by first | exact (Below.refl _ _).drew | exact below_drewN (Below.refl _ _) _)) hbG) (k4.keep.cell (cell_below S0.2 (by first | exact (Below.refl _ _).drew | exact below_drewN (Below.refl _ _) _)) hbG); try dsimp only)
      refine hK.out _ _ (by (first | exact S2 | exact S1)) (fun hHeld => ?_)
      clear hK K
      try simp only [Act.put, List.setIfInBounds_toArray, List.set_cons_zero, List.set_cons_succ]
      refine wpAnyH_done (by kernel_rfl) ?_ _
      have hNew : ArmI W w4 s0 W.heap.size pg (k + 1) Gg := by
        have kk := k4.keep
        obtain ⟨G4, f4, _, o4⟩ := k4.out
        obtain ⟨gF, fG, dj, hb, e0, e1, hd, har, hok, _, fF, _⟩ := HF.out
        obtain ⟨a1, a2, a3, a4, a5, a6⟩ := armF_ok hok av kv
        have bd : Below wr.heap.size wr wr.drew := (Below.refl _ _).drew
        have bd2 := hb.size
        refine ⟨G4, (armF sf av kv).1, f4, fun x hx => ?_, (fG.below bd).keep kk dj, fun x hx hx2 => ?_, kk.below (bthen hb bd) (bthen hb bd).size gF, a2.trans e0, a3.trans e1, a4.trans hd, by omega, a1.more (by omega)⟩
        · rcases o4 x hx with h | h
          · exact gF x h
          · have h2 : wr.heap.size ≤ x := h
            omega
        · rcases o4 x hx2 with h | h
          · exact dj x hx h
          · have h2 : wr.heap.size ≤ x := h
            have := fG.lts x hx; omega
      have HNew := Lib.hid hNew
      clear hNew k4 S2 hbG S0 S1 HA HF
      go_wp2_with fail
      first | go_roundw | refine ⟨?rel, ?measure⟩
      case rel => exact ⟨k + 1, by omega, by go_num, HNew⟩
      case measure => simp [intOf]; omega
    · obtain rfl : k = m := by omega
      have hB : 3 * 64 + k ≤ 4611686018427387890 := by omega
      have hW := hb.size
      rcases openF_two hd H0.out.2.1 e0.symm e1.symm with ⟨h, S1, S2⟩ | ⟨E, q1, q2, E1, E2⟩
      rotate_left
      · have t1 : ((E : Int) != (E : Int)) = false := by simp
        have t2 : ((E : Int) != 0) = true := by simp; omega
        have HE := Lib.hid (And.intro fF (And.intro gF (And.intro fG (And.intro dj (And.intro hb (And.intro hok (And.intro E1 (And.intro E2 q2))))))))
        clear fF gF fG dj hb e0 e1 hd har hok E1 E2 q1 q2
        go_wp2_with fail
        refine (reopened_err wr HE.out.1 HE.out.2.2.2.2.2.1 (by omega) HE.out.2.2.2.2.2.2.1 HE.out.2.2.2.2.2.2.2.2 (by omega)).mono ?_
        rintro e w5 ⟨rfl, k5⟩
        have f5 := HE.out.2.2.1.keep k5.keep HE.out.2.2.2.1
        have b5 := k5.keep.below HE.out.2.2.2.2.1 hW HE.out.2.1
        have H5 := Lib.hid (And.intro f5 b5)
        clear k5 f5 b5
        go_wp2_with fail
        obtain ⟨w6, hw6⟩ : ∃ x, x = w5.alloc (.cells #[.int .i64 0, .slice none 0 0, .slice none 0 0, .int .i64 0] 100) := ⟨_, rfl⟩
        have b6 : Below w5.heap.size w5 w6 := by rw [hw6]; exact (Below.refl _ _).alloc (Nat.le_refl _) _
        have x6 : w6.heap[w5.heap.size]? = some (.cells #[.int .i64 0, .slice none 0 0, .slice none 0 0, .int .i64 0] 100 (0, 0)) := by rw [hw6]; exact heap_alloc_new _ _
        rw [← hw6]
        refine (Open_err w6 (H5.out.1.below b6) H0.out.1 (by omega) HE.out.2.2.2.2.2.2.2.1).mono ?_
        rintro e w7 ⟨rfl, k7⟩
        have x7 := k7.keep.heap x6 (fun hx => by have := H5.out.1.lts _ hx; omega)
        have b7 := k7.keep.below (bthen H5.out.2 b6) (bthen H5.out.2 b6).size H0.out.2.2.2
        have H7 := Lib.hid (And.intro x7 b7)
        clear hw6 b6 x6 k7 x7 b7
        go_upto_region 11 with fail
        obtain ⟨w8, hw8⟩ : ∃ x, x = w7.alloc (.cells #[.int .i64 0, .slice none 0 0, .slice none 0 0, .int .i64 0] 100) := ⟨_, rfl⟩
        have b8 : Below w7.heap.size w7 w8 := by rw [hw8]; exact (Below.refl _ _).alloc (Nat.le_refl _) _
        have y8 := heap_below H7.out.1 b8
        have x8 : w8.heap[w7.heap.size]? = some (.cells #[.int .i64 0, .slice none 0 0, .slice none 0 0, .int .i64 0] 100 (0, 0)) := by rw [hw8]; exact heap_alloc_new _ _
        rw [← hw8]
        have m0 : w8.cell? ⟨w5.heap.size, 0, none⟩ = some (.int .i64 0) := box_cell y8 0 _ rfl
        have m1 : w8.cell? ⟨w5.heap.size, 1, none⟩ = some (.slice none 0 0) := box_cell y8 1 _ rfl
        have m2 : w8.cell? ⟨w5.heap.size, 2, none⟩ = some (.slice none 0 0) := box_cell y8 2 _ rfl
        have m3 : w8.cell? ⟨w5.heap.size, 3, none⟩ = some (.int .i64 0) := box_cell y8 3 _ rfl
        have o0 : w8.cell? ⟨w7.heap.size, 0, none⟩ = some (.int .i64 0) := box_cell x8 0 _ rfl
        have o1 : w8.cell? ⟨w7.heap.size, 1, none⟩ = some (.slice none 0 0) := box_cell x8 1 _ rfl
        have o2 : w8.cell? ⟨w7.heap.size, 2, none⟩ = some (.slice none 0 0) := box_cell x8 2 _ rfl
        have o3 : w8.cell? ⟨w7.heap.size, 3, none⟩ = some (.int .i64 0) := box_cell x8 3 _ rfl
        have HI := is_any w8 (hin_zero w8 (fun _ => True)) (hin_zero w8 (fun _ => True)) 0 0
        rw [show decide ((⟨[], []⟩ : Hd).snap = (⟨[], []⟩ : Hd).snap ∧ (⟨[], []⟩ : Hd).recs = (⟨[], []⟩ : Hd).recs) = true from decide_eq_true ⟨rfl, rfl⟩] at HI
        have b8' := Lib.hid (bthen H7.out.2 b8)
        clear hw8 b8 x8 y8 o0 o3
        go_wp2_with fail
        refine HI.mono ?_
        rintro e w9 ⟨rfl, b9⟩
        have b9' := Lib.hid (bthen b8'.out b9)
        clear b9 HI
        go_wp2_with fail
        refine (works_any _).mono ?_
        rintro e w10 ⟨rfl, b10⟩
        go_wp2_with fail
        go_ret
        exact ⟨rfl, bthen b9'.out b10⟩
      · have ho : ∃ N, FOkN N sf ∧ N + 3 * sf.armed.length ≤ 3 * 64 + k := ⟨k, hok, by have := hok.armed; omega⟩
        have hak : sf.armed.length + (if sf.down = true then 1 else 0) ≤ k := by rw [hd, if_neg (by decide)]; omega
        have HE := Lib.hid (And.intro fF (And.intro gF (And.intro fG (And.intro dj (And.intro hb (And.intro ho (And.intro hak (And.intro S1 S2))))))))
        clear fF gF fG dj hb e0 e1 hd har hok ho hak S1 S2
        go_wp2_with fail
        refine (reopened_any wr HE.out.1 HE.out.2.2.2.2.2.2.2.1 HE.out.2.2.2.2.2.1 hB HE.out.2.2.2.2.2.2.1 (by omega)).mono ?_
        rintro e w5 ⟨q, j, s', G', v0, v1, cut, rfl, O5, ok5⟩
        obtain ⟨A5, a5, b5, Av5, c5, d5, vs5, rfl, rfl, _⟩ := O5.hin.out
        have hGw : ∀ x ∈ Gg, x < wr.heap.size := HE.out.2.2.1.lts
        have g5 := HE.out.2.2.1.keep O5.keep HE.out.2.2.2.1
        have be5 := O5.keep.below HE.out.2.2.2.2.1 hW HE.out.2.1
        have gG' : ∀ x ∈ G', W.heap.size ≤ x := fun x hx => by
          rcases O5.out x hx with h | h
          · exact HE.out.2.1 x h
          · omega
        have dG' : ∀ x ∈ G', x ∉ Gg := fun x hx hg => by
          rcases O5.out x hx with h | h
          · exact HE.out.2.2.2.1 x hg h
          · have := hGw x hg; omega
        have H5 := Lib.hid (And.intro O5 (And.intro g5 (And.intro be5 (And.intro gG' (And.intro dG' ok5)))))
        have HGw := Lib.hid hGw
        clear O5 g5 be5 gG' dG' ok5 hGw
        go_wp2_with fail
        obtain ⟨ep, hep⟩ : ∃ x : Nat, x = j.epoch := ⟨_, rfl⟩
        rw [← hep]
        have HEp := Lib.hid hep
        clear hep
        obtain ⟨w6, hw6⟩ : ∃ x, x = w5.alloc (.cells #[.int .i64 (ep : Nat), .slice A5 a5 b5, .slice Av5 c5 d5, .int .i64 (cut : Nat)] 100) := ⟨_, rfl⟩
        have b6 : Below w5.heap.size w5 w6 := by rw [hw6]; exact (Below.refl _ _).alloc (Nat.le_refl _) _
        have x6 : w6.heap[w5.heap.size]? = some (.cells #[.int .i64 (ep : Nat), .slice A5 a5 b5, .slice Av5 c5 d5, .int .i64 (cut : Nat)] 100 (0, 0)) := by rw [hw6]; exact heap_alloc_new _ _
        rw [← hw6]
        have H6 := Lib.hid (And.intro b6 x6)
        clear hw6 b6 x6
        refine (Open_law w6 (H5.out.2.1.below H6.out.1) H0.out.1 (by omega) H0.out.2.1 HE.out.2.2.2.2.2.2.2.2).mono ?_
        rintro e w7 (⟨s7, rfl, _, c7, _⟩ | ⟨q7, j7, s7, Gg7, u0, u1, cut7, rfl, O7, _, _⟩)
        · exfalso
          have := c7.armed
          rw [H0.out.2.2.1] at this
          simp at this
        obtain ⟨A7, a7, b7, Av7, c7, d7, vs7, rfl, rfl, _⟩ := O7.hin.out
        have kz6 := H6.out.1.size
        have kzw := H5.out.1.keep.size
        have x7 := O7.keep.heap H6.out.2 (fun hx => by have := HGw.out _ hx; omega)
        have f7 := (H5.out.1.fl.below H6.out.1).keep O7.keep (fun x hx => H5.out.2.2.2.2.1 x hx)
        have i7 := (H5.out.1.hin.below H6.out.1).keep O7.keep (fun x hx hg => by have := HGw.out _ hg; omega)
        have be7 := O7.keep.below (bthen H5.out.2.2.1 H6.out.1) (bthen H5.out.2.2.1 H6.out.1).size H0.out.2.2.2
        have H7 := Lib.hid (And.intro x7 (And.intro f7 (And.intro i7 (And.intro be7 (And.intro O7.hin O7.keep.size)))))
        clear x7 f7 i7 be7 O7 H6
        go_upto_region 11 with fail
        obtain ⟨w8, hw8⟩ : ∃ x, x = w7.alloc (.cells #[.int .i64 (j7.epoch : Nat), .slice A7 a7 b7, .slice Av7 c7 d7, .int .i64 (cut7 : Nat)] 100) := ⟨_, rfl⟩
        have b8 : Below w7.heap.size w7 w8 := by rw [hw8]; exact (Below.refl _ _).alloc (Nat.le_refl _) _
        rw [← hw8]
        have x8 : w8.heap[w7.heap.size]? = some (.cells #[.int .i64 (j7.epoch : Nat), .slice A7 a7 b7, .slice Av7 c7 d7, .int .i64 (cut7 : Nat)] 100 (0, 0)) := by rw [hw8]; exact heap_alloc_new _ _
        have HI := is_any w8 (H7.out.2.2.2.2.1.below b8) (H7.out.2.2.1.below b8) ep cut
        rw [show decide (h.snap = h.snap ∧ h.recs = h.recs) = true from decide_eq_true ⟨rfl, rfl⟩] at HI
        have H8 := Lib.hid b8
        have y8 := heap_below H7.out.1 b8
        have m0 : w8.cell? ⟨w5.heap.size, 0, none⟩ = some (.int .i64 (ep : Nat)) := box_cell y8 0 _ rfl
        have m1 : w8.cell? ⟨w5.heap.size, 1, none⟩ = some (.slice A5 a5 b5) := box_cell y8 1 _ rfl
        have m2 : w8.cell? ⟨w5.heap.size, 2, none⟩ = some (.slice Av5 c5 d5) := box_cell y8 2 _ rfl
        have m3 : w8.cell? ⟨w5.heap.size, 3, none⟩ = some (.int .i64 (cut : Nat)) := box_cell y8 3 _ rfl
        have o0 : w8.cell? ⟨w7.heap.size, 0, none⟩ = some (.int .i64 (j7.epoch : Nat)) := box_cell x8 0 _ rfl
        have o1 : w8.cell? ⟨w7.heap.size, 1, none⟩ = some (.slice A7 a7 b7) := box_cell x8 1 _ rfl
        have o2 : w8.cell? ⟨w7.heap.size, 2, none⟩ = some (.slice Av7 c7 d7) := box_cell x8 2 _ rfl
        have o3 : w8.cell? ⟨w7.heap.size, 3, none⟩ = some (.int .i64 (cut7 : Nat)) := box_cell x8 3 _ rfl
        clear hw8 b8 x8 y8 o0 o3
        go_wp2_with fail
        refine HI.mono ?_
        rintro e w9 ⟨rfl, b9⟩
        have b79 := bthen H8.out b9
        have f9 := H7.out.2.1.below b79
        have x9 := heap_below H7.out.1 b79
        have i9 := H7.out.2.2.1.below b79
        have be9 := bthen H7.out.2.2.2.1 b79
        have s79 := b79.size
        have H9 := Lib.hid (And.intro f9 (And.intro x9 (And.intro i9 (And.intro be9 s79))))
        have HD := Lib.hid (flash_Disarm w9 f9)
        clear b9 HI b79 f9 x9 i9 be9 s79 m0 m1 m2 m3 o1 o2
        go_wp2_with fail
        refine HD.out.mono ?_
        rintro e w10 ⟨rfl, k10⟩
        have x10 := k10.keep.heap H9.out.2.1 (fun hx => by
          rcases H5.out.1.out _ hx with h | h
          · have h2 := HE.out.1.lts _ h; have h3 := H5.out.1.keep.size; omega
          · have h2 := H5.out.1.fl.lts _ hx; omega)
        have i10 := H9.out.2.2.1.keep k10.keep (fun x hx => hx.2.2.2)
        have be10 := k10.keep.below H9.out.2.2.2.1 H9.out.2.2.2.1.size H5.out.2.2.2.1
        obtain ⟨G10, f10, kk10, o10⟩ := k10.out
        have gG10 : ∀ x ∈ G10, x ∈ G' ∨ w9.heap.size ≤ x := o10
        have H10 := Lib.hid (And.intro f10 (And.intro x10 (And.intro i10 (And.intro be10 (And.intro gG10 kk10.size)))))
        obtain ⟨V, hV⟩ : ∃ x : Nat, x = s'.writes := ⟨_, rfl⟩
        have HW : Hid (∀ wx Gx, Fl wx W.heap.size Gx { s' with armed := [], count := 0 } → Calls Try.prog 33 #[.pointer (some ⟨W.heap.size, 0, none⟩)] wx fun e w' => e = .returned (.int .i64 (V : Nat)) ∧ wx = w') := Lib.hid (fun wx Gx hx => by rw [hV]; exact flash_Writes (s := { s' with armed := [], count := 0 }) wx hx)
        have HV := Lib.hid hV
        clear k10 x10 i10 be10 f10 kk10 o10 gG10 HD hV
        go_wp2_with fail
        refine (HW.out _ _ H10.out.1).mono ?_
        rintro e wz ⟨rfl, rfl⟩
        obtain ⟨N5, hN5, hN5b⟩ := H5.out.2.2.2.2.2
        have hN10 : FOkN N5 { s' with armed := [], count := 0 } := ⟨hN5.size, hN5.b0, hN5.b1, hN5.writes, Nat.zero_le _, by simp, by simp⟩
        have HN := Lib.hid (And.intro hN10 (show N5 ≤ 4611686018427387900 by omega))
        clear hN5 hN5b hN10
        go_wp2_with fail
        refine (Open_again w10 H10.out.1 HN.out.1 HN.out.2 (H5.out.1.ji.same (s' := { s' with armed := [], count := 0 }) rfl rfl (Nat.le_refl _) H5.out.1.ji.down) (show bankF { s' with armed := [], count := 0 } (1 - j.bank) = [] from H5.out.1.oth)).mono ?_
        rintro e w11 ⟨q11, G11, t0, t1, rfl, O11⟩
        obtain ⟨A11, a11, b11, Av11, c11, d11, vs11, rfl, rfl, _, _, hh11, _⟩ := O11.hin.out
        have hc11 : h.recs.length = c11 := hh11.len
        clear hh11
        have dG10 : ∀ x, wr.heap.size ≤ x ∧ x < w5.heap.size ∧ x ≠ q ∧ x ∉ G' → x ∉ G10 := fun x hx hg => by
          rcases H10.out.2.2.2.2.1 x hg with h | h
          · exact hx.2.2.2 h
          · have h1 := H9.out.2.2.2.2; have h2 := H7.out.2.2.2.2.2; omega
        have x11 := O11.keep.heap H10.out.2.1 (fun hx => by
          rcases H10.out.2.2.2.2.1 _ hx with h | h
          · have h2 := H5.out.1.fl.lts _ h; omega
          · have h1 := H9.out.2.2.2.2; have h3 := (Array.getElem?_eq_some_iff.1 H7.out.1).1; omega)
        have i11 := H10.out.2.2.1.keep O11.keep dG10
        have be11 := O11.keep.below H10.out.2.2.2.1 H10.out.2.2.2.1.size (fun x hx => by
          rcases H10.out.2.2.2.2.1 _ hx with h | h
          · exact H5.out.2.2.2.1 _ h
          · have h1 := H9.out.2.2.2.1.size; omega)
        have H11 := Lib.hid (And.intro O11 (And.intro x11 (And.intro i11 be11)))
        rw [← HEp.out]
        have t2 : ((ep : Int) != (ep : Int)) = false := by simp
        have t3 : ((V : Int) != (V : Int)) = false := by simp
        clear dG10 O11 x11 i11 be11
        go_upto_region 18 with fail
        obtain ⟨w12, hw12⟩ : ∃ x, x = w11.alloc (.cells #[.int .i64 (ep : Nat), .slice A11 a11 b11, .slice Av11 c11 d11, .int .i64 0] 100) := ⟨_, rfl⟩
        have b12 : Below w11.heap.size w11 w12 := by rw [hw12]; exact (Below.refl _ _).alloc (Nat.le_refl _) _
        have x12 : w12.heap[w11.heap.size]? = some (.cells #[.int .i64 (ep : Nat), .slice A11 a11 b11, .slice Av11 c11 d11, .int .i64 0] 100 (0, 0)) := by rw [hw12]; exact heap_alloc_new _ _
        have y12 := heap_below H11.out.2.1 b12
        rw [← hw12]
        have m0 : w12.cell? ⟨w5.heap.size, 0, none⟩ = some (.int .i64 (ep : Nat)) := box_cell y12 0 _ rfl
        have m1 : w12.cell? ⟨w5.heap.size, 1, none⟩ = some (.slice A5 a5 b5) := box_cell y12 1 _ rfl
        have m2 : w12.cell? ⟨w5.heap.size, 2, none⟩ = some (.slice Av5 c5 d5) := box_cell y12 2 _ rfl
        have m3 : w12.cell? ⟨w5.heap.size, 3, none⟩ = some (.int .i64 (cut : Nat)) := box_cell y12 3 _ rfl
        have o0 : w12.cell? ⟨w11.heap.size, 0, none⟩ = some (.int .i64 (ep : Nat)) := box_cell x12 0 _ rfl
        have o1 : w12.cell? ⟨w11.heap.size, 1, none⟩ = some (.slice A11 a11 b11) := box_cell x12 1 _ rfl
        have o2 : w12.cell? ⟨w11.heap.size, 2, none⟩ = some (.slice Av11 c11 d11) := box_cell x12 2 _ rfl
        have o3 : w12.cell? ⟨w11.heap.size, 3, none⟩ = some (.int .i64 0) := box_cell x12 3 _ rfl
        have HWw := Lib.hid (HW.out w12 _ (H11.out.1.fl.below b12))
        have H12 := Lib.hid (And.intro (bthen H11.out.2.2.2 b12) b12)
        clear hw12 b12 x12 y12
        go_wp2_with fail
        obtain ⟨C, hC⟩ : ∃ x : Nat, x = j.count := ⟨_, rfl⟩
        have t4 : ((C : Int) == (c11 : Int)) = true := by
          have := H5.out.1.ji.count
          simp; omega
        have HCt : Hid (∀ wx, Below w12.heap.size w12 wx → Calls Try.prog 60 #[.pointer (some ⟨q11, 0, none⟩)] wx fun e w' => e = .returned (.int .i64 (C : Nat)) ∧ wx = w') := Lib.hid (fun wx hx => by
          refine (JCount_any wx (H11.out.1.jo.below (bthen H12.out.2 hx))).mono ?_
          rintro e w' ⟨rfl, rfl⟩
          exact ⟨by rw [H5.out.1.ji.dead, hC]; rfl, rfl⟩)
        have HIs : Hid (∀ wx, Below w12.heap.size w12 wx → Calls Try.prog 58 #[.agg #[.slice A11 a11 b11, .slice Av11 c11 d11], .agg #[.int .i64 (ep : Nat), .slice A5 a5 b5, .slice Av5 c5 d5, .int .i64 (cut : Nat)]] wx fun e w' => e = .returned (.bool true) ∧ Below wx.heap.size wx w') := Lib.hid (fun wx hx => by
          have HI := is_any wx ((H11.out.1.hin.below H12.out.2).below hx) ((H11.out.2.2.1.below H12.out.2).below hx) ep cut
          rw [show decide (h.snap = h.snap ∧ h.recs = h.recs) = true from decide_eq_true ⟨rfl, rfl⟩] at HI
          exact HI)
        have SB : Hid (∀ wx, Below w12.heap.size w12 wx → (wx.cell? ⟨w11.heap.size, 1, none⟩ = some (.slice A11 a11 b11) ∧ wx.cell? ⟨w11.heap.size, 2, none⟩ = some (.slice Av11 c11 d11) ∧ wx.cell? ⟨w5.heap.size, 0, none⟩ = some (.int .i64 (ep : Nat)) ∧ wx.cell? ⟨w5.heap.size, 1, none⟩ = some (.slice A5 a5 b5) ∧ wx.cell? ⟨w5.heap.size, 2, none⟩ = some (.slice Av5 c5 d5) ∧ wx.cell? ⟨w5.heap.size, 3, none⟩ = some (.int .i64 (cut : Nat)))) := Lib.hid (fun wx hx => ⟨cell_below o1 hx, cell_below o2 hx, cell_below m0 hx, cell_below m1 hx, cell_below m2 hx, cell_below m3 hx⟩)
        clear hC hc11
        refine HWw.out.mono ?_
        rintro e wz ⟨rfl, rfl⟩
        go_wp2_with fail
        clear m0 m1 m2 m3 o0 o1 o2 o3
        refine wp_region_held_drew (S := (fun wx => wx.cell? ⟨w11.heap.size, 1, none⟩ = some (.slice A11 a11 b11) ∧ wx.cell? ⟨w11.heap.size, 2, none⟩ = some (.slice Av11 c11 d11) ∧ wx.cell? ⟨w5.heap.size, 0, none⟩ = some (.int .i64 (ep : Nat)) ∧ wx.cell? ⟨w5.heap.size, 1, none⟩ = some (.slice A5 a5 b5) ∧ wx.cell? ⟨w5.heap.size, 2, none⟩ = some (.slice Av5 c5 d5) ∧ wx.cell? ⟨w5.heap.size, 3, none⟩ = some (.int .i64 (cut : Nat)))) (by kernel_rfl) (by (first | exact SB.out _ b15 | exact SB.out _ b14 | exact SB.out _ b13 | exact SB.out _ (Below.refl _ _) | exact SB.out _ (Below.refl _ _).drew)) (fun hHeld => ?_)
        refine wpAnyH_take (i := 0) (v := ?_) (by simp only [List.getElem?_toArray, List.getElem?_cons_succ, List.getElem?_cons_zero]; rfl) (by kernel_rfl) (by kernel_rfl) (by kernel_rfl) (by exact fun _ _ _ h => h) (Or.inl ⟨by rfl, ?_⟩) (by assumption) ?_
        rotate_left
        · (intro w hSw; (try dsimp only at hSw); go_simp; try with_reducible rfl)
        try simp only [Act.put, List.setIfInBounds_toArray, List.set_cons_zero, List.set_cons_succ]
        refine wpAnyH_take (i := 1) (v := ?_) (by simp only [List.getElem?_toArray, List.getElem?_cons_succ, List.getElem?_cons_zero]; rfl) (by kernel_rfl) (by kernel_rfl) (by kernel_rfl) (by exact fun _ _ _ h => h) (Or.inl ⟨by rfl, ?_⟩) (by assumption) ?_
        rotate_left
        · (intro w hSw; (try dsimp only at hSw); go_simp; try with_reducible rfl)
        try simp only [Act.put, List.setIfInBounds_toArray, List.set_cons_zero, List.set_cons_succ]
        refine wpAnyH_take (i := 2) (v := ?_) (by simp only [List.getElem?_toArray, List.getElem?_cons_succ, List.getElem?_cons_zero]; rfl) (by kernel_rfl) (by kernel_rfl) (by kernel_rfl) (by exact fun _ _ _ h => h) (Or.inl ⟨by rfl, ?_⟩) (by assumption) ?_
        rotate_left
        · (intro w hSw; (try dsimp only at hSw); go_simp; try with_reducible rfl)
        try simp only [Act.put, List.setIfInBounds_toArray, List.set_cons_zero, List.set_cons_succ]
        refine wpAnyH_take (i := 3) (v := ?_) (by simp only [List.getElem?_toArray, List.getElem?_cons_succ, List.getElem?_cons_zero]; rfl) (by kernel_rfl) (by kernel_rfl) (by kernel_rfl) (by exact fun _ _ _ h => h) (Or.inl ⟨by rfl, ?_⟩) (by assumption) ?_
        rotate_left
        · (intro w hSw; (try dsimp only at hSw); go_simp; try with_reducible rfl)
        try simp only [Act.put, List.setIfInBounds_toArray, List.set_cons_zero, List.set_cons_succ]
        refine wpAnyH_take (i := 4) (v := ?_) (by simp only [List.getElem?_toArray, List.getElem?_cons_succ, List.getElem?_cons_zero]; rfl) (by kernel_rfl) (by kernel_rfl) (by kernel_rfl) (by exact fun _ _ _ h => h) (Or.inl ⟨by rfl, ?_⟩) (by assumption) ?_
        rotate_left
        · (intro w hSw; (try dsimp only at hSw); go_simp; try with_reducible rfl)
        try simp only [Act.put, List.setIfInBounds_toArray, List.set_cons_zero, List.set_cons_succ]
        refine wpAnyH_take (i := 5) (v := ?_) (by simp only [List.getElem?_toArray, List.getElem?_cons_succ, List.getElem?_cons_zero]; rfl) (by kernel_rfl) (by kernel_rfl) (by kernel_rfl) (by exact fun _ _ _ h => h) (Or.inl ⟨by rfl, ?_⟩) (by assumption) ?_
        rotate_left
        · (intro w hSw; (try dsimp only at hSw); go_simp; try with_reducible rfl)
        try simp only [Act.put, List.setIfInBounds_toArray, List.set_cons_zero, List.set_cons_succ]
        refine wpAnyH_ready (rs := [6]) (by kernel_rfl) (by simp) ?_
        refine AllReadyH.cons rfl (fun K hK => ?_) AllReadyH.nil
        rw [if_pos (by rfl)]
        (go_wp2_with fail; refine (HIs.out _ (by first | exact (Below.refl _ _).drew | exact below_drewN (Below.refl _ _) _)).mono ?_; rintro e w13 ⟨rfl, k13⟩; have b13 := (show Below w12.heap.size w12 w13 from bthen (by first | exact (Below.refl _ _).drew | exact below_drewN (Below.refl _ _) _) k13); try dsimp only)
        refine hK.out _ _ (by (first | exact SB.out _ b15 | exact SB.out _ b14 | exact SB.out _ b13 | exact SB.out _ (Below.refl _ _) | exact SB.out _ (Below.refl _ _).drew)) (fun hHeld => ?_)
        clear hK K
        try simp only [Act.put, List.setIfInBounds_toArray, List.set_cons_zero, List.set_cons_succ]
        refine wpAnyH_take (i := 7) (v := ?_) (by simp only [List.getElem?_toArray, List.getElem?_cons_succ, List.getElem?_cons_zero]; rfl) (by kernel_rfl) (by kernel_rfl) (by kernel_rfl) (by exact fun _ _ _ h => h) (Or.inl ⟨by rfl, ?_⟩) (by assumption) ?_
        rotate_left
        · (intro w hSw; (try dsimp only at hSw); go_simp; try with_reducible rfl)
        try simp only [Act.put, List.setIfInBounds_toArray, List.set_cons_zero, List.set_cons_succ]
        refine wpAnyH_take (i := 8) (v := ?_) (by simp only [List.getElem?_toArray, List.getElem?_cons_succ, List.getElem?_cons_zero]; rfl) (by kernel_rfl) (by kernel_rfl) (by kernel_rfl) (by exact fun _ _ _ h => h) (Or.inl ⟨by rfl, ?_⟩) (by assumption) ?_
        rotate_left
        · (intro w hSw; (try dsimp only at hSw); go_simp; try with_reducible rfl)
        try simp only [Act.put, List.setIfInBounds_toArray, List.set_cons_zero, List.set_cons_succ]
        refine wpAnyH_take (i := 10) (v := ?_) (by simp only [List.getElem?_toArray, List.getElem?_cons_succ, List.getElem?_cons_zero]; rfl) (by kernel_rfl) (by kernel_rfl) (by kernel_rfl) (by exact fun _ _ _ h => h) (Or.inl ⟨by rfl, ?_⟩) (by assumption) ?_
        rotate_left
        · (intro w hSw; (try dsimp only at hSw); go_simp; try with_reducible rfl)
        try simp only [Act.put, List.setIfInBounds_toArray, List.set_cons_zero, List.set_cons_succ]
        refine wpAnyH_take (i := 11) (v := ?_) (by simp only [List.getElem?_toArray, List.getElem?_cons_succ, List.getElem?_cons_zero]; rfl) (by kernel_rfl) (by kernel_rfl) (by kernel_rfl) (by exact fun _ _ _ h => h) (Or.inl ⟨by rfl, ?_⟩) (by assumption) ?_
        rotate_left
        · (intro w hSw; (try dsimp only at hSw); go_simp; try with_reducible rfl)
        try simp only [Act.put, List.setIfInBounds_toArray, List.set_cons_zero, List.set_cons_succ]
        refine wpAnyH_take (i := 12) (v := ?_) (by simp only [List.getElem?_toArray, List.getElem?_cons_succ, List.getElem?_cons_zero]; rfl) (by kernel_rfl) (by kernel_rfl) (by kernel_rfl) (by exact fun _ _ _ h => h) (Or.inl ⟨by rfl, ?_⟩) (by assumption) ?_
        rotate_left
        · (intro w hSw; (try dsimp only at hSw); go_simp; try with_reducible rfl)
        try simp only [Act.put, List.setIfInBounds_toArray, List.set_cons_zero, List.set_cons_succ]
        refine wpAnyH_ready (rs := [9]) (by kernel_rfl) (by simp) ?_
        refine AllReadyH.cons rfl (fun K hK => ?_) AllReadyH.nil
        rw [if_pos (by rfl)]
        (go_wp2_with fail; refine (HCt.out _ b13).mono ?_; rintro e w14 ⟨rfl, rfl⟩; have b14 := b13; try dsimp only)
        refine hK.out _ _ (by (first | exact SB.out _ b15 | exact SB.out _ b14 | exact SB.out _ b13 | exact SB.out _ (Below.refl _ _) | exact SB.out _ (Below.refl _ _).drew)) (fun hHeld => ?_)
        clear hK K
        try simp only [Act.put, List.setIfInBounds_toArray, List.set_cons_zero, List.set_cons_succ]
        refine wpAnyH_take (i := 13) (v := ?_) (by simp only [List.getElem?_toArray, List.getElem?_cons_succ, List.getElem?_cons_zero]; rfl) (by kernel_rfl) (by kernel_rfl) (by kernel_rfl) (by exact fun _ _ _ h => h) (Or.inl ⟨by rfl, ?_⟩) (by assumption) ?_
        rotate_left
        · (intro w hSw; (try dsimp only at hSw); go_simp; try with_reducible rfl)
        try simp only [Act.put, List.setIfInBounds_toArray, List.set_cons_zero, List.set_cons_succ]
        refine wpAnyH_take (i := 14) (v := ?_) (by simp only [List.getElem?_toArray, List.getElem?_cons_succ, List.getElem?_cons_zero]; rfl) (by kernel_rfl) (by kernel_rfl) (by kernel_rfl) (by exact fun _ _ _ h => h) (Or.inl ⟨by rfl, ?_⟩) (by assumption) ?_
        rotate_left
        · (intro w hSw; (try dsimp only at hSw); go_simp; try with_reducible rfl)
        try simp only [Act.put, List.setIfInBounds_toArray, List.set_cons_zero, List.set_cons_succ]
        refine wpAnyH_take (i := 15) (v := ?_) (by simp only [List.getElem?_toArray, List.getElem?_cons_succ, List.getElem?_cons_zero]; rfl) (by kernel_rfl) (by kernel_rfl) (by kernel_rfl) (by exact fun _ _ _ h => h) (Or.inl ⟨by rfl, ?_⟩) (by assumption) ?_
        rotate_left
        · (intro w hSw; (try dsimp only at hSw); go_simp; try with_reducible rfl)
        try simp only [Act.put, List.setIfInBounds_toArray, List.set_cons_zero, List.set_cons_succ]
        refine wpAnyH_ready (rs := [16]) (by kernel_rfl) (by simp) ?_
        refine AllReadyH.cons rfl (fun K hK => ?_) AllReadyH.nil
        rw [if_pos (by rfl)]
        (go_wp2_with fail; refine (works_any _).mono ?_; rintro e w15 ⟨rfl, k15⟩; have b15 := bthen b14 k15; try dsimp only)
        refine hK.out _ _ (by (first | exact SB.out _ b15 | exact SB.out _ b14 | exact SB.out _ b13 | exact SB.out _ (Below.refl _ _) | exact SB.out _ (Below.refl _ _).drew)) (fun hHeld => ?_)
        clear hK K
        try simp only [Act.put, List.setIfInBounds_toArray, List.set_cons_zero, List.set_cons_succ]
        refine wpAnyH_take (i := 17) (v := ?_) (by simp only [List.getElem?_toArray, List.getElem?_cons_succ, List.getElem?_cons_zero]; rfl) (by kernel_rfl) (by kernel_rfl) (by kernel_rfl) (by exact fun _ _ _ h => h) (Or.inl ⟨by rfl, ?_⟩) (by assumption) ?_
        rotate_left
        · (intro w hSw; (try dsimp only at hSw); go_simp; try with_reducible rfl)
        try simp only [Act.put, List.setIfInBounds_toArray, List.set_cons_zero, List.set_cons_succ]
        refine wpAnyH_take (i := 18) (v := ?_) (by simp only [List.getElem?_toArray, List.getElem?_cons_succ, List.getElem?_cons_zero]; rfl) (by kernel_rfl) (by kernel_rfl) (by kernel_rfl) (by exact fun _ _ _ h => h) (Or.inl ⟨by rfl, ?_⟩) (by assumption) ?_
        rotate_left
        · (intro w hSw; (try dsimp only at hSw); go_simp; try with_reducible rfl)
        try simp only [Act.put, List.setIfInBounds_toArray, List.set_cons_zero, List.set_cons_succ]
        refine wpAnyH_done (by kernel_rfl) ?_ _
        have HZ := Lib.hid (bthen H12.out.1 b15)
        clear b13 b14 b15 k13 k15
        go_wp2
        go_ret
        exact ⟨rfl, HZ.out⟩
end Go.Proofs.Ytpjmbhhfpoamnaa
