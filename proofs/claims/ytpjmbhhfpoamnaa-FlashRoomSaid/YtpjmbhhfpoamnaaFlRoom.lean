import Derived.Test.YtpjmbhhfpoamnaaFlash10
import Derived.Test.YtpjmbhhfpoamnaaMany
set_option linter.unusedVariables false
set_option linter.unusedSimpArgs false
namespace Go.Proofs.Ytpjmbhhfpoamnaa
open Go.RowKit
theorem Sls.get' {w : World} {b off n c : Nat} {vs : List Value} {ll : List (List UInt8)} (h : Sls w (some ⟨b, off, none⟩) n c vs ll) (k : Nat) (hk : k < n) :
    ∃ a m c2 l, ll[k]? = some l ∧ w.cell? ⟨b, off + k, none⟩ = some (.slice a m c2) ∧ Sl w 1 a m c2 (l.map by8) ∧ m ≤ 140737488351232 := by
  have hl : k < ll.length := by rw [h.len]; exact hk
  have e : ll[k]? = some ll[k] := List.getElem?_eq_getElem hl
  obtain ⟨a, m, c2, h1, h2, h3⟩ := h.at_ k _ e
  obtain ⟨h6, h7⟩ := List.getElem?_eq_some_iff.1 h1
  have h8 := h.sl.cell k h6
  rw [h7] at h8
  exact ⟨a, m, c2, _, e, h8, h2, h3⟩
theorem bankF_app0 (s : FSt) (l : List UInt8) : bankF (appS s 0 l) 0 = s.b0 ++ l := rfl
/-- the flash beside what came in -/
structure FlW (W w : World) (p : Nat) (s : FSt) : Prop where
  out : ∃ G, Fl w p G s ∧ ∀ x ∈ G, W.heap.size ≤ x
  below : Below W.heap.size W w
theorem FlW.then_ {W w w' : World} {p : Nat} {s : FSt} (h : FlW W w p s) (k : Below w.heap.size w w') : FlW W w' p s :=
  let ⟨G, h1, h2⟩ := h.out; ⟨⟨G, h1.below k, h2⟩, bthen h.below k⟩
theorem FlW.step {W w : World} {p : Nat} {s s' : FSt} (h : FlW W w p s) {Q : Ending → Prop} {f : FuncId} {args : Array Value} (hc : ∀ G, Fl w p G s → (∀ x ∈ G, W.heap.size ≤ x ∧ x < w.heap.size) → Calls Try.prog f args w fun e w' => Q e ∧ FStep w w' p G s') :
    Calls Try.prog f args w fun e w' => Q e ∧ FlW W w' p s' := by
  obtain ⟨G, h1, h2⟩ := h.out
  refine (hc G h1 (fun x hx => ⟨h2 x hx, h1.lts x hx⟩)).mono fun e w' ⟨he, k⟩ => ⟨he, ?_⟩
  obtain ⟨G', k1, k2, k3, _⟩ := k.below h.below h2
  exact ⟨⟨G', k1, k3⟩, k2⟩
set_option maxRecDepth 100000 in
set_option maxHeartbeats 3200000 in
theorem FlashRoom_walk (W : World) (z : Int) {A : Option Addr} {n c : Nat} {vs : List Value} {ll : List (List UInt8)} (h : Sls W A n c vs ll) :
    Calls Try.prog 5 #[.int .i64 z, .slice A n c] W fun e w' => e = .returned (.bool true) ∧ Below W.heap.size W w' := by
  have n1 := h.sl.le; have n2 := h.sl.max
  have hc0 := capF_le z
  go_enter Try.func5, Try.ntmps5
  go_wp2_with (first | (at_builtin; refine Stopped.out ?_) | (at_make; refine Stopped.out ?_))
  refine (flash_New _ z).mono ?_
  rintro e w1 ⟨G, rfl, f1, hb1, hG⟩
  have F1 : FlW W w1 W.heap.size ⟨capF z, [], [], [], 0, 0, false⟩ := ⟨⟨G, f1, hG⟩, hb1⟩
  clear f1 hb1 hG
  obtain ⟨p, hp⟩ : ∃ p, p = W.heap.size := ⟨_, rfl⟩
  obtain ⟨S, hS⟩ : ∃ S, S = capF z := ⟨_, rfl⟩
  rw [← hp, ← hS] at F1
  rw [← hp]
  rw [← hS] at hc0
  clear hp hS
  by_cases hbig : 400 < n
  · have i0 : (400 : Int) < (n : Int) := by omega
    go_wp2_with (first | (at_builtin; refine Stopped.out ?_) | (at_make; refine Stopped.out ?_))
    refine (holds12 _).mono ?_
    rintro e w2 ⟨rfl, hb2⟩
    go_wp2
    go_ret
    exact ⟨by simp, (F1.then_ hb2).below⟩
  · have i0 : decide ((400 : Int) < (n : Int)) = false := decide_eq_false (by omega)
    have hn : n ≤ 400 := by omega
    clear hbig
    go_wp2_with (first | (at_builtin; refine Stopped.out ?_) | (at_make; refine Stopped.out ?_))
    refine (holds12 _).mono ?_
    rintro e w2 ⟨rfl, hb2⟩
    have F2 := F1.then_ hb2
    clear F1 hb2
    go_wp2_with (first | (at_builtin; refine Stopped.out ?_) | (at_make; refine Stopped.out ?_))
    obtain ⟨Gx, fx, _⟩ := F2.out
    refine (flash_Room_yes _ fx 0 (by decide) rfl hc0 (Nat.zero_le _)).mono ?_
    rintro e w3 ⟨rfl, hd⟩
    have F3 := F2.then_ hd.below
    clear F2 fx hd
    have e0 : ((⟨S, [], [], [], 0, 0, false⟩ : FSt).size - (bankF ⟨S, [], [], [], 0, 0, false⟩ 0).length : Nat) = S := rfl
    rw [e0]
    clear e0
    have HF := Lib.hid F3
    clear F3
    go_wp2_with (first | (at_builtin; refine Stopped.out ?_) | (at_make; refine Stopped.out ?_))
    go_loopw [6, 9] (fun o i wr => ∃ (k t : Nat) (s : FSt), k ≤ n ∧ t ≤ 2097152 ∧ o = .int .i64 t ∧ i = .int .i64 k ∧ FlW W wr p s ∧ s.size = S ∧ s.armed = [] ∧ s.down = false ∧ s.writes ≤ k ∧ s.b0.length ≤ S) (fun _ i _ => n - (intOf i).toNat)
    case atStart => exact ⟨0, 0, _, by omega, by omega, rfl, rfl, HF.out, rfl, rfl, rfl, Nat.le_refl _, Nat.zero_le _⟩
    case round =>
      clear HF
      obtain ⟨k, t, s, hk, ht, rfl, rfl, F, hsz, harm, hdn, hwr, hb0⟩ := hrel
      by_cases hlt : k < n
      · have hk0 : (0 : Int) ≤ (k : Int) := Int.natCast_nonneg _
        have hk1 : (k : Int) < (n : Int) := by omega
        obtain ⟨b, off, rfl⟩ := h.sl.form (by omega)
        obtain ⟨pa, m, pc, x, hx, gc, sx, hm⟩ := (h.below F.below).get' k hlt
        by_cases hover : 2097152 < t + m
        · have i1 : (2097152 : Int) < (t : Int) + (m : Int) := by omega
          have HB := Lib.hid F.below
          clear F sx
          go_wp2
          go_ret
          exact ⟨rfl, HB.out⟩
        · have i1 : decide ((2097152 : Int) < (t : Int) + (m : Int)) = false := decide_eq_false (by omega)
          obtain ⟨q, hq⟩ : ∃ q, q = s.b0.length := ⟨_, rfl⟩
          obtain ⟨r, hr⟩ : ∃ r, r + q = S := ⟨S - q, by omega⟩
          have HR := Lib.hid (fun (w : World) (G : List Nat) (hf : Fl w p G s) => by
            have := flash_Room_yes w hf 0 (by decide) hdn (by omega) (by show s.b0.length ≤ _; omega)
            rwa [show s.size - (bankF s 0).length = r by show s.size - s.b0.length = r; omega] at this)
          have HD := Lib.hid (fun (w : World) (G : List Nat) (hf : Fl w p G s) => by
            have := flash_Read_yes w hf 0 (by decide) hdn (by show s.b0.length ≤ _; omega)
            rwa [show bankF s 0 = s.b0 from rfl, ← hq] at this)
          have HS := Lib.hid (And.intro (And.intro hsz harm) (And.intro hdn (And.intro hwr hq)))
          clear hsz harm hdn hwr hb0
          have hLx := sx.len
          go_wp2_with (first | (at_builtin; refine Stopped.out ?_) | (at_make; refine Stopped.out ?_))
          obtain ⟨Gx, fx, _⟩ := F.out
          refine (HR.out _ _ fx).mono ?_
          rintro e w4 ⟨rfl, hd⟩
          have F4 := F.then_ hd.below
          have gc4 := cell_below gc hd.below
          have sx4 := sx.below hd.below
          clear F fx hd gc sx
          go_wp2_with (first | (at_builtin; refine Stopped.out ?_) | (at_make; refine Stopped.out ?_))
          obtain ⟨Gx, fx, _⟩ := F4.out
          refine (HD.out _ _ fx).mono ?_
          rintro e w5 ⟨rfl, o5, hb5⟩
          have F5 := F4.then_ hb5
          have gc5 := cell_below gc4 hb5
          have sx5 := sx4.below hb5
          clear F4 fx hb5 gc4 sx4 o5
          have gc6 := cell_al gc5 (.cells #[] 5)
          have GC5 := Lib.hid gc5
          clear gc5
          go_wp2_with (first | (at_builtin; refine Stopped.out ?_) | (at_make; refine Stopped.out ?_))
          refine Stopped.mk (ap_own EF rfl (.tmp 68) (.tmp 72) rfl rfl (World.ownsRow_lit (base := w5.heap.size) _ #[] 0 (by simp) (by decide) rfl) rfl (sx5.alloc _) (u8_one _) (by simp only [maxLen]; omega) (by omega) (by simp) ?_)
          intro v6 w6 o6 hg6 _
          have hb6 : Below w5.heap.size w5 w6 := ((Below.refl _ w5).alloc (Nat.le_refl _) _).grown hg6 (by simp) (fun k hk => (Option.some.inj hk) ▸ Nat.le_refl _)
          rw [List.nil_append, Nat.zero_add] at o6
          obtain ⟨G5, f5, hG5⟩ := F5.out
          have f6 := f5.below hb6
          obtain ⟨A6, c6, rfl, s6, hA6⟩ := own_sl o6
          have gc7 : w6.cell? ⟨b, off + k, none⟩ = some (.slice pa m pc) := cell_below GC5.out hb6
          have hxl : x.length = m := by simpa using hLx
          have hblt : b < W.heap.size := by
            obtain ⟨_, _, _, _, _, g, _, _⟩ := h.get' k hlt
            exact cell_lt g
          have HC := Lib.hid (And.intro f6 (And.intro s6 (And.intro hA6 (And.intro hG5 (And.intro f5.lts (bthen F5.below hb6))))))
          clear f6 s6 hA6 hG5 f5 hb6 hg6 o6 gc6 sx5 F5 hLx
          by_cases hfit : m ≤ r
          · go_wp2_with (first | (at_builtin; refine Stopped.out ?_) | (at_make; refine Stopped.out ?_))
            refine (flash_Append_calm _ HC.out.1 0 (by decide) HS.out.2.1 HS.out.1.2 (by have := HS.out.2.2.1; omega) (by have := HS.out.1.1; omega) HC.out.2.1 (fun ad e _ hx => by have h1 := HC.out.2.2.2.2.1 _ hx; have h2 := (HC.out.2.2.1 ad e).1; omega) (by show s.b0.length + m ≤ s.size; have := HS.out.1.1; have := HS.out.2.2.2; omega)).mono ?_
            rintro e w7 ⟨rfl, hst⟩
            obtain ⟨G7, k1, k2, k3, k4, _⟩ := hst.below HC.out.2.2.2.2.2 HC.out.2.2.2.1
            have F7 : FlW W w7 p (appS s 0 x) := ⟨⟨G7, k1, k3⟩, k2⟩
            have gc7' := k4.cell gc7 (fun hx => by have := HC.out.2.2.2.1 _ hx; simp at this; omega)
            clear hst k1 k2 k3 k4 gc7 HR HD
            have HR2 := Lib.hid (fun (w : World) (G : List Nat) (hf : Fl w p G (appS s 0 x)) => by
              have := flash_Room_yes w hf 0 (by decide) (by simp [appS]; exact HS.out.2.1) (by show s.size ≤ _; have := HS.out.1.1; omega) (by show (s.b0 ++ x).length ≤ s.size; rw [List.length_append]; have := HS.out.1.1; have := HS.out.2.2.2; omega)
              rwa [show (appS s 0 x).size - (bankF (appS s 0 x) 0).length = r - m by show s.size - (s.b0 ++ x).length = r - m; rw [List.length_append]; have := HS.out.1.1; have := HS.out.2.2.2; omega] at this)
            have HD2 := Lib.hid (fun (w : World) (G : List Nat) (hf : Fl w p G (appS s 0 x)) => by
              have := flash_Read_yes w hf 0 (by decide) (by simp [appS]; exact HS.out.2.1) (by show (s.b0 ++ x).length ≤ _; rw [List.length_append]; have := HS.out.2.2.2; omega)
              rwa [show (bankF (appS s 0 x) 0).length = q + m by show (s.b0 ++ x).length = q + m; rw [List.length_append]; have := HS.out.2.2.2; omega] at this)
            go_wp2_with (first | (at_builtin; refine Stopped.out ?_) | (at_make; refine Stopped.out ?_))
            obtain ⟨Gx, fx, _⟩ := F7.out
            refine (HD2.out _ _ fx).mono ?_
            rintro e w8 ⟨rfl, o8, hb8⟩
            have F8 := F7.then_ hb8
            have gc8 := cell_below gc7' hb8
            clear F7 fx hb8 gc7' o8
            go_wp2_with (first | (at_builtin; refine Stopped.out ?_) | (at_make; refine Stopped.out ?_))
            obtain ⟨Gx, fx, _⟩ := F8.out
            refine (HR2.out _ _ fx).mono ?_
            rintro e w9 ⟨rfl, hd⟩
            have F9 := F8.then_ hd.below
            have gc9 := cell_below gc8 hd.below
            have j1 : (((r : Nat) : Int) + q != (S : Int)) = false := by simp; omega
            have j2 : (((r - m : Nat) : Int) + (q + m : Nat) != (S : Int)) = false := by simp; omega
            have j3 : decide ((m : Int) ≤ (r : Int)) = true := decide_eq_true (by omega)
            clear F8 fx hd gc8
            go_wp2
            first | go_roundw | refine ⟨?rel, ?measure⟩
            case rel => exact ⟨k + 1, t + m, appS s 0 x, by omega, by omega, by go_num, by go_num, F9, by simp [appS]; exact HS.out.1.1, by simp [appS]; exact HS.out.1.2, by simp [appS]; exact HS.out.2.1, by simp [appS]; exact HS.out.2.2.1, by simp [appS]; have := HS.out.2.2.2; omega⟩
            case measure => simp [intOf]; omega
          · go_wp2_with (first | (at_builtin; refine Stopped.out ?_) | (at_make; refine Stopped.out ?_))
            refine (flash_Append_full _ HC.out.1 0 (by decide) HS.out.2.1 (by have := HS.out.1.1; omega) (by show s.b0.length ≤ s.size; have := HS.out.1.1; have := HS.out.2.2.2; omega) (by omega) (by show s.size < s.b0.length + m; have := HS.out.1.1; have := HS.out.2.2.2; omega)).mono ?_
            rintro e w7 ⟨rfl, hd7⟩
            have F7 : FlW W w7 p s := FlW.then_ ⟨⟨G5, HC.out.1, HC.out.2.2.2.1⟩, HC.out.2.2.2.2.2⟩ hd7.below
            have gc7' := cell_below gc7 hd7.below
            clear hd7 gc7 HR HD
            have HR2 := Lib.hid (fun (w : World) (G : List Nat) (hf : Fl w p G s) => by
              have := flash_Room_yes w hf 0 (by decide) HS.out.2.1 (by skip; have := HS.out.1.1; omega) (by show s.b0.length ≤ s.size; have := HS.out.1.1; have := HS.out.2.2.2; omega)
              rwa [show s.size - (bankF s 0).length = r by show s.size - s.b0.length = r; have := HS.out.1.1; have := HS.out.2.2.2; omega] at this)
            have HD2 := Lib.hid (fun (w : World) (G : List Nat) (hf : Fl w p G s) => by
              have := flash_Read_yes w hf 0 (by decide) HS.out.2.1 (by show s.b0.length ≤ _; have := HS.out.2.2.2; omega)
              rwa [show (bankF s 0).length = q by show s.b0.length = q; have := HS.out.2.2.2; omega] at this)
            go_wp2_with (first | (at_builtin; refine Stopped.out ?_) | (at_make; refine Stopped.out ?_))
            obtain ⟨Gx, fx, _⟩ := F7.out
            refine (HD2.out _ _ fx).mono ?_
            rintro e w8 ⟨rfl, o8, hb8⟩
            have F8 := F7.then_ hb8
            have gc8 := cell_below gc7' hb8
            clear F7 fx hb8 gc7' o8
            go_wp2_with (first | (at_builtin; refine Stopped.out ?_) | (at_make; refine Stopped.out ?_))
            obtain ⟨Gx, fx, _⟩ := F8.out
            refine (HR2.out _ _ fx).mono ?_
            rintro e w9 ⟨rfl, hd⟩
            have F9 := F8.then_ hd.below
            have gc9 := cell_below gc8 hd.below
            have j1 : (((r : Nat) : Int) + q != (S : Int)) = false := by simp; omega
            have j2 : (((r : Nat) : Int) + q != (S : Int)) = false := by simp; omega
            have j3 : decide ((m : Int) ≤ (r : Int)) = false := decide_eq_false (by omega)
            clear F8 fx hd gc8
            go_wp2
            first | go_roundw | refine ⟨?rel, ?measure⟩
            case rel => exact ⟨k + 1, t + m, s, by omega, by omega, by go_num, by go_num, F9, HS.out.1.1, HS.out.1.2, HS.out.2.1, by have := HS.out.2.2.1; omega, by have := HS.out.2.2.2; omega⟩
            case measure => simp [intOf]; omega
      · have HB := Lib.hid F.below
        have HK := Lib.hid (show k = n by omega)
        have j1 : decide ((0 : Int) ≤ (S : Int)) = true := decide_eq_true (by omega)
        have j2 : decide ((S : Int) ≤ 1048576) = true := decide_eq_true (by omega)
        clear F
        go_wp2
        go_ret
        exact ⟨by simp, HB.out⟩
end Go.Proofs.Ytpjmbhhfpoamnaa
