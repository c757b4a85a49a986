import Derived.Test.YtikjhandhgfohaaStepR
import Derived.Test.YtikjhandhgfohaaRdC
import Derived.Test.YtikjhandhgfohaaBits2
set_option linter.unusedVariables false
set_option linter.unusedSimpArgs false
namespace Go.Proofs.Ytikjhandhgfohaa
open Go.RowKit
theorem numR_yes {l : List UInt8} {a : Nat} {k : Nat} (h : a + k ≤ l.length) : numR l a (k : Int) = .ok k := by
  unfold numR
  rw [if_neg (by omega)]
  simp
theorem numR_no {l : List UInt8} {a : Nat} {k : Int} (h : k < 0 ∨ ((l.length - a : Nat) : Int) < k) : numR l a k = .error 90 := by
  unfold numR
  rw [if_pos h]
set_option maxRecDepth 100000 in
set_option maxHeartbeats 1600000 in
theorem byte1 (w : World) {p : Nat} {G : List Nat} {l : List UInt8} {a f : Nat} (h : Rd w p G l a f) (b2 : Nat) (c2 : w.cell? ⟨b2, 0, none⟩ = some (.pointer (some ⟨p, 0, none⟩))) :
    Calls Try.prog 45 #[.pointer (some ⟨b2, 0, none⟩)] w (EndQ w p G l a f (numR l a 1) (fun v _ => v = .int .u8 (bt l a : Int))) := by
  by_cases hle : a + 1 ≤ l.length
  · have HF : Hid (numR l a 1 = .ok 1) := Lib.hid (numR_yes (k := 1) hle)
    have HT := Lib.hid (take_yes _ h 1 hle)
    have HLE := Lib.hid hle
    clear h hle
    go_enter Try.func45, Try.ntmps45
    go_wp2_with (first | (at_builtin; refine Stopped.out ?_) | (at_make; refine Stopped.out ?_))
    refine HT.out.mono ?_
    rintro e w2 ⟨v, rfl, o2, hr2, hk2⟩
    obtain ⟨A, c, rfl, s, _⟩ := own_sl o2
    obtain ⟨b, off, rfl⟩ := s.form (by omega)
    have g0 := s.byte 0 (by omega)
    rw [bt_take _ _ _ (by omega), bt_drop, Nat.add_zero, Nat.add_zero] at g0
    have HX := Lib.hid (And.intro hr2 hk2)
    have hc0 := s.le
    clear o2 hr2 hk2 s
    go_wp2
    go_ret
    refine ⟨HX.out.2, ?_⟩
    rw [HF.out]
    exact ⟨_, rfl, HX.out.1, rfl⟩
  · have HF : Hid (numR l a 1 = .error 90) := Lib.hid (numR_no (.inr (by have := h.le; omega)))
    have HT := Lib.hid (take_no _ h 1 (.inr (by have := h.le; omega)) (by decide))
    have HW := Lib.hid h
    clear h hle
    go_enter Try.func45, Try.ntmps45
    go_wp2_with (first | (at_builtin; refine Stopped.out ?_) | (at_make; refine Stopped.out ?_))
    refine HT.out.mono ?_
    rintro e w2 ⟨rfl, hd⟩
    dsimp only [gave]
    refine ⟨rfl, hd.keep [p], ?_⟩
    rw [HF.out]
    exact ⟨rfl, _, HW.out.below hd.below⟩
theorem enter_byte1 (args : Array Value) (w : World) : (callFunc 45 args).run Try.prog w = .ok (.enter 45 args) w := by
  simp [go_sem]
set_option maxRecDepth 100000 in
theorem Rd_Byte (w : World) {p : Nat} {G : List Nat} {l : List UInt8} {a f : Nat} (h : Rd w p G l a f) :
    Calls Try.prog 29 #[.pointer (some ⟨p, 0, none⟩)] w (CaughtQ w p G l a f (numR l a 1) (.int .u8 0) (fun v _ => v = .int .u8 (bt l a : Int))) := by
  have hmf : ∀ (fn : Fn) (first cap : Array Value) (w : World), (Instr.makeFunc fn first cap).run Try.prog w = .ok (.func fn first cap) w := fun _ _ _ _ => rfl
  have hp := h.lts p h.mem
  have b0 := box_cell (heap_alloc_new w (.cells #[.pointer (some ⟨p, 0, none⟩)] 59)) 0 _ rfl
  have hB2 : Below w.heap.size w (w.alloc (.cells #[.pointer (some ⟨p, 0, none⟩)] 59)) := (Below.refl _ w).alloc (Nat.le_refl _) _
  have HX := Lib.hid (And.intro b0 (And.intro (h.below hB2) hB2))
  clear hB2 h
  go_enter Try.func29, Try.ntmps29
  go_wp2_with (first | (at_builtin; refine Stopped.out ?_) | (at_make; refine Stopped.out ?_))
  have hr := HX.out.2.1
  refine (caught_any_u8 _ hr 45 #[] #[.pointer (some ⟨w.heap.size, 0, none⟩)] (numR l a 1) (fun v _ => v = .int .u8 (bt l a : Int)) (fun v w' w'' hv k => hv) (enter_byte1 _) (fun hf w' k => ?_)).mono ?_
  · subst hf
    exact byte1 w' (hr.below k) w.heap.size (cell_below HX.out.1 k)
  · rintro e w3 ⟨hk, hr3⟩
    have hk3 : Keep [p] w w3 := (Keep.of_below HX.out.2.2 [p]).trans hk
    clear hk HX hr
    cases hb : effR (numR l a 1) f with
    | error n =>
      rw [hb] at hr3
      obtain ⟨rfl, hr4⟩ := hr3
      have HN := Lib.hid (show CaughtQ w p G l a f (numR l a 1) (.int .u8 0) (fun v _ => v = .int .u8 (bt l a : Int)) (.returned (.int .u8 0)) w3 from ⟨hk3, by rw [hb]; exact ⟨rfl, hr4⟩⟩)
      clear hk3 hr4 hb
      go_wp2
      go_ret
      exact HN.out
    | ok k =>
      rw [hb] at hr3
      obtain ⟨v, rfl, hr4, rfl⟩ := hr3
      have HN := Lib.hid (show CaughtQ w p G l a f (numR l a 1) (.int .u8 0) (fun v _ => v = .int .u8 (bt l a : Int)) (.returned (.int .u8 (bt l a : Int))) w3 from ⟨hk3, by rw [hb]; exact ⟨_, rfl, hr4, rfl⟩⟩)
      clear hk3 hr4 hb
      go_wp2
      go_ret
      exact HN.out
theorem uint1 (w : World) {p : Nat} {G : List Nat} {l : List UInt8} {a f : Nat} (h : Rd w p G l a f) :
    Calls Try.prog 59 #[.pointer (some ⟨p, 0, none⟩)] w (EndQ w p G l a f (shR l a) (fun v _ => v = .int .u64 (shV l a : Int))) := by
  refine (short_any w h).mono ?_
  rintro e w' ⟨hk, hr⟩
  refine ⟨hk, ?_⟩
  unfold shR shV
  cases hs : rdS (l.drop a) 0 0 with
  | none => rw [hs] at hr; exact hr
  | some xk =>
    obtain ⟨x, k⟩ := xk
    rw [hs] at hr
    obtain ⟨rfl, h2, _⟩ := hr
    exact ⟨_, rfl, h2, rfl⟩
theorem enter_uint1 (args : Array Value) (w : World) : (callFunc 59 args).run Try.prog w = .ok (.enter 59 args) w := by
  simp [go_sem]
set_option maxRecDepth 100000 in
set_option maxHeartbeats 1600000 in
theorem fixed1 (w : World) {p : Nat} {G : List Nat} {l : List UInt8} {a f : Nat} (h : Rd w p G l a f) (b2 b3 : Nat) (n : Int) (hn : n ≤ 9223372036854775807) (c2 : w.cell? ⟨b2, 0, none⟩ = some (.pointer (some ⟨p, 0, none⟩))) (c3 : w.cell? ⟨b3, 0, none⟩ = some (.int .i64 n)) :
    Calls Try.prog 48 #[.pointer (some ⟨b2, 0, none⟩), .pointer (some ⟨b3, 0, none⟩)] w (EndQ w p G l a f (numR l a n) (NewB w.heap.size (atR l a n.toNat))) := by
  by_cases hle : n < 0 ∨ ((l.length - a : Nat) : Int) < n
  · have HF : Hid (numR l a n = .error 90) := Lib.hid (numR_no hle)
    have HT := Lib.hid (take_no _ h n hle hn)
    have HW := Lib.hid h
    clear h hle
    go_enter Try.func48, Try.ntmps48
    go_wp2_with (first | (at_builtin; refine Stopped.out ?_) | (at_make; refine Stopped.out ?_))
    refine HT.out.mono ?_
    rintro e w2 ⟨rfl, hd⟩
    dsimp only [gave]
    refine ⟨rfl, hd.keep [p], ?_⟩
    rw [HF.out]
    exact ⟨rfl, _, HW.out.below hd.below⟩
  · obtain ⟨k, rfl⟩ : ∃ k : Nat, n = k := ⟨n.toNat, by omega⟩
    have hk : a + k ≤ l.length := by have := h.le; omega
    have HF : Hid (numR l a (k : Int) = .ok k ∧ (atR l a (k : Int).toNat).length = k ∧ atR l a (k : Int).toNat = (l.drop a).take k) := Lib.hid ⟨numR_yes hk, by simp [atR]; omega, by simp [atR]⟩
    have HT := Lib.hid (take_yes _ h k hk)
    clear h hle hk
    go_enter Try.func48, Try.ntmps48
    go_wp2_with (first | (at_builtin; refine Stopped.out ?_) | (at_make; refine Stopped.out ?_))
    refine HT.out.mono ?_
    rintro e w2 ⟨v, rfl, o2, hr2, hk2⟩
    have HX := Lib.hid (And.intro o2 (And.intro hr2 hk2))
    clear o2 hr2 hk2
    go_wp2
    go_ret
    refine ⟨HX.out.2.2, ?_⟩
    rw [HF.out.1]
    exact ⟨v, rfl, HX.out.2.1, by unfold NewB; rw [HF.out.2.1, HF.out.2.2]; exact HX.out.1⟩
theorem enter_fixed1 (args : Array Value) (w : World) : (callFunc 48 args).run Try.prog w = .ok (.enter 48 args) w := by
  simp [go_sem]
set_option maxRecDepth 100000 in
set_option maxHeartbeats 800000 in
theorem Rd_Fixed (w : World) {p : Nat} {G : List Nat} {l : List UInt8} {a f : Nat} (h : Rd w p G l a f) (most : Int) (hm : most ≤ 9223372036854775807) :
    Calls Try.prog 30 #[.pointer (some ⟨p, 0, none⟩), .int .i64 most] w (CaughtQ w p G l a f (numR l a most) (.slice none 0 0) (NewB w.heap.size (atR l a most.toNat))) := by
  have hmf : ∀ (fn : Fn) (first cap : Array Value) (w : World), (Instr.makeFunc fn first cap).run Try.prog w = .ok (.func fn first cap) w := fun _ _ _ _ => rfl
  have hp := h.lts p h.mem
  have b0 := box_cell (heap_alloc_new w (.cells #[.pointer (some ⟨p, 0, none⟩)] 59)) 0 _ rfl
  have b0' := cell_al b0 (.cells #[.int .i64 most] 3)
  have b1 : ((w.alloc (.cells #[.pointer (some ⟨p, 0, none⟩)] 59)).alloc (.cells #[.int .i64 most] 3)).cell? ⟨w.heap.size + 1, 0, none⟩ = some (.int .i64 most) := by
    have := box_cell (heap_alloc_new (w.alloc (.cells #[.pointer (some ⟨p, 0, none⟩)] 59)) (.cells #[.int .i64 most] 3)) 0 _ rfl
    rwa [show (w.alloc (.cells #[.pointer (some ⟨p, 0, none⟩)] 59)).heap.size = w.heap.size + 1 by simp] at this
  have h2 := (h.below ((Below.refl _ _).alloc (Nat.le_refl _) (.cells #[.pointer (some ⟨p, 0, none⟩)] 59))).below ((Below.refl _ _).alloc (Nat.le_refl _) (.cells #[.int .i64 most] 3))
  have hB2 : Below w.heap.size w ((w.alloc (.cells #[.pointer (some ⟨p, 0, none⟩)] 59)).alloc (.cells #[.int .i64 most] 3)) := ((Below.refl _ w).alloc (Nat.le_refl _) _).alloc (by simp) _
  have HX := Lib.hid (And.intro (And.intro b0' b1) (And.intro h2 hB2))
  clear b0' b1 h2 hB2 h
  go_enter Try.func30, Try.ntmps30
  go_wp2_with (first | (at_builtin; refine Stopped.out ?_) | (at_make; refine Stopped.out ?_))
  have hr := HX.out.2.1
  refine (caught_any _ hr 48 #[] #[.pointer (some ⟨w.heap.size, 0, none⟩), .pointer (some ⟨w.heap.size + 1, 0, none⟩)] (numR l a most) (NewB w.heap.size (atR l a most.toNat)) (fun v w' w'' hv k => hv.below k) (enter_fixed1 _) (fun hf w' k => ?_)).mono ?_
  · subst hf
    refine (fixed1 w' (hr.below k) w.heap.size (w.heap.size + 1) most hm (cell_below HX.out.1.1 k) (cell_below HX.out.1.2 k)).mono ?_
    rintro e w2 ⟨hk, hr2⟩
    refine ⟨hk, ?_⟩
    cases hb : numR l a most with
    | error n => rw [hb] at hr2; exact hr2
    | ok k2 =>
      rw [hb] at hr2
      obtain ⟨v, e1, e2, e3⟩ := hr2
      exact ⟨v, e1, e2, own_mono e3 (Nat.le_trans HX.out.2.2.size k.size)⟩
  · rintro e w3 ⟨hk, hr3⟩
    have hk3 : Keep [p] w w3 := (Keep.of_below HX.out.2.2 [p]).trans hk
    clear hk HX hr
    cases hb : effR (numR l a most) f with
    | error n =>
      rw [hb] at hr3
      obtain ⟨rfl, hr4⟩ := hr3
      have HN := Lib.hid (show CaughtQ w p G l a f (numR l a most) (.slice none 0 0) (NewB w.heap.size (atR l a most.toNat)) (.returned (.slice none 0 0)) w3 from ⟨hk3, by rw [hb]; exact ⟨rfl, hr4⟩⟩)
      clear hk3 hr4 hb
      go_wp2
      go_ret
      exact HN.out
    | ok k =>
      rw [hb] at hr3
      obtain ⟨v, rfl, hr4, hq⟩ := hr3
      have HN := Lib.hid (show CaughtQ w p G l a f (numR l a most) (.slice none 0 0) (NewB w.heap.size (atR l a most.toNat)) (.returned v) w3 from ⟨hk3, by rw [hb]; exact ⟨v, rfl, hr4, hq⟩⟩)
      clear hk3 hr4 hq hb
      go_wp2
      go_ret
      exact HN.out
end Go.Proofs.Ytikjhandhgfohaa
