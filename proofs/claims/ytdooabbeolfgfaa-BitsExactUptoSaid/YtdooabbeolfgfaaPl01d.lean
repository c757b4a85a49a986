import Derived.Test.YtdooabbeolfgfaaPl01c
import Derived.Test.YtdooabbeolfgfaaBitsBack
set_option linter.unusedVariables false
set_option linter.unusedSimpArgs false
namespace Go.Proofs.Ytdooabbeolfgfaa
open Go.RowKit
/-- the shelf behind a call -/
def ShN (W w w' : World) (p k : Nat) (G : List Nat) (vs : List Value) (N : Nat) : Prop := ∃ G' vs' ws' ls', Shf W w' p G' vs' ws' ls' N ∧ vs'.length ≤ vs.length + k ∧ Keep G w w' ∧ ∀ x ∈ G', x ∈ G ∨ w.heap.size ≤ x
theorem st32BE (a : Nat) : stBE32 a 4 = (storeL a 4).reverse := by simp [stBE32, storeL, List.range, List.range.loop]
theorem st32LE (a : Nat) : stLE32 a 4 = storeL a 4 := by simp [stLE32, storeL, List.range, List.range.loop]
theorem st64BE (a : Nat) : stBE64 a 8 = (storeL a 8).reverse := by simp [stBE64, storeL, List.range, List.range.loop]
theorem st64LE (a : Nat) : stLE64 a 8 = storeL a 8 := by simp [stLE64, storeL, List.range, List.range.loop]
/-- an answer joins the shelf beside what was wanted: both made behind the world w -/
theorem putNew {W : World} {w w1 w2 : World} {p : Nat} {G : List Nat} {vs ws : List Value} {ls : List (List UInt8)} {N : Nat} (h : Shf W w p G vs ws ls N) (hb1 : Below w.heap.size w w1) (hb2 : Below w1.heap.size w1 w2) {v v2 : Value} {l : List UInt8} {m : Nat} (hm : l.length = m)
    (o : w1.ownsRow w.heap.size 5 1 v m (l.map by8)) (o2 : w2.ownsRow w1.heap.size 5 1 v2 m (l.map by8)) (hl : l.length ≤ N) (hN : N ≤ 100000000) (hn : vs.length ≤ 1000000000) :
    Calls Try.prog 132 #[.pointer (some ⟨p, 0, none⟩), v, v2] w2 fun e w' => e = .returned (.bool true) ∧ ∃ G' vs' ws' ls', Shf W w' p G' vs' ws' ls' N ∧ vs'.length = vs.length + 1 ∧ Keep G w w' ∧ ∀ x ∈ G', x ∈ G ∨ w.heap.size ≤ x := by
  subst hm
  have hb := bthen hb1 hb2
  have h2 := h.then_ hb
  have o' := own_below o hb2
  obtain ⟨A, c, rfl, _, _⟩ := own_sl o'
  obtain ⟨A2, c2, rfl, s2, hA2⟩ := own_sl o2
  have hG : ∀ x ∈ G, x < w.heap.size := h.lts
  refine (put01 w2 h2 (own_mono o' h.below.size) (fun b hb3 hx => by have := (o'.lt b hb3).1; have := hG b hx; omega) s2 (fun ad e _ => .inr (fun hx => by have := (hA2 ad e).1; have := hG _ hx; have := hb1.size; omega)) hl hN hn).mono ?_
  rintro e w' ⟨he, G', hS, hK, hG'⟩
  refine ⟨he, G', _, _, _, hS, by simp, ((Keep.refl G w).trans (Keep.of_below hb G)).trans hK, fun x hx => ?_⟩
  rcases hG' x hx with h1 | h1 | h1 | h1
  · exact .inl h1
  · exact .inr (o'.lt x h1).1
  · replace h1 := h1.2
    cases hA : A2 with
    | none => rw [hA] at h1; simp at h1
    | some ad =>
      rw [hA] at h1
      simp at h1
      have := (hA2 ad hA).1
      have := hb1.size
      exact .inr (by omega)
  · exact .inr (by have := hb.size; omega)
set_option maxRecDepth 100000 in
set_option maxHeartbeats 3200000 in
theorem stores01 {W : World} (w : World) {p : Nat} {G : List Nat} {vs ws : List Value} {ls : List (List UInt8)} {N : Nat} (h : Shf W w p G vs ws ls N) (hN8 : 8 ≤ N) (hN : N ≤ 100000000) (hn : vs.length ≤ 900000000) (kd : Int) (a l : Nat) (ha : a < 4294967296) (hl : l < 18446744073709551616) (n : Int) (X Y P : Option Addr) (xn xc yn yc pn pc : Nat) (s : ByteArray) :
    Calls Try.prog 72 #[.pointer (some ⟨p, 0, none⟩), .agg (opC kd a l n X Y P xn xc yn yc pn pc s)] w fun e w' => e = .returned (.bool true) ∧ ShN W w w' p 4 G vs N := by
  unfold opC
  obtain ⟨W1, hW1⟩ : ∃ W1, W1 = w.alloc (.cells #[.int .i64 kd, .int .u32 a, .int .u64 l, .int .i64 n, .slice X xn xc, .slice Y yn yc, .slice P pn pc, .string s] 27) := ⟨_, rfl⟩
  have hb := heap_alloc_new w (.cells #[.int .i64 kd, .int .u32 a, .int .u64 l, .int .i64 n, .slice X xn xc, .slice Y yn yc, .slice P pn pc, .string s] 27)
  rw [← hW1] at hb
  have hB : Below w.heap.size w W1 := by rw [hW1]; exact (Below.refl _ _).alloc (Nat.le_refl _) _
  have hz : w.heap.size ∉ G := fun hx => Nat.lt_irrefl _ (h.lts _ hx)
  have hS := (h.then_ hB).then_ ((Below.refl _ W1).drew)
  have d1 := box_cell hb 1 _ rfl
  have d2 := box_cell hb 2 _ rfl
  have hzl : w.heap.size < W1.heap.size := lt_of_block hb
  have H1 := Lib.hid (And.intro hS (And.intro hB (And.intro hz hzl)))
  have F0 := And.intro d1 d2
  clear hb hB hS hz hzl h
  have uw : IntKind.u64.wrap (a : Int) = (a : Int) := by rw [IntKind.wrap_u64]; omega
  go_enter Try.func72, Try.ntmps72
  go_wp2_with (rw [← hW1])
  clear hW1
  go_region_held3 (fun w' => w'.cell? ⟨w.heap.size, 1, none⟩ = some (.int .u32 a) ∧ w'.cell? ⟨w.heap.size, 2, none⟩ = some (.int .u64 l))
    (first | exact F6 | exact F5 | exact F4 | exact F3 | exact F2 | exact F1 | go_keep)
    (first
      | (go_at_call 132; refine (putNew H4.out.1 hb5 hb6 (by simp [storeL_len]) o5 o6 (by rw [storeL_len]; omega) hN (by have := H4.out.2.1; omega)).mono ?_; rintro e w7 ⟨rfl, G2, vs2, ws2, ls2, hS7, hv7, hK7, hG7⟩; have F6 := And.intro (hK7.cell F3.1 H4.out.2.2.2) (hK7.cell F3.2 H4.out.2.2.2))
      | (go_at_call 134; refine (refStoreLE _ a 4 (by omega) (by omega)).mono ?_; rintro e w6 ⟨v6, rfl, o6, hb6⟩; have F5 := And.intro (cell_below F4.1 hb6) (cell_below F4.2 hb6))
      | (go_at_call 24; refine (StoreLE32 _ a ha).mono ?_; rintro e w5 ⟨rfl, o5, hb5⟩; rw [st32LE] at o5; have F4 := And.intro (cell_below F3.1 hb5) (cell_below F3.2 hb5))
      | (go_at_call 132; refine (putNew H1.out.1 hb2 hb3 (by simp [storeL_len]) o2 o3 (by simp [storeL_len]; omega) hN (by omega)).mono ?_; rintro e w4 ⟨rfl, G1, vs1, ws1, ls1, hS4, hv4, hK4, hG4⟩; have F3 := And.intro (hK4.cell (w := W1.drew) F0.1 H1.out.2.2.1) (hK4.cell (w := W1.drew) F0.2 H1.out.2.2.1); have H4 := Lib.hid (And.intro hS4 (And.intro hv4 (And.intro hG4 (show w.heap.size ∉ G1 from fun hx => (hG4 _ hx).elim H1.out.2.2.1 (fun h5 => by have := H1.out.2.2.2; simp at h5; omega))))))
      | (go_at_call 133; refine (refStoreBE _ a 4 (by omega) (by omega)).mono ?_; rintro e w3 ⟨v3, rfl, o3, hb3⟩; have F2 := And.intro (cell_below F1.1 hb3) (cell_below F1.2 hb3))
      | (go_at_call 22; refine (StoreBE32 _ a ha).mono ?_; rintro e w2 ⟨rfl, o2, hb2⟩; rw [st32BE] at o2; have F1 := And.intro (cell_below (w := W1.drew) F0.1 hb2) (cell_below (w := W1.drew) F0.2 hb2)))
  have k7 : Keep G w w7 := (((Keep.of_below H1.out.2.1 G).trans (show Keep G W1 w4 from ⟨hK4.os, hK4.tape, hK4.output, hK4.size, hK4.block⟩)).trans' hK7 (fun x hx => (H4.out.2.2.1 x hx).imp id (fun h5 => by have := H1.out.2.2.2; simp at h5; omega)))
  have hz7 : w.heap.size ∉ G2 := fun hx => (hG7 _ hx).elim H4.out.2.2.2 (fun h5 => by have := H1.out.2.2.2; have := hK4.size; simp at this; omega)
  have hg7 : ∀ x ∈ G2, x ∈ G ∨ w.heap.size ≤ x := fun x hx => (hG7 x hx).elim (fun h5 => (H4.out.2.2.1 x h5).imp id (fun h6 => by have := H1.out.2.2.2; simp at h6; omega)) (fun h5 => .inr (by have := H1.out.2.2.2; have := hK4.size; simp at this; omega))
  have hsz7 : w.heap.size < w7.heap.size := by have := H1.out.2.2.2; have := hK4.size; have := hK7.size; simp at *; omega
  have H7 := Lib.hid (And.intro (hS7.then_ ((Below.refl _ w7).drew)) (And.intro (show vs2.length ≤ vs.length + 2 by have := H4.out.2.1; omega) (And.intro k7 (And.intro hz7 (And.intro hg7 hsz7)))))
  have E0 := F6
  clear F0 F1 F2 F3 F4 F5 F6 hS7 hK7 hv7 hG7 k7 hz7 hg7 hsz7 hS4 hK4 hv4 hG4 o2 o3 o5 o6 hb2 hb3 hb5 hb6 H1 H4 d1 d2
  go_wp2_with fail
  go_region_held3 (fun w' => w'.cell? ⟨w.heap.size, 1, none⟩ = some (.int .u32 a) ∧ w'.cell? ⟨w.heap.size, 2, none⟩ = some (.int .u64 l))
    (first | exact E6 | exact E5 | exact E4 | exact E3 | exact E2 | exact E1 | go_keep)
    (first
      | (go_at_call 132; refine (putNew J4.out.1 hc5 hc6 (by simp [storeL_len]) r5 r6 (by rw [storeL_len]; omega) hN (by have := J4.out.2.1; have := H7.out.2.1; omega)).mono ?_; rintro e x7 ⟨rfl, M2, vs4, ws4, ls4, kS7, kv7, kK7, kG7⟩; have E6 := And.intro (kK7.cell E3.1 J4.out.2.2.2) (kK7.cell E3.2 J4.out.2.2.2))
      | (go_at_call 134; refine (refStoreLE _ l 8 hl (by omega)).mono ?_; rintro e x6 ⟨y6, rfl, r6, hc6⟩; have E5 := And.intro (cell_below E4.1 hc6) (cell_below E4.2 hc6))
      | (go_at_call 21; refine (StoreLE64 _ l hl).mono ?_; rintro e x5 ⟨rfl, r5, hc5⟩; rw [st64LE] at r5; have E4 := And.intro (cell_below E3.1 hc5) (cell_below E3.2 hc5))
      | (go_at_call 132; refine (putNew H7.out.1 hc2 hc3 (by simp [storeL_len]) r2 r3 (by simp [storeL_len]; omega) hN (by have := H7.out.2.1; omega)).mono ?_; rintro e x4 ⟨rfl, M1, vs3, ws3, ls3, kS4, kv4, kK4, kG4⟩; have E3 := And.intro (kK4.cell (w := w7.drew) E0.1 H7.out.2.2.2.1) (kK4.cell (w := w7.drew) E0.2 H7.out.2.2.2.1); have J4 := Lib.hid (And.intro kS4 (And.intro kv4 (And.intro kG4 (show w.heap.size ∉ M1 from fun hx => (kG4 _ hx).elim H7.out.2.2.2.1 (fun h5 => by have := H7.out.2.2.2.2.2; simp at h5; omega))))))
      | (go_at_call 133; refine (refStoreBE _ l 8 hl (by omega)).mono ?_; rintro e x3 ⟨y3, rfl, r3, hc3⟩; have E2 := And.intro (cell_below E1.1 hc3) (cell_below E1.2 hc3))
      | (go_at_call 20; refine (StoreBE64 _ l hl).mono ?_; rintro e x2 ⟨rfl, r2, hc2⟩; rw [st64BE] at r2; have E1 := And.intro (cell_below (w := w7.drew) E0.1 hc2) (cell_below (w := w7.drew) E0.2 hc2)))
  have hk : ShN W w x7 p 4 G vs N := by
    have s1 := kK4.size
    have s2 := H7.out.2.2.2.2.2
    simp at s1
    refine ⟨M2, vs4, ws4, ls4, kS7, by have := H7.out.2.1; omega, (H7.out.2.2.1.trans' (show Keep G2 w7 x4 from ⟨kK4.os, kK4.tape, kK4.output, kK4.size, kK4.block⟩) H7.out.2.2.2.2.1).trans' kK7 (fun x hx => (kG4 x hx).elim (fun h5 => H7.out.2.2.2.2.1 x h5) (fun h5 => .inr (by simp at h5; omega))), fun x hx => (kG7 x hx).elim (fun h5 => (kG4 x h5).elim (fun h6 => H7.out.2.2.2.2.1 x h6) (fun h6 => .inr (by simp at h6; omega))) (fun h5 => .inr (by omega))⟩
  have HK := Lib.hid hk
  clear hk kS7 kK7 kv7 kG7 kS4 kK4 kv4 kG4 r2 r3 r5 r6 hc2 hc3 hc5 hc6 J4 H7 E0 E1 E2 E3 E4 E5 E6
  go_wp2
  go_ret
  exact ⟨by first | rfl | simp, HK.out⟩
end Go.Proofs.Ytdooabbeolfgfaa
