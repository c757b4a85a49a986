import Derived.Test.YtpjmbhhfpoamnaaJn1
set_option linter.unusedVariables false
set_option linter.unusedSimpArgs false
namespace Go.Proofs.Ytpjmbhhfpoamnaa
open Go.RowKit
set_option maxRecDepth 100000 in
set_option maxHeartbeats 1600000 in
theorem size_any (w : World) {p : Nat} {G : List Nat} {s : FSt} (h : Fl w p G s) (hk : FOk s) (hd : s.down = false) :
    Calls Try.prog 107 #[fI p] w fun e w' => e = .returned (.int .i64 (s.size : Nat)) ∧ Below w.heap.size w w' := by
  unfold fI
  have mR := mRead p
  have mM := mRoom p
  have hb0 : (bankF s 0).length ≤ s.size := hk.b0
  have HR := Lib.hid (flash_Read_yes w h 0 (by omega) hd (Nat.le_trans (hk.bank 0) (by omega)))
  have HM := Lib.hid (fun w1 (k : Below w.heap.size w w1) => flash_Room_yes w1 (h.below k) 0 (by omega) hd hk.size hb0)
  obtain ⟨L, hL⟩ : ∃ L, L = (bankF s 0).length := ⟨_, rfl⟩
  rw [← hL] at HR HM hb0
  have HS := Lib.hid (show ((L : Nat) : Int) + ((s.size - L : Nat) : Int) = (s.size : Int) by omega)
  have hsz := hk.size
  obtain ⟨M, hM⟩ : ∃ M, M = s.size - L := ⟨_, rfl⟩
  rw [← hM] at HM HS
  have hL2 : L ≤ 1048576 := by omega
  have hM2 : M ≤ 1048576 := by omega
  have hS : (L : Int) + (M : Int) = (s.size : Int) := HS.out
  clear hd h hk hL hM hb0 HS
  go_enter Try.func107, Try.ntmps107
  go_wp2_with fail
  refine HR.out.mono ?_
  rintro e w1 ⟨rfl, o1, hb1⟩
  clear HR o1
  go_wp2_with fail
  refine (HM.out _ hb1).mono ?_
  rintro e w2 ⟨rfl, hd2⟩
  clear HM
  go_wp2
  go_ret
  exact ⟨by first | rfl | (rw [hS]) | simp [hS], bthen hb1 hd2.below⟩
def be8 (x : Nat) : List UInt8 := stBE64 x 8
theorem be8_len (x : Nat) : (be8 x).length = 8 := by simp [be8, stBE64]
theorem be4_len (x : Nat) : (be4 x).length = 4 := rfl
/-- a header's payload -/
def hdrP (e num : Nat) (snap : List UInt8) : List UInt8 := be8 e ++ (be4 num ++ snap)
theorem hdrP_len (e num : Nat) (snap : List UInt8) : (hdrP e num snap).length = snap.length + 12 := by simp [hdrP, be8_len, be4_len]; omega
/-- Join of three lists, up to what Go makes -/
theorem Join3b (w : World) {a0 a1 a2 : Option Addr} {m0 c0 m1 c1 m2 c2 : Nat} {l0 l1 l2 : List UInt8} (h0 : Sl w 1 a0 m0 c0 (l0.map by8)) (h1 : Sl w 1 a1 m1 c1 (l1.map by8)) (h2 : Sl w 1 a2 m2 c2 (l2.map by8)) (b0 : m0 ≤ 140737488351232) (b1 : m1 ≤ 140737488351232) (b2 : m2 ≤ 140737488351232) (hn : m0 + m1 + m2 ≤ 140737488355328) (z : Nat) (hz : z = w.heap.size) (N : Nat) (hN : N = m0 + m1 + m2) :
    Calls Try.prog 89 #[.slice (some ⟨z, 0, none⟩) 3 3] (w.alloc (.cells #[.slice a0 m0 c0, .slice a1 m1 c1, .slice a2 m2 c2] 22)) fun e w' => ∃ g, e = .returned (.slice (some ⟨g, 0, none⟩) N N) ∧ w'.ownsRow w.heap.size 5 1 (.slice (some ⟨g, 0, none⟩) N N) N ((l0 ++ (l1 ++ l2)).map by8) ∧ Below w.heap.size w w' := by
  have e0 : l0.length = m0 := by simpa using h0.len
  have e1 : l1.length = m1 := by simpa using h1.len
  have e2 : l2.length = m2 := by simpa using h2.len
  have hs := Sls.fresh w [.slice a0 m0 c0, .slice a1 m1 c1, .slice a2 m2 c2] [l0, l1, l2] 22 3 rfl rfl (by decide) (fun i r hi => by
    match i, hi with
    | 0, hi => obtain rfl := Option.some.inj hi; exact ⟨_, _, _, rfl, h0, b0⟩
    | 1, hi => obtain rfl := Option.some.inj hi; exact ⟨_, _, _, rfl, h1, b1⟩
    | 2, hi => obtain rfl := Option.some.inj hi; exact ⟨_, _, _, rfl, h2, b2⟩)
  have ef : [l0, l1, l2].flatten = l0 ++ (l1 ++ l2) := by simp
  have el : (l0 ++ (l1 ++ l2)).length = N := by simp; omega
  have hj := Join_any _ hs (by rw [ef, el]; omega)
  rw [← hz, ef, el] at hj
  exact hj.mono fun e w' ⟨he, ho, hb⟩ => ⟨_, he, own_mono ho (by simp), bthen ((Below.refl _ w).alloc (Nat.le_refl _) _) hb⟩
set_option maxRecDepth 100000 in
set_option maxHeartbeats 1600000 in
theorem header_any (w : World) (e num : Nat) (he : e < 9223372036854775808) (hnum : num < 4294967296) {A : Option Addr} {n c : Nat} {l : List UInt8} (h : Sl w 1 A n c (l.map by8)) (hn : n ≤ 140737488351232) :
    Calls Try.prog 106 #[.int .i64 e, .int .i64 num, .slice A n c] w fun r w' => ((n ≤ 262132 ∧ ∃ g, r = .returned (.tuple #[.slice (some ⟨g, 0, none⟩) (n + 22) (n + 22), .bool true]) ∧ w'.ownsRow w.heap.size 5 1 (.slice (some ⟨g, 0, none⟩) (n + 22) (n + 22)) (n + 22) ((frB 72 (hdrP e num l)).map by8)) ∨ (262132 < n ∧ r = .returned (.tuple #[.slice none 0 0, .bool false]))) ∧ Below w.heap.size w w' := by
  have hl : l.length = n := by simpa using h.len
  have w1 : IntKind.u64.wrap (e : Int) = (e : Int) := by rw [IntKind.wrap_u64]; omega
  have w2 : IntKind.u32.wrap (num : Int) = (num : Int) := by rw [IntKind.wrap_u32]; omega
  have HL := Lib.hid (And.intro hl (And.intro h (And.intro he hnum)))
  clear hl h he hnum
  go_enter Try.func106, Try.ntmps106
  go_wp2_with fail
  refine (StoreBE64 _ e (by have := HL.out.2.2.1; omega)).mono ?_
  rintro r w1' ⟨rfl, o1, hb1⟩
  go_wp2_with fail
  refine (StoreBE32 _ num HL.out.2.2.2).mono ?_
  rintro r w2' ⟨rfl, o2, hb2⟩
  rw [stBE32_be4] at o2
  have s0 := (own_sl' (own_below o1 hb2)).2.1
  have s1 := (own_sl' o2).2.1
  have s2 := HL.out.2.1.below (bthen hb1 hb2)
  have HJ := Lib.hid (Join3b w2' s0 s1 s2 (by omega) (by omega) hn (by omega) _ rfl (n + 12) (by omega))
  have HB := Lib.hid (bthen hb1 hb2)
  clear s0 s1 s2 o1 o2 hb1 hb2
  go_wp2_with fail
  refine HJ.out.mono ?_
  rintro r w3 ⟨g, rfl, o3, hb3⟩
  clear HJ
  have HB3 := Lib.hid (bthen HB.out hb3)
  have s3 := (own_sl' o3).2.1
  have hs := HB.out.size
  by_cases hbig : 262132 < n
  · have HE := Lib.hid (Encode_no w3 72 (A := some ⟨g, 0, none⟩) (c := n + 12) (show 262144 < n + 12 by omega))
    clear o3 s3 hb3
    go_wp2_with fail
    refine HE.out.mono ?_
    rintro r w4 ⟨rfl, rfl⟩
    clear HE
    go_wp2
    go_ret2
    exact ⟨.inr ⟨hbig, rfl⟩, HB3.out⟩
  · have HE : Hid (Calls Try.prog 45 #[.int .u8 72, .slice (some ⟨g, 0, none⟩) (n + 12) (n + 12)] w3 fun r w' => ∃ g2, r = .returned (.tuple #[.slice (some ⟨g2, 0, none⟩) (n + 22) (n + 22), .bool true]) ∧ w'.ownsRow w3.heap.size 5 1 (.slice (some ⟨g2, 0, none⟩) (n + 22) (n + 22)) (n + 22) ((frB 72 (hdrP e num l)).map by8) ∧ Below w3.heap.size w3 w') := Lib.hid (Encode_yes w3 72 s3 (show n + 12 ≤ 262144 by omega))
    clear o3 s3 hb3
    go_wp2_with fail
    refine HE.out.mono ?_
    rintro r w4 ⟨g2, rfl, o4, hb4⟩
    clear HE
    go_wp2
    go_ret2
    exact ⟨.inl ⟨by omega, g2, rfl, own_mono o4 HB3.out.size⟩, bthen HB3.out hb4⟩
end Go.Proofs.Ytpjmbhhfpoamnaa
