import Derived.Test.YtdooabbeolfgfaaRf01g
set_option linter.unusedVariables false
set_option linter.unusedSimpArgs false
namespace Go.Proofs.Ytdooabbeolfgfaa
open Go.RowKit
theorem dig_extract (v : Nat) (hv : v < 16) : ({ data := #[48, 49, 50, 51, 52, 53, 54, 55, 56, 57, 97, 98, 99, 100, 101, 102] } : ByteArray).extract v (v + 1) = ⟨[UInt8.ofNat (hexDig v)].toArray⟩ := by
  rcases (show v = 0 ∨ v = 1 ∨ v = 2 ∨ v = 3 ∨ v = 4 ∨ v = 5 ∨ v = 6 ∨ v = 7 ∨ v = 8 ∨ v = 9 ∨ v = 10 ∨ v = 11 ∨ v = 12 ∨ v = 13 ∨ v = 14 ∨ v = 15 by omega) with rfl | rfl | rfl | rfl | rfl | rfl | rfl | rfl | rfl | rfl | rfl | rfl | rfl | rfl | rfl | rfl
  all_goals rfl
theorem ba_app (a b : List UInt8) : (⟨a.toArray⟩ : ByteArray) ++ (⟨b.toArray⟩ : ByteArray) = ⟨(a ++ b).toArray⟩ := by
  apply ByteArray.ext
  simp
set_option maxRecDepth 100000 in
set_option maxHeartbeats 1600000 in
theorem refHex (w : World) {A : Option Addr} {n c : Nat} {l : List UInt8} (h : Sl w 1 A n c (l.map by8)) (hn : n ≤ 100000000) :
    Calls Try.prog 138 #[.slice A n c] w fun e w' => e = .returned (.string ⟨(hexL l).toArray⟩) ∧ Drawn w w' := by
  have hl : l.length = n := by simpa using h.len
  have h1 := h.le; have h2 := h.max
  have HL := Lib.hid (And.intro hl h)
  clear hl h
  go_enter Try.func138, Try.ntmps138
  go_wp2
  go_loopw [3, 4] (fun o i wr => ∃ (k : Nat) (s : ByteArray), k ≤ n ∧ i = .int .i64 k ∧ o = .string s ∧ Hid (s = ⟨(hexL (l.take k)).toArray⟩) ∧ s.size ≤ 200000000 ∧ Drawn w wr) (fun _ i _ => n - (intOf i).toNat)
  case atStart => exact ⟨0, _, by omega, rfl, rfl, Lib.hid (by simp [hexL]), by simp [ByteArray.size], Drawn.refl _⟩
  case round =>
    obtain ⟨k, s, hk, rfl, rfl, hs, hsz, hd⟩ := hrel
    by_cases hlt : k < n
    · obtain ⟨b, off, rfl⟩ := HL.out.2.form (by omega)
      have g := (HL.out.2.below hd.below).byte k hlt
      have HT := Lib.hid (hexL_take l k (by rw [HL.out.1]; exact hlt))
      have hx := bt_lt l k
      obtain ⟨x, hxe⟩ : ∃ x, x = bt l k := ⟨_, rfl⟩
      rw [← hxe] at g HT hx
      have hk0 : (0 : Int) ≤ (k : Int) := Int.natCast_nonneg _
      have hk1 : (k : Int) < (n : Int) := by omega
      have HD := Lib.hid hd
      clear hxe hd
      go_wp2_with fail
      go_quiet (fail)
      have HE := Lib.hid (show s ++ ({ data := #[48, 49, 50, 51, 52, 53, 54, 55, 56, 57, 97, 98, 99, 100, 101, 102] } : ByteArray).extract (x / 16) (x / 16 + 1) ++ ({ data := #[48, 49, 50, 51, 52, 53, 54, 55, 56, 57, 97, 98, 99, 100, 101, 102] } : ByteArray).extract (x % 16) (x % 16 + 1) = ⟨(hexL (l.take (k + 1))).toArray⟩ by
        rw [dig_extract _ (by omega), dig_extract _ (by omega), hs.out, ba_app, ba_app, HT.out, List.append_assoc]
        rfl)
      have HZ := Lib.hid (show ((⟨(hexL (l.take (k + 1))).toArray⟩ : ByteArray)).size ≤ 200000000 by
        have : ((⟨(hexL (l.take (k + 1))).toArray⟩ : ByteArray)).size = (hexL (l.take (k + 1))).length := by simp [ByteArray.size]
        rw [this, hexL_len, List.length_take]
        omega)
      go_wp2
      first | go_roundw | refine ⟨?rel, ?measure⟩
      case rel => exact ⟨k + 1, _, by omega, by go_num, rfl, Lib.hid HE.out, by rw [HE.out]; exact HZ.out, HD.out.step _⟩
      case measure => simp [intOf] <;> omega
    · have HK := Lib.hid (show k = n by omega)
      have k1 : (n : Int) ≤ (k : Int) := by omega
      have HE := Lib.hid (show s = ⟨(hexL l).toArray⟩ by rw [hs.out, List.take_of_length_le (by rw [HL.out.1]; omega)])
      have HD := Lib.hid hd
      clear hd
      go_wp2
      go_ret
      exact ⟨by rw [← HE.out]; rfl, HD.out⟩
end Go.Proofs.Ytdooabbeolfgfaa
