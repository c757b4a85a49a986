import Derived.Test.YtdooabbeolfgfaaRf01d
import Derived.Test.YtdooabbeolfgfaaSame
import Derived.Test.YtdooabbeolfgfaaBits4
set_option linter.unusedVariables false
set_option linter.unusedSimpArgs false
namespace Go.Proofs.Ytdooabbeolfgfaa
open Go.RowKit
theorem own_ne1 {w : World} {B e s n : Nat} {v : Value} {xs : List Value} (o : w.ownsRow B e s v n xs) {b : Nat} (hb : b < B) : some b ≠ v.ownBlock := fun h => by
  have := (o.lt b h.symm).1
  omega
def xorL (l r : List UInt8) : List UInt8 := List.zipWith (· ^^^ ·) l r
theorem xorL_take (l r : List UInt8) (k : Nat) (h : k < l.length) (h2 : k < r.length) : xorL (l.take (k + 1)) (r.take (k + 1)) = xorL (l.take k) (r.take k) ++ [UInt8.ofNat (bt l k ^^^ bt r k)] := by
  unfold xorL
  rw [take_bt l k h, take_bt r k h2, List.zipWith_append (by simp; omega)]
  congr 1
  have h1 := bt_lt l k
  have h3 := bt_lt r k
  simp
theorem refXor_no (w : World) {A B : Option Addr} {n c m d : Nat} (h : n ≠ m) :
    Calls Try.prog 135 #[.slice A n c, .slice B m d] w fun e w' => e = .returned (.tuple #[.slice none 0 0, .bool false]) ∧ w = w' := by
  have hne : ((n : Int) != m) = true := by simp; omega
  clear h
  go_enter Try.func135, Try.ntmps135
  go_wp2
  go_ret2
  exact ⟨rfl, rfl⟩
set_option maxRecDepth 100000 in
set_option maxHeartbeats 1600000 in
theorem refXor_yes (w : World) {A B : Option Addr} {n c d : Nat} {l r : List UInt8} (ha : Sl w 1 A n c (l.map by8)) (hb : Sl w 1 B n d (r.map by8)) (hn : n ≤ 100000000) :
    Calls Try.prog 135 #[.slice A n c, .slice B n d] w fun e w' => ∃ v, e = .returned (.tuple #[v, .bool true]) ∧ w'.ownsRow w.heap.size 5 1 v n ((xorL l r).map by8) ∧ Below w.heap.size w w' := by
  have hla : l.length = n := by simpa using ha.len
  have hlb : r.length = n := by simpa using hb.len
  have h1 := ha.le; have h2 := ha.max; have h3 := hb.le; have h4 := hb.max
  have HL := Lib.hid (And.intro hla hlb)
  have HS := Lib.hid (And.intro ha hb)
  have hne : ((n : Int) != n) = false := by simp
  have hwn : w.heap.size ≤ w.heap.size := Nat.le_refl _
  clear hla hlb ha hb
  go_enter Try.func135, Try.ntmps135
  go_wp2
  go_loopw [6, 7] (fun o i wr => ∃ (k : Nat) (v : Value), k ≤ n ∧ i = .int .i64 k ∧ o = v ∧ wr.ownsRow w.heap.size 5 1 v k ((xorL (l.take k) (r.take k)).map by8) ∧ Below w.heap.size w wr) (fun _ i _ => n - (intOf i).toNat)
  case atStart => exact ⟨0, _, by omega, rfl, rfl, by simpa [xorL] using World.ownsRow_nil .., Below.refl _ _⟩
  case round =>
    obtain ⟨k, v, hk, rfl, rfl, hst, hbl⟩ := hrel
    by_cases hlt : k < n
    · obtain ⟨b1, o1, rfl⟩ := HS.out.1.form (by omega)
      obtain ⟨b2, o2, rfl⟩ := HS.out.2.form (by omega)
      have HT := Lib.hid (xorL_take l r k (by rw [HL.out.1]; exact hlt) (by rw [HL.out.2]; exact hlt))
      have ga := (HS.out.1.below hbl).byte k hlt
      have gb := (HS.out.2.below hbl).byte k hlt
      have hx := bt_lt l k; have hy := bt_lt r k
      have q1 := own_ne1 hst (World.block_lt_of_cell? w ⟨b1, o1 + k, none⟩ (HS.out.1.byte k hlt))
      have q2 := own_ne1 hst (World.block_lt_of_cell? w ⟨b2, o2 + k, none⟩ (HS.out.2.byte k hlt))
      obtain ⟨x, hxe⟩ : ∃ x, x = bt l k := ⟨_, rfl⟩
      obtain ⟨y, hye⟩ : ∃ y, y = bt r k := ⟨_, rfl⟩
      rw [← hxe] at ga hx HT; rw [← hye] at gb hy HT
      have hk0 : (0 : Int) ≤ (k : Int) := Int.natCast_nonneg _
      have hk1 : (k : Int) < (n : Int) := by omega
      have HO := Lib.hid (And.intro hst hbl)
      clear hxe hye hst hbl
      go_wp2_with fail
      go_region_held3 (fun w' => w'.cell? ⟨b1, o1 + k, none⟩ = some (.int .u8 (x : Int)) ∧ w'.cell? ⟨b2, o2 + k, none⟩ = some (.int .u8 (y : Int)))
        (first | exact ⟨hg2.cell (cell_ald ga9 _) q1, hg2.cell (cell_ald gb9 _) q2⟩ | exact ⟨ga9, gb9⟩ | go_keep)
        (first
          | (refine ap_step EBsh (by rfl) _ _ (by rfl) (by rfl) (ho9.alloc _) (by rfl) (Sl.fresh w9 [_] 5 1 1 (by rfl) (by decide)) (by simp [Value.oneCell']) (by simp only [maxLen]; omega) (by omega) (by have := hb9.size; simp; omega) ?_; intro v2 w2 hst2 hg2 _)
          | (go_at_call 162; refine (unlike01 _ x y hx hy).mono ?_; rintro e w9 ⟨rfl, hd9⟩; have ga9 := cell_below (w := wr.drew) ga hd9.below; have gb9 := cell_below (w := wr.drew) gb hd9.below; have ho9 := own_below HO.out.1.drew hd9.below; have hb9 : Below w.heap.size w w9 := bthen HO.out.2.drew hd9.below))
      have e5 : [Value.int .u8 ((x ^^^ y : Nat) : Int)] = [UInt8.ofNat (x ^^^ y)].map by8 := by
        have h4 := Nat.xor_lt_two_pow (n := 8) hx hy
        simp only [by8, List.map_cons, List.map_nil, UInt8.toNat_ofNat', Nat.mod_eq_of_lt h4]
      rw [e5] at hst2
      have HN := Lib.hid (And.intro hst2 ((hb9.alloc hb9.size _).grown hg2 (by have := hb9.size; simp; omega) (fun k hk => (HO.out.1.lt k hk).1)))
      clear ga9 gb9 ho9 hb9 hd9 hst2 hg2 e5 ga gb
      go_wp2
      first | go_roundw | refine ⟨?rel, ?measure⟩
      case rel => exact ⟨k + 1, v2, by omega, by go_num, rfl, by rw [HT.out, List.map_append]; exact HN.out.1, HN.out.2⟩
      case measure => simp [intOf] <;> omega
    · have HN := Lib.hid (And.intro (show k = n by omega) (And.intro hst hbl))
      have k1 : (n : Int) ≤ (k : Int) := by omega
      clear hst hbl
      go_wp2
      go_ret2
      exact ⟨_, rfl, by have := HN.out.2.1; rw [HN.out.1, List.take_of_length_le (Nat.le_of_eq HL.out.1), List.take_of_length_le (Nat.le_of_eq HL.out.2)] at this; exact this, HN.out.2.2⟩
set_option maxHeartbeats 400000 in
theorem refEqual (w : World) {A B : Option Addr} {n c m d : Nat} {l r : List UInt8} (ha : Sl w 1 A n c (l.map by8)) (hb : Sl w 1 B m d (r.map by8)) :
    Calls Try.prog 136 #[.slice A n c, .slice B m d] w fun e w' => e = .returned (.bool (decide (l = r))) ∧ Drawn w w' := by
  have hla : l.length = n := by simpa using ha.len
  have hlb : r.length = m := by simpa using hb.len
  have h1 := ha.le; have h2 := ha.max; have h3 := hb.le; have h4 := hb.max
  by_cases hnm : n = m
  · subst hnm
    have HA := Lib.hid hla; have HB := Lib.hid hlb
    have HRes : Hid (n ≤ n) := Lib.hid (Nat.le_refl _)
    clear hla hlb
    have hne : ((n : Int) != n) = false := by simp
    go_enter Try.func136, Try.ntmps136
    go_wp2
    go_loopw [5] (fun i wr => ∃ k : Nat, k ≤ n ∧ i = .int .i64 k ∧ Hid (l.take k = r.take k) ∧ Drawn w wr) (fun i _ => n - (intOf i).toNat)
    case atStart => exact ⟨0, by omega, rfl, Lib.hid (by simp), Drawn.refl _⟩
    case round =>
      obtain ⟨k, hk, rfl, heq, hw⟩ := hrel
      obtain ⟨q, rfl⟩ := hw.out
      by_cases hlt : k < n
      · obtain ⟨b, off, rfl⟩ := ha.form (by omega)
        obtain ⟨b2, off2, rfl⟩ := hb.form (by omega)
        have ga := ha.byte k hlt
        have gb := hb.byte k hlt
        have hk0 : (0 : Int) ≤ (k : Int) := Int.natCast_nonneg _
        have hk1 : (k : Int) < (n : Int) := by omega
        have Ta := Lib.hid (take_bt l k (by rw [HA.out]; exact hlt))
        have Tb := Lib.hid (take_bt r k (by rw [HB.out]; exact hlt))
        have La := Lib.hid (bt_eq l k (by rw [HA.out]; exact hlt))
        have Lb := Lib.hid (bt_eq r k (by rw [HB.out]; exact hlt))
        obtain ⟨x, hx⟩ : ∃ x : Nat, x = bt l k := ⟨_, rfl⟩
        obtain ⟨y, hy⟩ : ∃ y : Nat, y = bt r k := ⟨_, rfl⟩
        rw [← hx] at ga Ta La; rw [← hy] at gb Tb Lb
        clear hx hy
        by_cases hxy : x = y
        · subst hxy
          have hxx : ((x : Int) != x) = false := by simp
          go_wp2
          go_quiet (fail)
          go_wp2
          go_roundw
          case rel => exact ⟨k + 1, by omega, by go_num, Lib.hid (by rw [Ta.out, Tb.out, heq.out]), (by first | exact ⟨⟨_, rfl⟩⟩ | exact ⟨⟨_, World.drewN_drewN ..⟩⟩)⟩
          case measure => simp [intOf]; omega
        · have hxx : ((x : Int) != y) = true := by simp; omega
          have HD : Hid (decide (l = r) = false) := Lib.hid (decide_eq_false (by rintro rfl; exact hxy (La.out.trans Lb.out.symm)))
          clear hxy
          go_wp2
          go_quiet (fail)
          go_wp2
          go_ret
          exact ⟨by (rw [HD.out]) <;> rfl, (by first | exact ⟨⟨_, rfl⟩⟩ | exact ⟨⟨_, World.drewN_drewN ..⟩⟩)⟩
      · obtain rfl : k = n := by omega
        have HD : Hid (decide (l = r) = true) := Lib.hid (decide_eq_true (by rw [← List.take_of_length_le (l := l) (Nat.le_of_eq HA.out), ← List.take_of_length_le (l := r) (Nat.le_of_eq HB.out)]; exact heq.out))
        go_wp2
        go_ret
        exact ⟨by (rw [HD.out]) <;> rfl, hw⟩
  · have hne : ((n : Int) != m) = true := by simp; omega
    have HD : Hid (decide (l = r) = false) := Lib.hid (decide_eq_false (by rintro rfl; omega))
    clear hla hlb hnm
    go_enter Try.func136, Try.ntmps136
    go_wp2
    go_ret
    exact ⟨by (rw [HD.out]) <;> rfl, Drawn.refl _⟩
end Go.Proofs.Ytdooabbeolfgfaa
