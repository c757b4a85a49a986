import Derived.Test.YtpjmbhhfpoamnaaFrScan2
set_option linter.unusedVariables false
set_option linter.unusedSimpArgs false
namespace Go.Proofs.Ytpjmbhhfpoamnaa
open Go.RowKit
theorem Sls.getJ {w : World} {b off n c : Nat} {vs : List Value} {ll : List (List UInt8)} (h : Sls w (some ⟨b, off, none⟩) n c vs ll) (k : Nat) (hk : k < n) :
    ∃ a m c2 l, ll[k]? = some l ∧ w.cell? ⟨b, off + k, none⟩ = some (.slice a m c2) ∧ Sl w 1 a m c2 (l.map by8) ∧ m ≤ 140737488351232 := by
  have hl : k < ll.length := by rw [h.len]; exact hk
  have e : ll[k]? = some ll[k] := List.getElem?_eq_getElem hl
  obtain ⟨a, m, c2, h1, h2, h3⟩ := h.at_ k _ e
  obtain ⟨h6, h7⟩ := List.getElem?_eq_some_iff.1 h1
  have h8 := h.sl.cell k h6
  rw [h7] at h8
  exact ⟨a, m, c2, _, e, h8, h2, h3⟩
/-- how many bytes lists are together -/
def sumL (ll : List (List UInt8)) : Nat := (ll.map List.length).sum
theorem sumL_take (ll : List (List UInt8)) (k : Nat) {l : List UInt8} (h : ll[k]? = some l) : sumL (ll.take (k + 1)) = sumL (ll.take k) + l.length := by
  simp only [sumL, List.map_take]
  rw [List.take_add_one, List.getElem?_map, h]
  simp
theorem sumL_le (ll : List (List UInt8)) (k : Nat) : sumL (ll.take k) ≤ sumL ll := by
  have : sumL ll = sumL (ll.take k) + sumL (ll.drop k) := by
    simp only [sumL]
    rw [← List.sum_append, ← List.map_append, List.take_append_drop]
  omega
theorem sumL_get (ll : List (List UInt8)) (k : Nat) {l : List UInt8} (h : ll[k]? = some l) : l.length ≤ sumL ll := by
  have h1 := sumL_take ll k h
  have h2 := sumL_le ll (k + 1)
  omega
set_option maxRecDepth 100000 in
set_option maxHeartbeats 1600000 in
theorem small13 (w : World) {A : Option Addr} {n c : Nat} {vs : List Value} {ll : List (List UInt8)} (h : Sls w A n c vs ll) :
    Calls Try.prog 50 #[.slice A n c] w fun e w' => ∃ r : Bool, e = .returned (.bool r) ∧ (r = true → n ≤ 256 ∧ sumL ll ≤ 65536) ∧ Drawn w w' := by
  have hl := Lib.hid h.len
  have m1 := h.sl.le; have m2 := h.sl.max
  go_enter Try.func50, Try.ntmps50
  go_wp2
  go_loopw [3, 4] (fun m i wr => ∃ (k q : Nat), k ≤ n ∧ i = .int .i64 k ∧ m = .int .i64 q ∧ q ≤ 65536 ∧ k ≤ 256 ∧ Hid (q = sumL (ll.take k)) ∧ Drawn w wr) (fun _ i _ => n - (intOf i).toNat)
  case atStart => exact ⟨0, 0, by omega, rfl, rfl, by omega, by omega, Lib.hid rfl, Drawn.refl _⟩
  case round =>
    obtain ⟨k, q, hk, rfl, rfl, hq, hk2, hqs, hw⟩ := hrel
    obtain ⟨t, rfl⟩ := hw.out
    by_cases hlt : k < n
    · obtain ⟨b, off, rfl⟩ := h.sl.form (by omega)
      obtain ⟨ba, bn, bc, l, hll, g0, s1, h3⟩ := h.getJ k hlt
      have hk0 : (0 : Int) ≤ (k : Int) := Int.natCast_nonneg _
      have hk1 : (k : Int) < (n : Int) := by omega
      have HQ : Hid (q + bn = sumL (ll.take (k + 1))) := Lib.hid (by
        have e1 : l.length = bn := by simpa using s1.len
        rw [sumL_take ll k hll, ← hqs.out, e1])
      clear s1 hll
      by_cases hbig : 65536 < q + bn
      · have i1 : (65536 : Int) < (q : Int) + (bn : Int) := by omega
        go_wp2
        go_ret
        exact ⟨false, by simp, by simp, (by first | exact ⟨⟨_, rfl⟩⟩ | exact ⟨⟨_, World.drewN_drewN ..⟩⟩)⟩
      · have i1 : decide ((65536 : Int) < (q : Int) + (bn : Int)) = false := decide_eq_false (by omega)
        by_cases hb2 : 256 ≤ k
        · have i2 : decide ((256 : Int) ≤ (k : Int)) = true := decide_eq_true (by omega)
          go_wp2
          go_ret
          exact ⟨false, by simp, by simp, (by first | exact ⟨⟨_, rfl⟩⟩ | exact ⟨⟨_, World.drewN_drewN ..⟩⟩)⟩
        · have i2 : decide ((256 : Int) ≤ (k : Int)) = false := decide_eq_false (by omega)
          go_wp2
          first | go_roundw | refine ⟨?rel, ?measure⟩
          case rel => exact ⟨k + 1, q + bn, by omega, by go_num, by go_num, by omega, by omega, HQ, (by first | exact ⟨⟨_, rfl⟩⟩ | exact ⟨⟨_, World.drewN_drewN ..⟩⟩)⟩
          case measure => simp [intOf]; omega
    · have HK := Lib.hid (show k = n by omega)
      have HE : Hid (n ≤ 256 ∧ sumL ll ≤ 65536) := Lib.hid (by
        have e : ll.take k = ll := List.take_of_length_le (by rw [hl.out]; omega)
        have := hqs.out
        rw [e] at this
        omega)
      go_wp2
      go_ret
      exact ⟨true, by simp, fun _ => HE.out, hw⟩
/-- payloads as frames, each of the kind of its number -/
def frsF (ll : List (List UInt8)) : List (UInt8 × List UInt8) := ll.mapIdx fun i l => (UInt8.ofNat i, l)
theorem frsF_get (ll : List (List UInt8)) (k : Nat) {l : List UInt8} (h : ll[k]? = some l) : (frsF ll)[k]? = some (UInt8.ofNat k, l) := by simp [frsF, h]
theorem frsF_len (ll : List (List UInt8)) : (frsF ll).length = ll.length := by simp [frsF]
theorem frsF_small (ll : List (List UInt8)) (h : sumL ll ≤ 65536) : ∀ x ∈ frsF ll, x.2.length ≤ 262144 := by
  intro x hx
  obtain ⟨k, hk, e⟩ := List.getElem_of_mem hx
  have hk' : k < ll.length := by rw [frsF_len] at hk; exact hk
  have h1 : ll[k]? = some ll[k] := List.getElem?_eq_getElem hk'
  have h2 := frsF_get ll k h1
  rw [List.getElem?_eq_getElem hk, e] at h2
  have h3 := Option.some.inj h2
  rw [h3]
  have := sumL_get ll k h1
  show ll[k].length ≤ 262144
  omega
theorem frsF_sum (ll : List (List UInt8)) : ∀ k, k ≤ ll.length → endF (frsF ll) k = sumL (ll.take k) + 10 * k := by
  intro k
  induction k with
  | zero => intro _; simp [endF, joinF, sumL]
  | succ k ih =>
    intro hk
    have h1 : ll[k]? = some ll[k] := List.getElem?_eq_getElem (by omega)
    have h2 : k < (frsF ll).length := by rw [frsF_len]; omega
    have h3 := frsF_get ll k h1
    rw [List.getElem?_eq_getElem h2] at h3
    have h4 := Option.some.inj h3
    rw [endF_succ _ _ h2, ih (by omega), sumL_take ll k h1, h4]
    simp only
    omega
theorem EBj : ElemT Try.prog 22 5 (.int .u8 0) 1 1 := ⟨Try.underlying22, by kernel_rfl, rfl, by decide⟩
theorem EIj : ElemT Try.prog 78 3 (.int .i64 0) 1 8 := ⟨Try.underlying78, by kernel_rfl, rfl, by decide⟩
/-- where frames end, as cells -/
def endsL (ll : List (List UInt8)) (k : Nat) : List Value := (List.range k).map fun i => .int .i64 (endF (frsF ll) (i + 1) : Nat)
theorem endsL_succ (ll : List (List UInt8)) (k : Nat) : endsL ll (k + 1) = endsL ll k ++ [.int .i64 (endF (frsF ll) (k + 1) : Nat)] := by simp [endsL, List.range_succ]
set_option maxRecDepth 100000 in
set_option maxHeartbeats 3200000 in
theorem joined_any (w : World) {A : Option Addr} {n c : Nat} {vs : List Value} {ll : List (List UInt8)} (h : Sls w A n c vs ll) (hn : n ≤ 256) (hs : sumL ll ≤ 65536) :
    Calls Try.prog 51 #[.slice A n c] w fun e w' => ∃ vb ve, e = .returned (.tuple #[vb, ve, .bool true]) ∧ w'.ownsRow w.heap.size 5 1 vb (endF (frsF ll) n) ((joinF (frsF ll)).map by8) ∧ w'.ownsRow w.heap.size 3 1 ve n (endsL ll n) ∧ Below w.heap.size w w' := by
  have hl := Lib.hid h.len
  have m1 := h.sl.le; have m2 := h.sl.max
  go_enter Try.func51, Try.ntmps51
  go_wp2
  go_loopw [5, 6, 7] (fun vb ve i wr => ∃ k : Nat, k ≤ n ∧ i = .int .i64 k ∧ wr.ownsRow w.heap.size 5 1 vb (endF (frsF ll) k) ((joinF ((frsF ll).take k)).map by8) ∧ wr.ownsRow w.heap.size 3 1 ve k (endsL ll k) ∧ Below w.heap.size w wr) (fun _ _ i _ => n - (intOf i).toNat)
  case atStart => exact ⟨0, Nat.zero_le _, rfl, World.ownsRow_nil .., World.ownsRow_nil .., Below.refl _ _⟩
  case round =>
    obtain ⟨k, hk, rfl, ob, oe, hb⟩ := hrel
    by_cases hlt : k < n
    · obtain ⟨b, off, rfl⟩ := h.sl.form (by omega)
      obtain ⟨ba, bn, bc, l, hll, g0, s1, h3⟩ := h.getJ k hlt
      have hkl : k < (frsF ll).length := by rw [frsF_len, hl.out]; exact hlt
      have e1 : l.length = bn := by simpa using s1.len
      have hbn : bn ≤ 65536 := by have := sumL_get ll k hll; omega
      have hk0 : (0 : Int) ≤ (k : Int) := Int.natCast_nonneg _
      have hk1 : (k : Int) < (n : Int) := by omega
      have hk2 : (UInt8.ofNat k).toNat = k := by rw [UInt8.toNat_ofNat']; omega
      have iw : IntKind.u8.wrap (k : Int) = (k : Int) := by rw [IntKind.wrap_u8]; omega
      have henc := Encode_yes wr (UInt8.ofNat k) (s1.below hb) (by omega)
      rw [hk2] at henc
      have c0 := cell_below g0 hb
      have HE := Lib.hid henc
      have HK : Hid (endF (frsF ll) (k + 1) = endF (frsF ll) k + (bn + 10) ∧ joinF ((frsF ll).take (k + 1)) = joinF ((frsF ll).take k) ++ frB (UInt8.ofNat k) l ∧ endF (frsF ll) (k + 1) ≤ 100000) := Lib.hid (by
        have h3 := frsF_get ll k hll
        rw [List.getElem?_eq_getElem hkl] at h3
        have h4 := Option.some.inj h3
        have h5 := frsF_sum ll (k + 1) (by rw [hl.out]; omega)
        have h6 := sumL_le ll (k + 1)
        refine ⟨by rw [endF_succ _ _ hkl, h4, e1], by rw [joinF_snoc _ _ hkl, h4], by omega⟩)
      have HO := Lib.hid (And.intro ob (And.intro oe hb))
      clear g0 s1 hll henc hkl e1 hk2 ob oe hb
      go_wp2_with (first | (at_builtin; refine Stopped.out ?_) | (at_make; refine Stopped.out ?_))
      refine HE.out.mono ?_
      rintro e w1 ⟨g, rfl, o1, hb1⟩
      obtain ⟨ob, oe, hb⟩ := HO.out
      have HO1 := Lib.hid (And.intro (own_below ob hb1) (And.intro (own_below oe hb1) (And.intro (own_sl' o1).2.1 (bthen hb hb1))))
      clear ob oe hb o1 hb1 HO HE
      go_wp2_with (first | (at_builtin; refine Stopped.out ?_) | (at_make; refine Stopped.out ?_))
      refine Stopped.mk (ap_own EBj rfl (.tmp 28) (.tmp 29) rfl rfl HO1.out.1 rfl HO1.out.2.2.1 (u8_one _) (by simp only [maxLen]; have := HK.out.1; have := HK.out.2.2; omega) (by have := HK.out.1; have := HK.out.2.2; omega) HO1.out.2.2.2.size ?_)
      intro v2 w2 o2 hg2 _
      have hg2' : w1.grownBy w2 u5.ownBlock := hg2
      obtain ⟨ob, oe, _, hb⟩ := HO1.out
      have k2 : Keep u5.ownBlock.toList w1 w2 := (Keep.refl _ w1).grown hg2' (fun k e => .inl (by simp [e]))
      have oe2 := k2.own oe (fun j hj hx => own_types oe ob (by decide) hj (by simpa using hx))
      have hb2 := hb.grown hg2' hb.size (fun k e => (ob.lt k e).1)
      rw [← List.map_append, ← HK.out.2.1, ← HK.out.1] at o2
      obtain ⟨A2, c2, rfl, _, _⟩ := own_sl o2
      have hbz : Below w2.heap.size w2 (w2.alloc (.cells #[.int .i64 (endF (frsF ll) (k + 1) : Nat)] 3)) := (Below.refl _ _).alloc (Nat.le_refl _) _
      have hE : endF (frsF ll) (k + 1) ≤ 100000 := HK.out.2.2
      have HO2 := Lib.hid (And.intro (own_below o2 hbz) (And.intro (own_below oe2 hbz) (And.intro (Sl.fresh w2 [.int .i64 (endF (frsF ll) (k + 1) : Nat)] 3 1 1 rfl (by decide)) (bthen hb2 hbz))))
      have HC := Lib.hid HK.out.2.1
      clear hg2 hg2' ob oe hb k2 oe2 hb2 o2 hbz HO1 HK
      go_wp2_with (first | (at_builtin; refine Stopped.out ?_) | (at_make; refine Stopped.out ?_))
      refine Stopped.mk (ap_own EIj rfl (.tmp 31) (.tmp 34) rfl rfl HO2.out.2.1 rfl HO2.out.2.2.1 (by simp [Value.oneCell']) (by simp only [maxLen]; omega) (by omega) HO2.out.2.2.2.size ?_)
      intro v3 w3 o3 hg3 _
      have hg3' : (w2.alloc (.cells #[.int .i64 (endF (frsF ll) (k + 1) : Nat)] 3)).grownBy w3 u6.ownBlock := hg3
      obtain ⟨ob, oe, _, hb⟩ := HO2.out
      have k3 : Keep u6.ownBlock.toList (w2.alloc (.cells #[.int .i64 (endF (frsF ll) (k + 1) : Nat)] 3)) w3 := (Keep.refl _ _).grown hg3' (fun k e => .inl (by simp [e]))
      have ob3 := k3.own ob (fun j hj hx => own_types ob oe (by decide) hj (by simpa using hx))
      have hb3 := hb.grown hg3' hb.size (fun k e => (oe.lt k e).1)
      rw [← endsL_succ] at o3
      have HO3 := Lib.hid (And.intro ob3 (And.intro o3 hb3))
      clear hg3 hg3' ob oe hb k3 ob3 hb3 o3 HO2
      go_wp2
      first | go_roundw | refine ⟨?rel, ?measure⟩
      case rel => exact ⟨k + 1, by omega, by go_num, HO3.out.1, HO3.out.2.1, HO3.out.2.2⟩
      case measure => simp [intOf]; omega
    · have HB := Lib.hid (And.intro ob (And.intro oe hb))
      have HK := Lib.hid (show k = n by omega)
      have i1 : decide ((k : Int) < (n : Int)) = false := decide_eq_false (by omega)
      clear ob oe hb
      go_wp2
      go_ret3
      obtain ⟨ob, oe, hb⟩ := HB.out
      rw [HK.out] at ob oe
      rw [List.take_of_length_le (by rw [frsF_len, hl.out]; omega)] at ob
      exact ⟨_, _, rfl, ob, oe, hb⟩
end Go.Proofs.Ytpjmbhhfpoamnaa
