import Derived.Test.YtpjmbhhfpoamnaaFrJoin
import Derived.Test.YtpjmbhhfpoamnaaSame13
set_option linter.unusedVariables false
set_option linter.unusedSimpArgs false
namespace Go.Proofs.Ytpjmbhhfpoamnaa
open Go.RowKit
theorem Sl.full {w : World} {A : Option Addr} {n c m : Nat} {vs : List Value} (h : Sl w 1 A n c vs) (hm : m ≤ n) : Sl w 1 A m m (vs.take m) :=
  let s := h.pre hm
  ⟨s.len, Nat.le_refl _, Nat.le_trans hm (Nat.le_trans h.le h.max), fun e => by have := h.nil e; have := h.le; omega, s.at_⟩
/-- append to bytes whose room is used up -/
theorem apg_own {P : Program} {w : World} {ops : Array Oper} {rest : List Oper} {o : Oper} {a : Act} {Q : Exit → Act → World → Prop} {t e bytes : Nat} {z : Value} (E : ElemT P t e z 1 bytes) (hgd : o.guard = none) (s x : Operand)
    (ho : o.op = .call { callee := .builtin .append, args := #[s, x], argTypes := #[t, t] }) {A : Option Addr} {n : Nat} {xs : List Value} (hs : a.eval s = .slice A n n) (h1 : Sl w 1 A n n xs)
    {b : Addr} {m c : Nat} {news : List Value} (hx : a.eval x = .slice (some b) m c) (hsl : Sl w 1 (some b) m c news) (hm : 0 < m) (h1c : ∀ u ∈ news, u.oneCell' = true)
    (h63 : n + m ≤ maxLen) (hbytes : (n + m) * bytes ≤ 140737488355328)
    (h : ∀ A' c' w', Sl w' 1 A' (n + m) c' (xs ++ news) → Below w.heap.size w w' → wpList P ops Q rest (a.put o.dst (.slice A' (n + m) c')) w') : wpList P ops Q (o :: rest) a w := by
  cases A with
  | none =>
    obtain rfl : n = 0 := by have := h1.nil rfl; exact this
    have hx0 : xs = [] := List.eq_nil_of_length_eq_zero (by have := h1.len; simpa using this)
    refine ap_own E hgd s x ho hs (World.ownsRow_nil w w.heap.size e 1) hx hsl h1c h63 hbytes (Nat.le_refl _) ?_
    intro v' w' ho' hg _
    obtain ⟨A', c', rfl, hsl', _⟩ := own_sl ho'
    exact h A' c' w' (by rw [hx0]; exact hsl') (below_grown hg)
  | some ad =>
    refine wpList_plain hgd fun _ hK => ?_
    obtain ⟨i, hi, hz0, hz1, hz2⟩ := info_parts E.info
    have hl1 : xs.length = n * i.size := by rw [hz1]; exact h1.len
    have hl2 : news.length = m * i.size := by rw [hz1]; exact hsl.len
    have hr := run_append_grow (P := P) w t o.type e i z E.und hi hz0 ad n n xs hl1 h1.news b m c news hl2 hsl.news (by omega) (by simp only [maxLen] at h63; omega) (by rw [hz2]; exact growslice_fits (by omega) hbytes)
    unfold Oper.wp execOp
    simp only [ho, resolve, invoke, builtin, Sem.run_bind, Sem.run_pure, Result.andThen_ok, List.map_toArray, List.map_cons, List.map_nil, hs, hx, hr]
    refine hK _ _ (h _ _ _ ?_ (((Below.refl _ w).drew).alloc (Nat.le_refl _) _))
    refine ⟨by simp [h1.len, hsl.len], grownCap_ge _ _ _ _, grownCap_le_maxLen _ _ _ _ h63, (fun h9 => nomatch h9), fun ad2 e2 _ => ?_⟩
    have e3 := Option.some.inj e2
    subst e3
    refine ⟨rfl, fun j hj => ?_⟩
    have hb := heap_alloc_new w.drew (.cells (xs.toArray ++ news.toArray ++ Builtin.zeroCells z.cells (grownCap w (n + m) n e - (n + m))) e)
    have := box_cell hb j (xs ++ news)[j] (by
      rw [Array.getElem?_append_left (by simp; simpa using hj)]
      simp [List.getElem?_eq_getElem hj])
    rw [Nat.zero_add]
    exact this
theorem placedF_len : ∀ (a : Nat) (ps : List (UInt8 × List UInt8)), (placedF a ps).length = ps.length
  | _, [] => rfl
  | a, x :: r => by rw [placedF, List.length_cons, placedF_len, List.length_cons]
theorem frameL_get : ∀ (xs : List Yl) (i : Nat) (x : Yl), xs[i]? = some x → (frameL xs)[i * 2]? = some (.int .u8 (x.k.toNat : Int)) ∧ (frameL xs)[i * 2 + 1]? = some (.slice (some ⟨x.g, 0, none⟩) x.p.length x.p.length)
  | [], i, x, h => by simp at h
  | y :: r, 0, x, h => by
    have : y = x := by simpa using h
    subst this
    exact ⟨rfl, rfl⟩
  | y :: r, i + 1, x, h => by
    have h1 := frameL_get r i x (by simpa using h)
    have e : frameL (y :: r) = .int .u8 (y.k.toNat : Int) :: .slice (some ⟨y.g, 0, none⟩) y.p.length y.p.length :: frameL r := rfl
    rw [e, show (i + 1) * 2 = i * 2 + 1 + 1 by omega]
    exact ⟨by simpa using h1.1, by simpa using h1.2⟩
theorem placed_get {xs : List Yl} {a : Nat} {ps : List (UInt8 × List UInt8)} (h : xs.map Yl.pj = placedF a ps) {i : Nat} {kk : UInt8} {pp : List UInt8} (hp : ps[i]? = some (kk, pp)) : ∃ x, xs[i]? = some x ∧ x.k = kk ∧ x.p = pp := by
  have h2 := congrArg (List.map fun x : Nat × UInt8 × List UInt8 => (x.2.1, x.2.2)) h
  rw [placedF_map, List.map_map] at h2
  rw [← h2, List.getElem?_map] at hp
  cases hx : xs[i]? with
  | none => rw [hx] at hp; cases hp
  | some x =>
    rw [hx] at hp
    have := Option.some.inj hp
    exact ⟨x, rfl, congrArg Prod.fst this, congrArg Prod.snd this⟩
theorem crc0 : (crcSum [0]).toNat ≠ 0 := by decide
theorem Sum0 (w : World) : Calls Try.prog 44 #[.slice (some ⟨w.heap.size, 0, none⟩) 1 1] (w.alloc (.cells #[.int .u8 0] 5)) fun e w' => (∃ r : Nat, r ≠ 0 ∧ e = .returned (.int .u32 (r : Int))) ∧ w.alloc (.cells #[.int .u8 0] 5) = w' :=
  (Sum_any _ (l := [0]) (Sl.fresh w [.int .u8 0] 5 1 1 rfl (by decide))).mono (fun e w' ⟨h1, h2⟩ => ⟨⟨_, crc0, h1⟩, h2⟩)
set_option maxRecDepth 100000 in
set_option maxHeartbeats 3200000 in
theorem FrameTorn_walk (W : World) (z : Int) (m : Nat) (hm : m < 256) {A : Option Addr} {n c : Nat} {vs : List Value} {ll : List (List UInt8)} (h : Sls W A n c vs ll) :
    Calls Try.prog 13 #[.slice A n c, .int .i64 z, .int .u8 m] W fun e w' => e = .returned (.bool true) ∧ Below W.heap.size W w' := by
  have n1 := h.sl.le; have n2 := h.sl.max
  have HLn := Lib.hid h.len
  have HM8 : Hid (by8 (UInt8.ofNat m) = .int .u8 (m : Int)) := Lib.hid (by unfold by8; rw [UInt8.toNat_ofNat', Nat.mod_eq_of_lt hm])
  go_enter Try.func13, Try.ntmps13
  go_wp2_with (first | (at_builtin; refine Stopped.out ?_) | (at_make; refine Stopped.out ?_))
  refine (small13 _ h).mono ?_
  rintro e w1 ⟨r, rfl, hr, hd1⟩
  cases r with
  | false =>
    go_wp2
    go_ret
    exact ⟨rfl, hd1.below⟩
  | true =>
  obtain ⟨hn, hsum⟩ := hr rfl
  have HB1 := Lib.hid hd1.below
  clear hr hd1
  go_wp2_with (first | (at_builtin; refine Stopped.out ?_) | (at_make; refine Stopped.out ?_))
  refine (joined_any _ (h.below HB1.out) hn hsum).mono ?_
  rintro e w2 ⟨vb, ve, rfl, ob, oe, hb2⟩
  obtain ⟨L, hL⟩ : ∃ L, L = endF (frsF ll) n := ⟨_, rfl⟩
  rw [← hL] at ob
  have hL2 : L ≤ 68096 := by
    have h1 := frsF_sum ll n (by rw [HLn.out]; omega)
    have h2 := sumL_le ll n
    omega
  obtain ⟨Ab, cb, rfl, sb, _⟩ := own_sl ob
  have HAb : Hid ((Ab = none ∧ L = 0 ∧ cb = 0) ∨ ∃ g, Ab = some ⟨g, 0, none⟩) := Lib.hid (by
    rcases ob.2 with ⟨h1, h2⟩ | ⟨g, cap, cur, h1, _⟩
    · injection h1 with h1 _ h3; exact .inl ⟨h1, h2, h3⟩
    · injection h1 with h1; exact .inr ⟨g, h1⟩)
  obtain ⟨Ae, ce, rfl, se, _⟩ := own_sl oe
  have L2 := Lib.hid (And.intro sb (And.intro se (And.intro (bthen HB1.out hb2) hL)))
  have b1 := sb.le; have b2 := sb.max
  clear ob oe hb2 hL sb se HB1
  by_cases g0 : z < 0
  · have i0 : decide (z < 0) = true := decide_eq_true g0
    have HS := Lib.hid (Sum0 w2)
    go_wp2_with (first | (at_builtin; refine Stopped.out ?_) | (at_make; refine Stopped.out ?_))
    refine HS.out.mono ?_
    rintro e w3 ⟨⟨r, hr, rfl⟩, rfl⟩
    have i1 : ((r : Int) != 0) = true := by simp; omega
    go_wp2
    go_ret
    exact ⟨rfl, bthen L2.out.2.2.1 ((Below.refl _ _).alloc (Nat.le_refl _) _)⟩
  have i0 : decide (z < 0) = false := decide_eq_false g0
  obtain ⟨cut, rfl⟩ : ∃ cut : Nat, z = (cut : Int) := ⟨z.toNat, by omega⟩
  by_cases g1 : L < cut
  · have i1 : decide ((L : Int) < (cut : Int)) = true := decide_eq_true (by omega)
    have HS := Lib.hid (Sum0 w2)
    go_wp2_with (first | (at_builtin; refine Stopped.out ?_) | (at_make; refine Stopped.out ?_))
    refine HS.out.mono ?_
    rintro e w3 ⟨⟨r, hr, rfl⟩, rfl⟩
    have i1 : ((r : Int) != 0) = true := by simp; omega
    go_wp2
    go_ret
    exact ⟨rfl, bthen L2.out.2.2.1 ((Below.refl _ _).alloc (Nat.le_refl _) _)⟩
  have i1 : decide ((L : Int) < (cut : Int)) = false := decide_eq_false (by omega)
  clear g0
  go_wp2_with (first | (at_builtin; refine Stopped.out ?_) | (at_make; refine Stopped.out ?_))
  go_loopw [10, 11] (fun kk aa wr => ∃ k : Nat, k ≤ n ∧ kk = .int .i64 k ∧ aa = .int .i64 (endF (frsF ll) k : Nat) ∧ Hid (endF (frsF ll) k ≤ cut) ∧ w2 = wr) (fun kk _ _ => n - (intOf kk).toNat)
  case atStart => exact ⟨0, Nat.zero_le _, rfl, rfl, Lib.hid (by simp [endF, joinF]), rfl⟩
  case round =>
    obtain ⟨k, hk, rfl, rfl, hke, rfl⟩ := hrel
    obtain ⟨ek, hek⟩ : ∃ ek, ek = endF (frsF ll) k := ⟨_, rfl⟩
    have hke' : ek ≤ cut := by rw [hek]; exact hke.out
    have hj : (joinF (frsF ll)).length = L := by rw [L2.out.2.2.2, ← endF_all, frsF_len, HLn.out]
    by_cases hgo : k < n ∧ endF (frsF ll) (k + 1) ≤ cut
    · obtain ⟨be, oe, rfl⟩ := L2.out.2.1.form (by omega)
      have hlk : k < (endsL ll n).length := by simp [endsL]; omega
      have ce' := L2.out.2.1.cell k hlk
      rw [show (endsL ll n)[k] = .int .i64 (endF (frsF ll) (k + 1) : Nat) by simp [endsL]] at ce'
      obtain ⟨e1, he1⟩ : ∃ e1, e1 = endF (frsF ll) (k + 1) := ⟨_, rfl⟩
      rw [← he1] at ce'
      have k0 : (0 : Int) ≤ (k : Int) := Int.natCast_nonneg _
      have k1 : (k : Int) < (n : Int) := by omega
      have k2 : (e1 : Int) ≤ (cut : Int) := by omega
      have HE1 := Lib.hid he1
      rw [← hek]
      clear hek hgo he1 hj hke
      go_wp2
      first | go_roundw | refine ⟨?rel, ?measure⟩
      case rel => exact ⟨k + 1, by omega, by go_num, by rw [← HE1.out], Lib.hid (by rw [← HE1.out]; omega), (by first | rfl | trivial)⟩
      case measure => simp [intOf]; omega
    · have HX : Hid ((k < n → cut < endF (frsF ll) (k + 1)) ∧ ek = endF (frsF ll) k ∧ (joinF (frsF ll)).length = L) := Lib.hid ⟨fun h1 => by omega, hek, hj⟩
      have hscan := scanF_torn (frsF ll) (frsF_small ll hsum) k cut (by rw [frsF_len, HLn.out]; exact hk) hke.out (fun h1 => HX.out.1 (by rw [frsF_len, HLn.out] at h1; exact h1)) (by rw [hj]; omega)
      rw [← hek] at hscan
      have hsc := Scan_any w2 (show Sl w2 1 Ab cut cut (((joinF (frsF ll)).take cut).map by8) from by rw [List.map_take]; exact L2.out.1.full (by omega)) (by omega)
      rw [hscan] at hsc
      dsimp only at hsc
      have HSc := Lib.hid hsc
      have HO4 : Hid (Sl w2 1 Ab ek ek (((joinF (frsF ll)).take ek).map by8) ∧ (∀ c : UInt8, c ≠ 0xa5 → scanF ((joinF (frsF ll)).take ek ++ [c]) = ((frsF ll).take k, ek, 4)) ∧ ek ≤ 68096) := Lib.hid ⟨by rw [List.map_take]; exact L2.out.1.full (by omega), fun c hc => by
        have := scanF_other (frsF ll) (frsF_small ll hsum) k (by rw [frsF_len, HLn.out]; exact hk) c hc
        rwa [← hek] at this, by omega⟩
      rw [← hek]
      clear hscan hsc hek hj hke
      have hexit : (decide ((k : Int) < (n : Int)) = false ∧ ¬ k < n) ∨ ((k : Int) < (n : Int) ∧ ∃ (be oe e1 : Nat), Ae = some ⟨be, oe, none⟩ ∧ w2.cell? ⟨be, oe + k, none⟩ = some (.int .i64 (e1 : Int)) ∧ decide ((e1 : Int) ≤ (cut : Int)) = false ∧ ¬ e1 ≤ cut) := by
        by_cases h1 : k < n
        · obtain ⟨be, oe, rfl⟩ := L2.out.2.1.form (by omega)
          have hlk : k < (endsL ll n).length := by simp [endsL]; omega
          have ce' := L2.out.2.1.cell k hlk
          rw [show (endsL ll n)[k] = .int .i64 (endF (frsF ll) (k + 1) : Nat) by simp [endsL]] at ce'
          exact .inr ⟨by omega, be, oe, _, rfl, ce', decide_eq_false (by have := HX.out.1 h1; omega), by have := HX.out.1 h1; omega⟩
        · exact .inl ⟨decide_eq_false (by omega), h1⟩
      clear hgo
      have j0 : (0 : Int) ≤ (cut : Int) := Int.natCast_nonneg _
      have j1 : (cut : Int) ≤ (cb : Int) := by omega
      have j2 : (cut : Int) ≤ (cut : Int) := Int.le_refl _
      have hcL : cut ≤ L := by omega
      have j3 : (0 : Int) ≤ (ek : Int) := Int.natCast_nonneg _
      have j4 : (ek : Int) ≤ (cb : Int) := by omega
      have j5 : (ek : Int) ≤ (ek : Int) := Int.le_refl _
      have hekL : ek ≤ L := by omega
      have k0 : (0 : Int) ≤ (k : Int) := Int.natCast_nonneg _
      obtain ⟨tl, htl⟩ : ∃ tl : Nat, tl = if ek = cut then 0 else 1 := ⟨_, rfl⟩
      rw [← htl] at HSc
      have htl2 : (((ek : Int) == (cut : Int)) = true ∧ tl = 0) ∨ (((ek : Int) == (cut : Int)) = false ∧ tl = 1 ∧ ek ≠ cut) := by
        by_cases hec : ek = cut
        · left; rw [if_pos hec] at htl; exact ⟨by rw [hec]; simp, htl⟩
        · right; rw [if_neg hec] at htl; exact ⟨by simp; omega, htl, hec⟩
      clear htl i0 i1 g1
      have HAc : (Ab = none ∧ L = 0 ∧ cb = 0 ∧ cut = 0 ∧ ek = 0) ∨ ∃ g, Ab = some ⟨g, 0, none⟩ := by
        rcases HAb.out with ⟨h1, h2, h3⟩ | h1
        · exact .inl ⟨h1, h2, h3, by omega, by omega⟩
        · exact .inr h1
      rcases htl2 with ⟨q1, rfl⟩ | ⟨q1, rfl, q2⟩ <;> rcases hexit with ⟨i2, i4⟩ | ⟨i2, be, oe, e1, rfl, ce', i3, i4⟩ <;> rcases HAc with ⟨rfl, rfl, rfl, rfl, rfl⟩ | ⟨gb, rfl⟩
      all_goals try contradiction
      all_goals
        clear hcL HAb
        go_wp2_with (first | (at_builtin; refine Stopped.out ?_) | (at_make; refine Stopped.out ?_))
        refine HSc.out.mono ?_
        rintro e w3 ⟨xs, v, rfl, hxs, hF, hb3⟩
        have hlen : xs.length = k := by
          have h1 := congrArg List.length hxs
          rw [List.length_map, placedF_len, List.length_take, frsF_len, HLn.out] at h1
          omega
        obtain ⟨Av, cv, rfl, sv, _⟩ := own_sl hF.own
        have hv1 := sv.le; have hv2 := sv.max
        have HF := Lib.hid (And.intro sv (And.intro hF (And.intro hxs (And.intro hlen (bthen L2.out.2.2.1 hb3)))))
        have HB3 := Lib.hid hb3
        rw [hlen] at hv1 ⊢
        clear sv hF hxs hlen hb3
        go_wp2_with (first | (at_builtin; refine Stopped.out ?_) | (at_make; refine Stopped.out ?_))
        go_loopw [16] (fun ii wr => ∃ i : Nat, i ≤ k ∧ ii = .int .i64 i ∧ Drawn w3 wr) (fun ii _ => k - (intOf ii).toNat)
        case atStart => exact ⟨0, Nat.zero_le _, rfl, Drawn.refl _⟩
        case round =>
          obtain ⟨i, hi, rfl, hd⟩ := hrel
          have hb5 := hd.below
          by_cases hlt : i < k
          · obtain ⟨sv, hF, hxs, hlen, hb⟩ := HF.out
            obtain ⟨bv, ov, rfl⟩ := sv.form (by omega)
            obtain ⟨bp, op, rfl⟩ := h.sl.form (by omega)
            obtain ⟨ba, bn, bc, l, hll, g0, s1, h3⟩ := h.getJ i (by omega)
            obtain ⟨x, hx, hxk, hxp⟩ := placed_get hxs (i := i) (kk := UInt8.ofNat i) (pp := l) (by rw [List.getElem?_take_of_lt hlt]; exact frsF_get ll i hll)
            have hfl := frameL_get xs i x hx
            have hk2 : (UInt8.ofNat i).toNat = i := by rw [UInt8.toNat_ofNat']; omega
            have hm1 : i * 2 < (frameL xs).length := (List.getElem?_eq_some_iff.1 hfl.1).1
            have hm2 : i * 2 + 1 < (frameL xs).length := (List.getElem?_eq_some_iff.1 hfl.2).1
            have d0 := sv.cell (i * 2) hm1
            have d1 := sv.cell (i * 2 + 1) hm2
            rw [(List.getElem?_eq_some_iff.1 hfl.1).2, hxk, hk2] at d0
            rw [(List.getElem?_eq_some_iff.1 hfl.2).2] at d1
            have sx := (own_sl' (hF.rows x (List.mem_of_getElem? hx))).2.1
            have HSm := Lib.hid (fun nq : Nat => same13 (wr.drewN nq) ((sx.below hb5).drewN nq) (((s1.below hb).below hb5).drewN nq))
            rw [hxp] at d1
            have HSm2 : Hid (∀ nq : Nat, Calls Try.prog 47 #[.slice (some ⟨x.g, 0, none⟩) l.length l.length, .slice ba bn bc] (wr.drewN nq) fun e w' => e = .returned (.bool true) ∧ Drawn (wr.drewN nq) w') := Lib.hid (fun nq => by have := HSm.out nq; rw [hxp] at this; simpa using this)
            have d2 := cell_below g0 hb
            have d0' : wr.cell? ⟨bv, ov + i * 2, none⟩ = some (.int .u8 (i : Int)) := cell_below d0 hb5
            have d1' : wr.cell? ⟨bv, ov + i * 2 + 1, none⟩ = some (.slice (some ⟨x.g, 0, none⟩) l.length l.length) := by have := cell_below d1 hb5; rwa [← Nat.add_assoc] at this
            have d2' : wr.cell? ⟨bp, op + i, none⟩ = some (.slice ba bn bc) := cell_below d2 hb5
            have r0 : (0 : Int) ≤ (i : Int) := Int.natCast_nonneg _
            have r1 : (i : Int) < (k : Int) := by omega
            have r2 : (i : Int) < (n : Int) := by omega
            have iw : IntKind.u8.wrap (i : Int) = (i : Int) := by rw [IntKind.wrap_u8]; omega
            have HD5 := Lib.hid hd
            clear d0 d1 d2 hd hb5 sv hF hxs hlen hb g0 s1 hll hx hxk hxp hfl hk2 hm1 hm2 sx HSm
            go_wp2_with fail
            go_quiet ((go_at_call 47; with_reducible exact quiet_dr (HSm2.out _)))
            go_wp2
            first | go_roundw | refine ⟨?rel, ?measure⟩
            case rel => exact ⟨i + 1, by omega, by go_num, HD5.out.step _⟩
            case measure => simp [intOf]; omega
          · obtain ⟨sv, hF, hxs, hlen, hb⟩ := HF.out
            have HB4 := Lib.hid (show Below W.heap.size W wr from bthen hb hd.below)
            have HS4 := Lib.hid (And.intro ((HO4.out.1.below HB3.out).below hb5) (And.intro HO4.out.2.1 HO4.out.2.2))
            have r1 : decide ((i : Int) < (k : Int)) = false := decide_eq_false (by omega)
            clear sv hF hxs hlen hb hb5 hd
            by_cases gm : m = 165
            · have i5 : ((m : Int) == 165) = true := by rw [gm]; rfl
              have HS := Lib.hid (Sum0 wr)
              go_wp2_with (first | (at_builtin; refine Stopped.out ?_) | (at_make; refine Stopped.out ?_))
              refine HS.out.mono ?_
              rintro e w4 ⟨⟨r, hr, rfl⟩, rfl⟩
              have i6 : ((r : Int) != 0) = true := by simp; omega
              go_wp2
              go_ret
              exact ⟨rfl, bthen HB4.out ((Below.refl _ _).alloc (Nat.le_refl _) _)⟩
            · have i5 : ((m : Int) == 165) = false := by simp; omega
              have HM9 : Hid (UInt8.ofNat m ≠ 0xa5) := Lib.hid (fun e => by
                have h1 := congrArg UInt8.toNat e
                rw [UInt8.toNat_ofNat', Nat.mod_eq_of_lt hm] at h1
                exact gm h1)
              go_wp2_with (first | (at_builtin; refine Stopped.out ?_) | (at_make; refine Stopped.out ?_))
              refine Stopped.mk (apg_own EBj rfl (.tmp 126) (.tmp 128) rfl rfl (HS4.out.1.alloc _) rfl (Sl.fresh wr [.int .u8 (m : Int)] 5 1 1 rfl (by decide)) (by decide) (by simp [Value.oneCell']) (by simp only [maxLen]; have := HS4.out.2.2; omega) (by have := HS4.out.2.2; omega) ?_)
              intro A6 c6 w6 s6 hb6
              have s7 := s6
              rw [← HM8.out, show [by8 (UInt8.ofNat m)] = [UInt8.ofNat m].map by8 from rfl, ← List.map_append] at s7
              have hsc := Scan_any w6 s7 (by have := HS4.out.2.2; omega)
              rw [HS4.out.2.1 _ HM9.out] at hsc
              dsimp only at hsc
              have HSc2 := Lib.hid hsc
              have HB6 := Lib.hid (bthen HB4.out (bthen ((Below.refl _ wr).alloc (Nat.le_refl _) _) hb6))
              clear s6 s7 hb6 hsc
              go_wp2_with (first | (at_builtin; refine Stopped.out ?_) | (at_make; refine Stopped.out ?_))
              refine HSc2.out.mono ?_
              rintro e w7 ⟨ys, v7, rfl, hys, hF7, hb7⟩
              have hlen7 : ys.length = k := by
                have h1 := congrArg List.length hys
                rw [List.length_map, placedF_len, List.length_take, frsF_len, HLn.out] at h1
                omega
              obtain ⟨A7, c7, rfl, _, _⟩ := own_sl hF7.own
              rw [hlen7]
              have HB7 := Lib.hid (bthen HB6.out hb7)
              have HS := Lib.hid (Sum0 w7)
              clear hys hF7 hb7 hlen7
              go_wp2_with (first | (at_builtin; refine Stopped.out ?_) | (at_make; refine Stopped.out ?_))
              refine HS.out.mono ?_
              rintro e w8 ⟨⟨r, hr, rfl⟩, rfl⟩
              have i6 : ((r : Int) != 0) = true := by simp; omega
              go_wp2
              go_ret
              exact ⟨rfl, bthen HB7.out ((Below.refl _ _).alloc (Nat.le_refl _) _)⟩
end Go.Proofs.Ytpjmbhhfpoamnaa
