import Derived.Test.YtpjmbhhfpoamnaaFrAll
set_option linter.unusedVariables false
set_option linter.unusedSimpArgs false
namespace Go.Proofs.Ytpjmbhhfpoamnaa
open Go.RowKit Go.Shelf
attribute [local go_sem] Oper.semAt_some
theorem All_any (w : World) {A : Option Addr} {N c : Nat} :
    Calls Try.prog 94 #[.slice A N c] w fun e w' => e = .returned (.func (.func 126) #[] #[.pointer (some ⟨w.heap.size, 0, none⟩)]) ∧ w.alloc (.cells #[.slice A N c] 22) = w' := by
  go_enter Try.func94, Try.ntmps94
  go_wp2
  go_ret
  exact ⟨rfl, rfl⟩
theorem scan_end : ∀ (n : Nat) (l : List UInt8) (a : Nat), l.length - a ≤ n → a ≤ l.length → a + (scanF (l.drop a)).2.1 ≤ l.length ∧ (wholeF l ((a + (scanF (l.drop a)).2.1 : Nat) : Int)).2.2.2 = (scanF (l.drop a)).2.2
  | n, l, a, h, ha => by
    by_cases hs : a = l.length ∨ (wholeD (l.drop a)).2.2.2 ≠ 0
    · obtain ⟨h1, h2, h3, h4⟩ := placed_stop l a ha hs
      rw [h3, h4]
      exact ⟨by omega, h1⟩
    · have hlt : a < l.length := by omega
      have ht : (wholeD (l.drop a)).2.2.2 = 0 := by omega
      obtain ⟨k, p, e1, e2, e3, e4, e5, e6⟩ := placed_go l a hlt ht
      cases n with
      | zero => omega
      | succ n =>
        have := scan_end n l (a + (p.length + 10)) (by omega) e2
        rw [e5, e6, show a + (p.length + 10 + (scanF (l.drop (a + (p.length + 10)))).2.1) = a + (p.length + 10) + (scanF (l.drop (a + (p.length + 10)))).2.1 by omega]
        exact this
theorem scan_sum : ∀ (n : Nat) (l : List UInt8) (a : Nat), l.length - a ≤ n → a ≤ l.length → (scanF (l.drop a)).2.1 = ((scanF (l.drop a)).1.map fun x => x.2.length + 10).sum
  | n, l, a, h, ha => by
    by_cases hs : a = l.length ∨ (wholeD (l.drop a)).2.2.2 ≠ 0
    · obtain ⟨h1, h2, h3, h4⟩ := placed_stop l a ha hs
      rw [h2, h3]
      rfl
    · have hlt : a < l.length := by omega
      have ht : (wholeD (l.drop a)).2.2.2 = 0 := by omega
      obtain ⟨k, p, e1, e2, e3, e4, e5, e6⟩ := placed_go l a hlt ht
      cases n with
      | zero => omega
      | succ n =>
        have := scan_sum n l (a + (p.length + 10)) (by omega) e2
        rw [e4, e5, List.map_cons, List.sum_cons, this]
theorem sumP_scan {xs : List Yl} {l : List UInt8} (h : xs.map Yl.pj = placedF 0 (scanF l).1) : sumP xs = (scanF l).2.1 := by
  have h1 := scan_sum _ l 0 (Nat.le_refl _) (Nat.zero_le _)
  simp only [List.drop_zero] at h1
  have h2 := congrArg (List.map fun x : Nat × UInt8 × List UInt8 => (x.2.1, x.2.2)) h
  rw [placedF_map, List.map_map] at h2
  rw [h1, ← h2, sumP, List.map_map]
  rfl
/-- the cells of frames -/
def frameL (xs : List Yl) : List Value := xs.flatMap fun x => [.int .u8 (x.k.toNat : Int), .slice (some ⟨x.g, 0, none⟩) x.p.length x.p.length]
theorem frameL_snoc (xs : List Yl) (x : Yl) : frameL (xs ++ [x]) = frameL xs ++ [.int .u8 (x.k.toNat : Int), .slice (some ⟨x.g, 0, none⟩) x.p.length x.p.length] := by simp [frameL]
/-- frames, their payloads in memory of their own -/
structure Frs (w : World) (B : Nat) (v : Value) (xs : List Yl) : Prop where
  own : w.ownsRow B 70 2 v xs.length (frameL xs)
  rows : ∀ x ∈ xs, w.ownsRow B 5 1 (.slice (some ⟨x.g, 0, none⟩) x.p.length x.p.length) x.p.length (x.p.map by8)
  nodup : (xs.map Yl.g).Nodup
theorem Frs.nc {C B : Nat} {w w' : World} {v : Value} {xs : List Yl} (h : Frs w B v xs) (k : Nc C w w') : Frs w' B v xs := ⟨k.own h.own, fun x hx => k.own (h.rows x hx), h.nodup⟩
theorem Frs.below {B : Nat} {w w' : World} {v : Value} {xs : List Yl} (h : Frs w B v xs) (k : Below w.heap.size w w') : Frs w' B v xs := h.nc (C := 0) (Nc.of_below k)
/-- between two rounds of Scan -/
structure ScI (w W : World) (xs : List Yl) : Prop where
  out : ∃ v, Frs W (w.heap.size + 3) v xs ∧ W.heap[w.heap.size]? = some (.cells #[v] 81 (0, 0))
  end_ : W.heap[w.heap.size + 1]? = some (.cells #[.int .i64 (sumP xs : Nat)] 3 (0, 0))
  below : Below w.heap.size w W
  sz : w.heap.size + 3 ≤ W.heap.size
theorem below_nc {B C : Nat} {a w w' : World} (h : Below B a w) (k : Nc C w w') (hC : B ≤ C) (hB : B ≤ a.heap.size) : Below B a w' :=
  ⟨k.os.trans h.os, k.tape.trans h.tape, k.output.trans h.output, Nat.le_trans h.size k.size, fun x hx => by
    have h1 := h.block x hx
    have h2 : a.heap[x]? = some a.heap[x] := Array.getElem?_eq_getElem (by omega)
    rw [h2] at h1 ⊢
    exact k.block x _ h1 (.inr (by omega))⟩
theorem ScI.nc {w W W' : World} {xs : List Yl} (h : ScI w W xs) (k : Nc (w.heap.size + 3) W W') : ScI w W' xs :=
  let ⟨v, h1, h2⟩ := h.out
  ⟨⟨v, h1.nc k, k.heap h2⟩, k.heap h.end_, below_nc h.below k (by omega) (Nat.le_refl _), Nat.le_trans h.sz k.size⟩
theorem Sl.outB {w : World} {B : Nat} {Xs : List Nat} {A : Option Addr} {N c : Nat} {vs : List Value} (hs : Sl w 1 A N c vs) (hB : w.heap.size ≤ B) (hX : ∀ x ∈ Xs, w.heap.size ≤ x) : Out B Xs A N := fun ad e h0 => by
  have h1 := hs.len
  have h2 := cell_lt ((hs.at_ ad e (by omega)).2 0 (by omega))
  simp at h2
  exact ⟨by omega, fun hx => by have := hX _ hx; omega⟩
theorem EFr : ElemT Try.prog 81 70 (.agg #[.int .u8 0, .slice none 0 0]) 2 32 := ⟨Try.underlying81, by kernel_rfl, rfl, by decide⟩
theorem keeps_of {B : Nat} {M : List Nat} {W W' : World} (k : Keep M W W') (hM : ∀ x ∈ M, ∃ cs t fr, W.heap[x]? = some (.cells cs t fr)) : KeepsFrom B W W' :=
  ⟨k.size, fun i o _ hi ho => by
    have hlt := (Array.getElem?_eq_some_iff.1 hi).1
    by_cases hx : i ∈ M
    · obtain ⟨cs, t, fr, h⟩ := hM i hx
      rw [hi] at h
      have := Option.some.inj h
      subst this
      cases ho
    · exact (k.block i hlt hx).trans hi⟩
theorem kpb_of {B : Nat} {Xs M : List Nat} {W W' : World} (k : Keep M W W') (hM : ∀ x ∈ M, x ∈ Xs ∨ B ≤ x) : KpB B Xs W W' :=
  ⟨k.os, k.tape, k.output, k.size, fun i h1 h2 h3 => k.block i h2 (fun hx => by rcases hM i hx with h | h; exact h3 h; omega)⟩
theorem own_types {W : World} {B B' T T' s s' n n' k : Nat} {v v' : Value} {xs xs' : List Value} (o : W.ownsRow B T s v n xs) (o' : W.ownsRow B' T' s' v' n' xs') (h : T ≠ T') (hk : v.ownBlock = some k) : v'.ownBlock ≠ some k := fun hk' => by
  rcases o.2 with ⟨h1, _⟩ | ⟨g, cap, cur, rfl, _, h3, _⟩
  · subst h1; cases hk
  rcases o'.2 with ⟨h1, _⟩ | ⟨g', cap', cur', rfl, _, h3', _⟩
  · subst h1; cases hk'
  have e : g = k := Option.some.inj hk
  have e' : g' = k := Option.some.inj hk'
  subst e
  subst e'
  rw [h3] at h3'
  injection h3' with h3'
  injection h3' with _ h3'
  exact h h3'
theorem new_two (W : World) (t : TypeId) (u v : Value) : ∀ j y, [u, v][j]? = some y → (W.alloc (.cells #[u, v] t)).cell? ((⟨W.heap.size, 0, none⟩ : Addr).add j) = some y := by
  intro j y h
  have hb := heap_alloc_new W (.cells #[u, v] t)
  match j with
  | 0 => exact box_cell hb 0 y (by simpa using h)
  | 1 => have := box_cell hb 1 y (by simpa using h); simpa [Addr.add] using this
  | j + 2 => simp at h
/-- in a round of Scan -/
structure ScA (w : World) (l : List UInt8) (Bx : Nat) (pre : List Yl) (x : Yl) (W : World) : Prop where
  box : W.heap[Bx]? = some (.cells #[.int .u8 (x.k.toNat : Int), .slice (some ⟨x.g, 0, none⟩) x.p.length x.p.length] 70 (0, 0))
  bxl : w.heap.size + 3 ≤ Bx
  i : ScI w W pre
  new : x.g ∉ pre.map Yl.g
  len : x.p.length ≤ 262144
  own : W.ownsRow (w.heap.size + 3) 5 1 (.slice (some ⟨x.g, 0, none⟩) x.p.length x.p.length) x.p.length (x.p.map by8)
  at_ : x.at_ = sumP pre
  fits : sumP pre + (x.p.length + 10) ≤ l.length
  apart : ∀ v, W.heap[w.heap.size]? = some (.cells #[v] 81 (0, 0)) → v.ownBlock ≠ some Bx
theorem ScA.nc {w W W' : World} {l : List UInt8} {Bx : Nat} {pre : List Yl} {x : Yl} (h : ScA w l Bx pre x W) (k : Nc (w.heap.size + 3) W W') : ScA w l Bx pre x W' :=
  ⟨k.heap h.box, h.bxl, h.i.nc k, h.new, h.len, k.own h.own, h.at_, h.fits, fun v hv => by
    obtain ⟨v0, _, h0⟩ := h.i.out
    have h1 := k.heap h0
    rw [h1] at hv
    have h2 : v0 = v := by simpa using hv
    subst h2
    exact h.apart _ h0⟩
set_option maxRecDepth 100000 in
set_option maxHeartbeats 3200000 in
theorem Scan_any (w : World) {A : Option Addr} {N c : Nat} {l : List UInt8} (hs : Sl w 1 A N c (l.map by8)) (hN : N ≤ 17592186044416) :
    Calls Try.prog 52 #[.slice A N c] w fun e w' => ∃ (xs : List Yl) (v : Value), e = .returned (.tuple #[v, .int .i64 ((scanF l).2.1 : Nat), .int .i64 ((scanF l).2.2 : Nat)]) ∧ xs.map Yl.pj = placedF 0 (scanF l).1 ∧ Frs w' w.heap.size v xs ∧ Below w.heap.size w w' := by
  have hl : l.length = N := by simpa using hs.len
  refine (callsIn_wide (n := 3)).1 ?_
  refine callsIn_of_wp_marks Try.func52 rfl trivial ?_ rfl
  simp only [Try.ntmps52, List.size_toArray, List.length_cons, List.length_nil, Nat.reduceAdd, Nat.reduceSub, Array.replicate_succ, Array.replicate_zero, List.push_toArray, List.append_toArray, List.nil_append, List.cons_append]
  gi_wp2_with (first | (refine ⟨trivial, ?_⟩; gi_at_call 94; refine (callsIn_wide.2 (All_any _)).mono ?_; rintro e w3 ⟨rfl, rfl⟩))
  obtain ⟨wL, hwL⟩ : ∃ wL, wL = ((w.alloc (.cells #[.slice none 0 0] 81)).alloc (.cells #[.int .i64 0] 3)).alloc (.cells #[.slice A N c] 22) := ⟨_, rfl⟩
  rw [← hwL]
  have hsz : wL.heap.size = w.heap.size + 3 := by rw [hwL]; simp
  have hbL : Below w.heap.size w wL := by rw [hwL]; exact (((Below.refl _ w).alloc (Nat.le_refl _) _).alloc (by simp) _).alloc (by simp; omega) _
  have hx0 : wL.heap[w.heap.size]? = some (.cells #[.slice none 0 0] 81 (0, 0)) := by
    rw [hwL]; exact heap_below (heap_new1 w _ _) ((Below.refl _ _).alloc (Nat.le_refl _) _)
  have hx1 : wL.heap[w.heap.size + 1]? = some (.cells #[.int .i64 0] 3 (0, 0)) := by
    rw [hwL]; exact heap_below (heap_new2 w _ _) ((Below.refl _ _).alloc (Nat.le_refl _) _)
  have hx2 : wL.heap[w.heap.size + 1 + 1]? = some (.cells #[.slice A N c] 22 (0, 0)) := by
    rw [hwL]
    have := heap_alloc_new ((w.alloc (.cells #[.slice none 0 0] 81)).alloc (.cells #[.int .i64 0] 3)) (.cells #[.slice A N c] 22)
    rw [show ((w.alloc (.cells #[.slice none 0 0] 81)).alloc (.cells #[.int .i64 0] 3)).heap.size = w.heap.size + 1 + 1 by simp] at this
    exact this
  clear hwL
  have hsL := hs.below hbL
  refine rangeG (F := Fence.wide) rfl (by decide) (gf := 126) (lb := #[.pointer (some ⟨w.heap.size + 1 + 1, 0, none⟩)]) rfl trivial (enters_of Try.func126 (by kernel_rfl) rfl)
    (encs := Yl.enc) (Kp := KpB (w.heap.size + 3) [w.heap.size, w.heap.size + 1]) (G := Gd l) (S := fun xs => xs.map Yl.pj = placedF 0 (scanF l).1) (Sp := fun _ => True) (w0 := wL)
    ?seq (fun h k => h.trans k) (fun W l o o' h1 h2 h3 h4 => KpB.putObj W o' (by rw [hsz] at h1; exact h1)) (Below.refl _ _) (fun _ => rfl) (fun xs V => ScI w V xs) (fun _ _ _ => False) (fun s A B h k => h.nc (hsz ▸ k)) (fun _ _ _ _ h _ => h)
    ⟨⟨_, ⟨⟨rfl, .inl ⟨rfl, rfl⟩⟩, by simp, by simp⟩, hx0⟩, hx1, hbL, by omega⟩
    (fun pre x a' W => ∃ Bx, a' = { tmps := #[.slice A N c, undef, .slice none 0 0, .int .i64 0, .int .i64 0, .pointer (some ⟨w.heap.size, 0, none⟩), .pointer (some ⟨w.heap.size + 1, 0, none⟩), .int .i64 x.at_, .pointer (some ⟨Bx, 0, none⟩), undef, undef, undef, .slice A N c, .func (.func 126) #[] #[.pointer (some ⟨w.heap.size + 1 + 1, 0, none⟩)], .int .i64 x.at_, .agg #[.int .u8 (x.k.toNat : Int), .slice (some ⟨x.g, 0, none⟩) x.p.length x.p.length], undef, undef, undef, undef, undef, undef, undef, undef, undef, undef, undef, undef, undef, undef, undef, undef, undef, undef, undef, undef, undef], defers := [] } ∧ ScA w l Bx pre x W)
    (fun pre x a' V V' ⟨Bx, h1, h2⟩ k => ⟨Bx, h1, h2.nc (hsz ▸ k)⟩) ?assign ?body ?done ?stop
  case seq =>
    intro L J Jx W hW hJ hY h0
    have hb2 : Below wL.heap.size wL W := hW
    refine All1_in (3 - 1) (by decide) L (w.heap.size + 1 + 1) (w.heap.size + 3) [w.heap.size, w.heap.size + 1] ⟨by omega, by simp; omega⟩ (Sl.outB hs (by omega) (by simp)) (by omega) J Jx hJ hY W (by have := hb2.size; omega) (hsL.below hb2) (heap_below hx2 hb2) h0
  case assign =>
    intro L pre x W0 W K hI hb hg hK
    have hb3 : Below W.heap.size W (W.alloc (.cells #[.int .u8 (x.k.toNat : Int), .slice (some ⟨x.g, 0, none⟩) x.p.length x.p.length] 70)) := (Below.refl _ W).alloc (Nat.le_refl _) _
    have hA : ScA w l W.heap.size pre x (W.alloc (.cells #[.int .u8 (x.k.toNat : Int), .slice (some ⟨x.g, 0, none⟩) x.p.length x.p.length] 70)) := ⟨heap_alloc_new W _, Nat.le_trans hI.sz hb.size, hI.nc (Nc.of_below (bthen hb hb3)), fun hx => by
      obtain ⟨y, hy, e⟩ := List.mem_map.1 hx
      obtain ⟨v, hv, _⟩ := hI.out
      have h1 := ((hv.rows y hy).lt y.g rfl).2
      have h2 := hg.new
      omega, hg.len, own_below (own_mono hg.own hI.sz) hb3, hg.at_, hg.fits, fun v hv e => by
      obtain ⟨v0, hF, h0⟩ := (hI.nc (Nc.of_below hb)).out
      have h1 := heap_below h0 hb3
      rw [h1] at hv
      have h2 : v0 = v := by simpa using hv
      subst h2
      have := (hF.own.lt _ e).2
      omega⟩
    have HK := Lib.hid hK
    clear hI hb hg hK
    dsimp only [Yl.enc]
    gi_wp2
    exact HK.out _ _ ((KeepsOthers.alloc _ _).from _) (KpB.of_below hb3) ⟨_, rfl, hA⟩
  case body =>
    rintro L pre x a' W ⟨Bx, rfl, hA⟩
    obtain ⟨v, hF, hv⟩ := hA.i.out
    obtain ⟨A1, c1, rfl, _, _⟩ := own_sl hF.own
    have ka0 : W.cell? ⟨w.heap.size, 0, none⟩ = some (.slice A1 pre.length c1) := box_cell hv 0 _ rfl
    have k1 := box_free hv 0
    have kbx := hA.box
    have ken := hA.i.end_
    have kb0 : W.cell? ⟨Bx, 0, none⟩ = some (.int .u8 (x.k.toNat : Int)) := box_cell kbx 0 _ rfl
    have kb1 : W.cell? ⟨Bx, 1, none⟩ = some (.slice (some ⟨x.g, 0, none⟩) x.p.length x.p.length) := box_cell kbx 1 _ rfl
    have kc0 : W.cell? ⟨w.heap.size + 1, 0, none⟩ = some (.int .i64 (sumP pre : Nat)) := box_cell ken 0 _ rfl
    have k5 := box_free hA.i.end_ 0
    have hcount := sumP_count pre
    have hfit := hA.fits
    have hpre : pre.length ≤ 1759218604441 := by omega
    obtain ⟨i0, hi, hz0, hz1, hz2⟩ := info_parts EFr.info
    have HE := Lib.hid (And.intro hi (And.intro hz0 (And.intro hz1 hz2)))
    have HA := Lib.hid (And.intro hA (And.intro hF hv))
    have b1 : Bx ≠ w.heap.size := by have := hA.bxl; omega
    have b2 : Bx ≠ w.heap.size + 1 := by have := hA.bxl; omega
    clear kbx ken hA hF hv hi hz0 hz1 hz2 hcount
    gi_wp2_with (gi_at_builtin; refine Stopped.out ?_)
    refine Stopped.mk (wpListIn_append_own _ rfl (.tmp 16) (.tmp 18) 81 rfl (w.heap.size + 3) 70 i0 _ 2 32 EFr.und HE.out.1 HE.out.2.1 HE.out.2.2.1 HE.out.2.2.2 EFr.zs EFr.pos _ _ _ rfl (own_below HA.out.2.1.own ((Below.refl _ W).alloc (Nat.le_refl _) _)) ⟨W.heap.size, 0, none⟩ 1 1 [.int .u8 (x.k.toNat : Int), .slice (some ⟨x.g, 0, none⟩) x.p.length x.p.length] rfl rfl (new_two W _ _ _) (by simp [Value.oneCell']) (by simp only [maxLen]; omega) (by omega) (by have := HA.out.1.i.sz; simp; omega) ?_)
    intro v' w1 ho' hgrow' _
    have hgrow : (W.alloc (.cells #[.int .u8 (x.k.toNat : Int), .slice (some ⟨x.g, 0, none⟩) x.p.length x.p.length] 70)).grownBy w1 (Value.slice A1 pre.length c1).ownBlock := hgrow'
    clear hgrow'
    obtain ⟨A2, c2, rfl, _, _⟩ := own_sl ho'
    have kM : Keep ([w.heap.size, w.heap.size + 1] ++ (Value.slice A1 pre.length c1).ownBlock.toList) W w1 := ((Keep.refl _ W).alloc _).grown hgrow (fun k e => .inl (by simp [e]))
    have hMge : ∀ y ∈ (Value.slice A1 pre.length c1).ownBlock.toList, w.heap.size + 3 ≤ y := fun y hy => ((HA.out.2.1.own.lt y (by simpa using hy)).1)
    have kR : Keep (Value.slice A1 pre.length c1).ownBlock.toList W w1 := ((Keep.refl _ W).alloc _).grown hgrow (fun k e => .inl (by simp [e]))
    have hv1 := kR.heap HA.out.2.2 (fun hx => by have := hMge _ hx; omega)
    have he1 := kR.heap HA.out.1.i.end_ (fun hx => by have := hMge _ hx; omega)
    have hb1 := kR.heap HA.out.1.box (fun hx => HA.out.1.apart _ HA.out.2.2 (by simpa using hx))
    have kd0 : w1.cell? ⟨w.heap.size, 0, none⟩ = some (.slice A1 pre.length c1) := box_cell hv1 0 _ rfl
    have ke0 : w1.cell? ⟨Bx, 0, none⟩ = some (.int .u8 (x.k.toNat : Int)) := box_cell hb1 0 _ rfl
    have ke1 : w1.cell? ⟨Bx, 1, none⟩ = some (.slice (some ⟨x.g, 0, none⟩) x.p.length x.p.length) := box_cell hb1 1 _ rfl
    have kf0 : w1.cell? ⟨w.heap.size + 1, 0, none⟩ = some (.int .i64 (sumP pre : Nat)) := box_cell he1 0 _ rfl
    have kg := box_free hv1 0
    have kh := box_free he1 0
    have h63 : x.at_ ≤ 17592186044416 := by have := HA.out.1.at_; omega
    have hpl := HA.out.1.len
    have HB := Lib.hid (And.intro ho' (And.intro kR (And.intro hMge (And.intro hv1 he1))))
    clear ho' hgrow kM hMge kR hv1 he1 hb1 ka0 kb0 kb1 kc0 k1 k5
    gi_wp2
    have hend : (x.at_ : Int) + 6 + (x.p.length : Int) + 4 = ((sumP (pre ++ [x]) : Nat) : Int) := by have := HA.out.1.at_; rw [sumP_snoc]; omega
    rw [hend]
    have q0 := heap_setCell_same w1 w.heap.size 0 _ _ (.slice A2 (pre.length + 1) c2) HB.out.2.2.2.1
    have q1 := heap_setCell_same _ (w.heap.size + 1) 0 _ _ (.int .i64 ((sumP (pre ++ [x]) : Nat) : Int)) (((Keep.refl [w.heap.size] w1).setCell (p := ⟨w.heap.size, 0, none⟩) (.inl (by simp)) (.slice A2 (pre.length + 1) c2)).heap HB.out.2.2.2.2 (by simp))
    have q2 := ((Keep.refl [w.heap.size + 1] (w1.setCell ⟨w.heap.size, 0, none⟩ (.slice A2 (pre.length + 1) c2))).setCell (p := ⟨w.heap.size + 1, 0, none⟩) (.inl (by simp)) (.int .i64 ((sumP (pre ++ [x]) : Nat) : Int))).heap q0 (by simp)
    have kS : Keep [w.heap.size, w.heap.size + 1] w1 ((w1.setCell ⟨w.heap.size, 0, none⟩ (.slice A2 (pre.length + 1) c2)).setCell ⟨w.heap.size + 1, 0, none⟩ (.int .i64 ((sumP (pre ++ [x]) : Nat) : Int))) :=
      ((Keep.refl _ w1).setCell (p := ⟨w.heap.size, 0, none⟩) (.inl (by simp)) _).setCell (p := ⟨w.heap.size + 1, 0, none⟩) (.inl (by simp)) _
    obtain ⟨W', hW'⟩ : ∃ W', W' = (w1.setCell ⟨w.heap.size, 0, none⟩ (.slice A2 (pre.length + 1) c2)).setCell ⟨w.heap.size + 1, 0, none⟩ (.int .i64 ((sumP (pre ++ [x]) : Nat) : Int)) := ⟨_, rfl⟩
    rw [← hW'] at q1 q2 kS ⊢
    obtain ⟨ho', kR, hMge, _, _⟩ := HB.out
    obtain ⟨hA, hF, hv⟩ := HA.out
    have kW : Keep ((Value.slice A1 pre.length c1).ownBlock.toList ++ [w.heap.size, w.heap.size + 1]) W W' := (kR.mono (by intro y hy; simp at hy ⊢; simp [hy])).trans (kS.mono (by intro y hy; simp at hy ⊢; simp [hy]))
    have hM : ∀ y ∈ (Value.slice A1 pre.length c1).ownBlock.toList ++ [w.heap.size, w.heap.size + 1], w.heap.size ≤ y := fun y hy => by
      rcases List.mem_append.1 hy with h | h
      · have := hMge y h; omega
      · simp at h; omega
    have hrow : ∀ {B n : Nat} {g : Nat} {xs : List Value}, W.ownsRow B 5 1 (.slice (some ⟨g, 0, none⟩) n n) n xs → w.heap.size + 3 ≤ g → W'.ownsRow B 5 1 (.slice (some ⟨g, 0, none⟩) n n) n xs := fun {B n g xs} o hg => kW.own o (fun k hk hx => by
      rcases List.mem_append.1 hx with h | h
      · exact own_types o hF.own (by decide) hk (by simpa using h)
      · have : g = k := Option.some.inj hk
        simp at h; omega)
    refine ⟨keeps_of kW (fun y hy => ?_), kpb_of kW (fun y hy => ?_), ⟨⟨_, ⟨?_, ?_, ?_⟩, q2⟩, q1, kW.below hA.i.below hA.i.below.size hM, Nat.le_trans hA.i.sz kW.size⟩⟩
    · rcases List.mem_append.1 hy with h | h
      · rcases hF.own.2 with ⟨h1, _⟩ | ⟨g, cap, cur, h1, _, h3, _⟩
        · rw [h1] at h; simp [Value.ownBlock] at h
        · rw [h1] at h; simp [Value.ownBlock] at h; subst h; exact ⟨_, _, _, h3⟩
      · simp at h
        rcases h with rfl | rfl
        · exact ⟨_, _, _, hv⟩
        · exact ⟨_, _, _, hA.i.end_⟩
    · rcases List.mem_append.1 hy with h | h
      · exact .inr (hMge y h)
      · exact .inl h
    · rw [frameL_snoc, List.length_append]
      exact kS.own ho' (fun k hk hx => by have := (ho'.lt k hk).1; simp at hx; omega)
    · intro y hy
      rcases List.mem_append.1 hy with h | h
      · exact hrow (hF.rows y h) ((hF.rows y h).lt y.g rfl).1
      · simp at h
        subst h
        exact hrow hA.own (hA.own.lt y.g rfl).1
    · rw [List.map_append, List.nodup_append]
      refine ⟨hF.nodup, by simp, fun a ha b hb e => ?_⟩
      simp at hb
      subst hb
      subst e
      exact hA.new ha
  case done =>
    rintro D xs W hD hS hI hK
    obtain ⟨v, hF, hv⟩ := hI.out
    obtain ⟨A1, c1, rfl, _, _⟩ := own_sl hF.own
    have hend := sumP_scan hS
    have hse := scan_end _ l 0 (Nat.le_refl _) (Nat.zero_le _)
    simp only [List.drop_zero, Nat.zero_add] at hse
    have hw := whole_any W (hs.below hI.below) ((scanF l).2.1 : Int) (by omega)
    have ken := hI.end_
    rw [hend] at ken
    have ka0 : W.cell? ⟨w.heap.size, 0, none⟩ = some (.slice A1 xs.length c1) := box_cell hv 0 _ rfl
    have kb0 : W.cell? ⟨w.heap.size + 1, 0, none⟩ = some (.int .i64 ((scanF l).2.1 : Nat)) := box_cell ken 0 _ rfl
    obtain ⟨⟨k, p, nx, t2⟩, hR2⟩ : ∃ R, R = wholeF l ((scanF l).2.1 : Int) := ⟨_, rfl⟩
    rw [← hR2] at hw hse
    obtain rfl : t2 = (scanF l).2.2 := hse.2
    have HW : Hid (Calls Try.prog 92 #[.slice A N c, .int .i64 ((scanF l).2.1 : Int)] W fun e w' => ∃ P pc, e = .returned (.tuple #[.agg #[.int .u8 (k.toNat : Int), .slice P p.length pc], .int .i64 nx, .int .i64 ((scanF l).2.2 : Int)]) ∧ Below W.heap.size W w') := Lib.hid (hw.mono (fun e w' ⟨P, pc, h1, _, h3⟩ => ⟨P, pc, h1, h3⟩))
    have HI := Lib.hid (And.intro hI (And.intro hF (And.intro hS (And.intro hD hK))))
    clear hw hR2 hse hend hI hF hS hD hK hv ken
    obtain ⟨en, hen⟩ : ∃ e, e = (scanF l).2.1 := ⟨_, rfl⟩
    obtain ⟨ta, hta⟩ : ∃ e, e = (scanF l).2.2 := ⟨_, rfl⟩
    rw [← hen] at kb0 HW
    rw [← hta] at HW
    have HN := Lib.hid (And.intro hen hta)
    clear hen hta
    gi_wp2_with (first
      | (refine ⟨trivial, ?_⟩; gi_at_call 92; refine (callsIn_wide.2 HW.out).mono ?_; rintro e w3 ⟨P, pc, rfl, hb3⟩; have kc := cell_below ka0 hb3; have kd := cell_below kb0 hb3))
    have ke := cell_al kc (.cells #[.int .u8 (k.toNat : Int), .slice P p.length pc] 70)
    have kf := cell_al kd (.cells #[.int .u8 (k.toNat : Int), .slice P p.length pc] 70)
    have HB := Lib.hid (show Below W.heap.size W (w3.alloc (.cells #[.int .u8 (k.toNat : Int), .slice P p.length pc] 70)).drew from (bthen hb3 ((Below.refl _ _).alloc (Nat.le_refl _) _)).drew)
    clear kc kd ka0 kb0 hb3
    gi_region
    all_goals gi_wp2
    obtain ⟨hI, hF, hS, hD, hK⟩ := HI.out
    have hK2 := (HB.out.block D (Array.getElem?_eq_some_iff.1 hK).1).trans hK
    obtain ⟨W4, hW4⟩ : ∃ W4, W4 = (w3.alloc (.cells #[.int .u8 (k.toNat : Int), .slice P p.length pc] 70)).drew := ⟨_, rfl⟩
    have hB4 := HB.out
    rw [← hW4] at hK2 hB4 ⊢
    refine ⟨by simp, .inl ⟨_, _, rfl, run_takeDeferred hK2, ?_⟩⟩
    have hnc : Nc (w.heap.size + 3) W (W4.putObj D (.deferred none)) := (Nc.of_below hB4).trans (Nc.putObj _ _ hK2 rfl (by omega))
    refine ⟨.tuple #[.slice A1 xs.length c1, .int .i64 (en : Int), .int .i64 (ta : Int)], by simp [results, Try.f52], xs, _, by rw [HN.out.1, HN.out.2], hS, ?_, below_nc hI.below hnc (by omega) (Nat.le_refl _)⟩
    have hF2 := hF.nc hnc
    exact ⟨own_mono hF2.own (by omega), fun x hx => own_mono (hF2.rows x hx) (by omega), hF2.nodup⟩
  case stop =>
    rintro D cc pre W _ _ h _
    exact h.elim
end Go.Proofs.Ytpjmbhhfpoamnaa
