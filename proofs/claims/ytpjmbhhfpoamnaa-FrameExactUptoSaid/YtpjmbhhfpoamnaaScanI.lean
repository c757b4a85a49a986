import Derived.Test.YtpjmbhhfpoamnaaPlay13
import Derived.Test.YtpjmbhhfpoamnaaRef13e
import Derived.Test.YtpjmbhhfpoamnaaFrBack
import Derived.Test.YtpjmbhhfpoamnaaQuietNd
import Derived.Test.YtpjmbhhfpoamnaaFrRange2
set_option linter.unusedVariables false
set_option linter.unusedSimpArgs false
namespace Go.Proofs.Ytpjmbhhfpoamnaa
open Go.RowKit Go.Shelf
/-! ### what stays and what goes on while frames are gone over -/
theorem Keep.nc {M : List Nat} {U V V' : World} (h : Keep M U V) (k : Nc U.heap.size V V') : Keep M U V' :=
  ⟨k.os.trans h.os, k.tape.trans h.tape, k.output.trans h.output, Nat.le_trans h.size k.size, fun x hx hm => by
    have h1 := h.block x hx hm
    have h2 : U.heap[x]? = some U.heap[x] := Array.getElem?_eq_getElem hx
    rw [h2] at h1 ⊢
    exact k.block x _ h1 (.inr hx)⟩
theorem Nc.cell {B : Nat} {w w' : World} (h : Nc B w w') {a : Addr} {v : Value} (hc : w.cell? a = some v) : w'.cell? a = some v := by
  have hlt := cell_lt hc
  have h2 : w.heap[a.block]? = some w.heap[a.block] := Array.getElem?_eq_getElem hlt
  cases ho : w.heap[a.block] with
  | cells cs t fr =>
    rw [ho] at h2
    have h3 := h.heap h2
    simp only [World.cell?] at hc ⊢
    rw [h2] at hc
    rw [h3]
    exact hc
  | _ =>
    rw [ho] at h2
    simp only [World.cell?] at hc
    rw [h2] at hc
    simp at hc
theorem Nc.sl {B sz : Nat} {w w' : World} (h : Nc B w w') {A : Option Addr} {n c : Nat} {vs : List Value} (s : Sl w sz A n c vs) : Sl w' sz A n c vs :=
  ⟨s.len, s.le, s.max, s.nil, fun ad e hp => ⟨(s.at_ ad e hp).1, fun i hi => h.cell ((s.at_ ad e hp).2 i hi)⟩⟩
theorem Shf.nc {W w w' : World} {p : Nat} {G : List Nat} {vs ws : List Value} {ls : List (List UInt8)} {N C : Nat} (h : Shf W w p G vs ws ls N) (k : Nc C w w') (hC : W.heap.size ≤ C) : Shf W w' p G vs ws ls N := by
  obtain ⟨vL, vW, hb, oL, oW, g1, g2, g3, g4⟩ := h.out
  refine ⟨⟨vL, vW, k.heap hb, k.own oL, k.own oW, g1, g2, g3, fun i l hl => ?_⟩, ⟨h.many.len, fun i v l hv hl => k.own (h.many.own i v l hv hl), h.many.apart, h.many.out⟩, h.wl, below_nc h.below k hC (Nat.le_refl _), h.pl, h.mem, fun x hx => Nat.lt_of_lt_of_le (h.lts x hx) k.size, h.ml⟩
  obtain ⟨A, c, e, s, hA⟩ := g4 i l hl
  exact ⟨A, c, e, k.sl s, hA⟩
/-- the boxes of scans, and the document's frames -/
structure CM (B0 bn p : Nat) (o1 : Array Value) (b3 b4 : Nat) (vl vm : Value) (ys : List Rl) (V : World) : Prop where
  x0 : V.heap[B0]? = some (.cells #[.pointer (some ⟨p, 0, none⟩)] 88 (0, 0))
  x1 : V.heap[B0 + 1]? = some (.cells o1 92 (0, 0))
  x2 : V.heap[B0 + 1 + 1]? = some (.cells #[.bool false] 4 (0, 0))
  x3 : V.heap[b3]? = some (.cells #[vl] 81 (0, 0))
  x4 : V.heap[b4]? = some (.cells #[vm] 81 (0, 0))
  lo : B0 + 1 + 1 < b3 ∧ b3 < b4 ∧ b4 < bn
  fm : FrR V b3 vm ys
  hfm : ∀ b, vm.ownBlock = some b → b < bn
  hys : ∀ y ∈ ys, ∀ b, (Value.slice y.A y.p.length y.c).ownBlock = some b → b < bn
variable {B0 bn p : Nat} {o1 : Array Value} {b3 b4 : Nat} {vl vm : Value} {ys : List Rl} {V V' : World} {M : List Nat} {xs : List Yl}
theorem CM.keep3 (h : CM B0 bn p o1 b3 b4 vl vm ys V) (k : Keep M V V') (hM : ∀ x ∈ M, x < B0 ∨ bn ≤ x ∨ (B0 + 1 + 1 < x ∧ x < b3)) : CM B0 bn p o1 b3 b4 vl vm ys V' := by
  obtain ⟨l1, l2, l3⟩ := h.lo
  exact ⟨k.heap h.x0 (fun hx => by have := hM _ hx; omega), k.heap h.x1 (fun hx => by have := hM _ hx; omega), k.heap h.x2 (fun hx => by have := hM _ hx; omega), k.heap h.x3 (fun hx => by have := hM _ hx; omega), k.heap h.x4 (fun hx => by have := hM _ hx; omega), h.lo,
    ⟨k.own h.fm.own (fun b hb hx => by have h1 := (h.fm.own.lt b hb).1; have h2 := h.hfm b hb; have := hM b hx; omega), fun y hy => k.own (h.fm.rows y hy) (fun b hb hx => by have h1 := ((h.fm.rows y hy).lt b hb).1; have h2 := h.hys y hy b hb; have := hM b hx; omega)⟩, h.hfm, h.hys⟩
theorem CM.keep (h : CM B0 bn p o1 b3 b4 vl vm ys V) (k : Keep M V V') (hM : ∀ x ∈ M, x < B0 ∨ bn ≤ x) : CM B0 bn p o1 b3 b4 vl vm ys V' := h.keep3 k (fun x hx => (hM x hx).imp id .inl)
theorem CM.below (h : CM B0 bn p o1 b3 b4 vl vm ys V) (k : Below V.heap.size V V') : CM B0 bn p o1 b3 b4 vl vm ys V' := h.keep (Keep.of_below k []) (by simp)
/-- frames of the program, all between two marks of memory -/
structure FL (B0 bn : Nat) (vl : Value) (xs : List Yl) (V : World) : Prop where
  fl : Frs V B0 vl xs
  hfl : ∀ b, vl.ownBlock = some b → b < bn
  hxs : ∀ x ∈ xs, x.g < bn
theorem FL.keep (h : FL B0 bn vl xs V) (k : Keep M V V') (hM : ∀ x ∈ M, x < B0 ∨ bn ≤ x) : FL B0 bn vl xs V' :=
  ⟨⟨k.own h.fl.own (fun b hb hx => by have h1 := (h.fl.own.lt b hb).1; have h2 := h.hfl b hb; have := hM b hx; omega), fun y hy => k.own (h.fl.rows y hy) (fun b hb hx => by
    have h1 := ((h.fl.rows y hy).lt b hb).1
    have e : y.g = b := Option.some.inj hb
    have h2 := h.hxs y hy
    have := hM b hx; omega), h.fl.nodup⟩, h.hfl, h.hxs⟩
theorem FL.below (h : FL B0 bn vl xs V) (k : Below V.heap.size V V') : FL B0 bn vl xs V' := h.keep (Keep.of_below k []) (by simp)
theorem at_placed {pre : List Yl} {x : Yl} {rest : List (Nat × UInt8 × List UInt8)} {fs : List (UInt8 × List UInt8)} (h : (pre ++ [x]).map Yl.pj ++ rest = placedF 0 fs) : pre.length < fs.length ∧ fs[pre.length]? = some (x.k, x.p) := by
  have h2 := congrArg (List.map fun x : Nat × UInt8 × List UInt8 => (x.2.1, x.2.2)) h
  rw [placedF_map] at h2
  have h3 : fs[pre.length]? = some (x.k, x.p) := by
    rw [← h2]
    simp [Yl.pj]
  exact ⟨(List.getElem?_eq_some_iff.1 h3).1, h3⟩
theorem kp_get {ys : List Rl} {fs : List (UInt8 × List UInt8)} (h : ys.map Rl.kp = fs) {i : Nat} {kk : UInt8} {pp : List UInt8} (hp : fs[i]? = some (kk, pp)) : ∃ y, ys[i]? = some y ∧ y.k = kk ∧ y.p = pp := by
  rw [← h, List.getElem?_map] at hp
  cases hx : ys[i]? with
  | none => rw [hx] at hp; cases hp
  | some y =>
    rw [hx] at hp
    have := Option.some.inj hp
    exact ⟨y, rfl, congrArg Prod.fst this, congrArg Prod.snd this⟩
theorem frameR_get : ∀ (xs : List Rl) (i : Nat) (x : Rl), xs[i]? = some x → (frameR xs)[i * 2]? = some (.int .u8 (x.k.toNat : Int)) ∧ (frameR xs)[i * 2 + 1]? = some (.slice x.A x.p.length x.c)
  | [], i, x, h => by simp at h
  | y :: r, 0, x, h => by
    have : y = x := by simpa using h
    subst this
    exact ⟨rfl, rfl⟩
  | y :: r, i + 1, x, h => by
    have h2 := frameR_get r i x (by simpa using h)
    have e : frameR (y :: r) = .int .u8 (y.k.toNat : Int) :: .slice y.A y.p.length y.c :: frameR r := rfl
    rw [e, show (i + 1) * 2 = i * 2 + 1 + 1 by omega, show i * 2 + 1 + 1 + 1 = (i * 2 + 1) + 1 + 1 by omega]
    simpa using h2
/-- the cells of a frame at its place -/
theorem two_at {V : World} {b off n c : Nat} {vs : List Value} (s : Sl V 2 (some ⟨b, off, none⟩) n c vs) {i : Nat} {u v : Value} (h1 : vs[i * 2]? = some u) (h2 : vs[i * 2 + 1]? = some v) : V.cell? ⟨b, off + i * 2, none⟩ = some u ∧ V.cell? ⟨b, off + i * 2 + 1, none⟩ = some v := by
  obtain ⟨k1, e1⟩ := List.getElem?_eq_some_iff.1 h1
  obtain ⟨k2, e2⟩ := List.getElem?_eq_some_iff.1 h2
  have a1 := s.cell (i * 2) k1
  have a2 := s.cell (i * 2 + 1) k2
  rw [e1] at a1
  rw [e2, ← Nat.add_assoc] at a2
  exact ⟨a1, a2⟩
theorem FL.at (h : FL B0 bn vl xs V) {A : Option Addr} {n c i : Nat} (hv : vl = .slice A n c) {b off : Nat} (hA : A = some ⟨b, off, none⟩) {x : Yl} (hx : xs[i]? = some x) : V.cell? ⟨b, off + i * 2, none⟩ = some (.int .u8 (x.k.toNat : Int)) ∧ V.cell? ⟨b, off + i * 2 + 1, none⟩ = some (.slice (some ⟨x.g, 0, none⟩) x.p.length x.p.length) ∧ Sl V 1 (some ⟨x.g, 0, none⟩) x.p.length x.p.length (x.p.map by8) := by
  subst hv; subst hA
  have s := (own_sl' h.fl.own).2.1
  obtain ⟨g1, g2⟩ := frameL_get xs i x hx
  obtain ⟨c1, c2⟩ := two_at s g1 g2
  exact ⟨c1, c2, (own_sl' (h.fl.rows x (List.mem_of_getElem? hx))).2.1⟩
theorem CM.at (h : CM B0 bn p o1 b3 b4 vl vm ys V) {A : Option Addr} {n c i : Nat} (hv : vm = .slice A n c) {b off : Nat} (hA : A = some ⟨b, off, none⟩) {y : Rl} (hy : ys[i]? = some y) : V.cell? ⟨b, off + i * 2, none⟩ = some (.int .u8 (y.k.toNat : Int)) ∧ V.cell? ⟨b, off + i * 2 + 1, none⟩ = some (.slice y.A y.p.length y.c) ∧ Sl V 1 y.A y.p.length y.c (y.p.map by8) := by
  subst hv; subst hA
  have s := (own_sl' h.fm.own).2.1
  obtain ⟨g1, g2⟩ := frameR_get ys i y hy
  obtain ⟨c1, c2⟩ := two_at s g1 g2
  exact ⟨c1, c2, (own_sl' (h.fm.rows y (List.mem_of_getElem? hy))).2.1⟩
/-- between two rounds -/
structure SI (W U : World) (p bn ba v0 N : Nat) (G : List Nat) (l : List UInt8) (pre : List Yl) (V : World) : Prop where
  keep : Keep (G ++ [bn, ba]) U V
  nbox : V.heap[bn]? = some (.cells #[.int .i64 (pre.length : Nat)] 3 (0, 0))
  abox : V.heap[ba]? = some (.cells #[.int .i64 (sumP pre : Nat)] 3 (0, 0))
  sh : ∃ G' vs' ws' ls', Shf W V p G' vs' ws' ls' N ∧ vs'.length = v0 + pre.length ∧ ∀ x ∈ G', x ∈ G ∨ U.heap.size ≤ x
  of : ∃ rest, pre.map Yl.pj ++ rest = placedF 0 (scanF l).1
theorem SI.nc {W U : World} {p bn ba v0 N : Nat} {G : List Nat} {l : List UInt8} {pre : List Yl} {V V' : World} (h : SI W U p bn ba v0 N G l pre V) (k : Nc U.heap.size V V') (hW : W.heap.size ≤ U.heap.size) : SI W U p bn ba v0 N G l pre V' := by
  obtain ⟨G', vs', ws', ls', h1, h2, h3⟩ := h.sh
  exact ⟨h.keep.nc k, k.heap h.nbox, k.heap h.abox, ⟨G', vs', ws', ls', h1.nc k hW, h2, h3⟩, h.of⟩
/-- in a round -/
structure AI (W U : World) (p bn ba v0 N : Nat) (G : List Nat) (l : List UInt8) (pre : List Yl) (x : Yl) (Bx : Nat) (V : World) : Prop where
  keep : Keep (G ++ [bn, ba]) U V
  nbox : V.heap[bn]? = some (.cells #[.int .i64 (pre.length : Nat)] 3 (0, 0))
  abox : V.heap[ba]? = some (.cells #[.int .i64 (sumP pre : Nat)] 3 (0, 0))
  box : V.heap[Bx]? = some (.cells #[.int .u8 (x.k.toNat : Int), .slice (some ⟨x.g, 0, none⟩) x.p.length x.p.length] 70 (0, 0))
  bxl : U.heap.size ≤ Bx
  sh : ∃ G' vs' ws' ls', Shf W V p G' vs' ws' ls' N ∧ vs'.length = v0 + pre.length ∧ (∀ x ∈ G', x ∈ G ∨ U.heap.size ≤ x) ∧ Bx ∉ G' ∧ x.g ∉ G'
  new : U.heap.size ≤ x.g
  own : V.ownsRow U.heap.size 5 1 (.slice (some ⟨x.g, 0, none⟩) x.p.length x.p.length) x.p.length (x.p.map by8)
  len : x.p.length ≤ 262144
  at_ : x.at_ = sumP pre
  fits : sumP pre + (x.p.length + 10) ≤ l.length
  of : ∃ rest, (pre ++ [x]).map Yl.pj ++ rest = placedF 0 (scanF l).1
theorem AI.nc {W U : World} {p bn ba v0 N : Nat} {G : List Nat} {l : List UInt8} {pre : List Yl} {x : Yl} {Bx : Nat} {V V' : World} (h : AI W U p bn ba v0 N G l pre x Bx V) (k : Nc U.heap.size V V') (hW : W.heap.size ≤ U.heap.size) : AI W U p bn ba v0 N G l pre x Bx V' := by
  obtain ⟨G', vs', ws', ls', h1, h2, h3⟩ := h.sh
  exact ⟨h.keep.nc k, k.heap h.nbox, k.heap h.abox, k.heap h.box, h.bxl, ⟨G', vs', ws', ls', h1.nc k hW, h2, h3⟩, h.new, k.own h.own, h.len, h.at_, h.fits, h.of⟩
/-- a round begins: the frame's box is laid -/
theorem SI.box {W U : World} {p bn ba v0 N : Nat} {G : List Nat} {l : List UInt8} {pre : List Yl} {x : Yl} {V0 V : World} (h : SI W U p bn ba v0 N G l pre V0) (hb : Below V0.heap.size V0 V) (hg : Gd l pre x V0 V) :
    AI W U p bn ba v0 N G l pre x V.heap.size (V.alloc (.cells #[.int .u8 (x.k.toNat : Int), .slice (some ⟨x.g, 0, none⟩) x.p.length x.p.length] 70)) := by
  have h2 := hb.size
  have h1 := h.keep.size
  have hb2 : Below V0.heap.size V0 (V.alloc (.cells #[.int .u8 (x.k.toNat : Int), .slice (some ⟨x.g, 0, none⟩) x.p.length x.p.length] 70)) := bthen hb ((Below.refl _ _).alloc (Nat.le_refl _) _)
  obtain ⟨G', vs', ws', ls', s1, s2, s3⟩ := h.sh
  have hn := hg.new
  exact ⟨h.keep.trans (Keep.of_below hb2 _), heap_below h.nbox hb2, heap_below h.abox hb2, heap_alloc_new _ _, by omega, ⟨G', vs', ws', ls', s1.then_ hb2, s2, s3, fun hx => by have := s1.lts _ hx; omega, fun hx => by have := s1.lts _ hx; omega⟩, by omega, own_mono (own_below hg.own ((Below.refl _ _).alloc (Nat.le_refl _) _)) h1, hg.len, hg.at_, hg.fits, hg.of⟩
end Go.Proofs.Ytpjmbhhfpoamnaa
