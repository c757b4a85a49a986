import Derived.Test.YtikjhandhgfohaaRows
import Derived.Test.YtikjhandhgfohaaPre
import Derived.OpenShut
import Derived.ShutString
import Derived.ChangeOld
import Derived.SizedLaws
import Derived.JoinedCond
import Derived.Deep.Fields
import Derived.Deep.CondSized
set_option linter.unusedVariables false
set_option linter.unusedSimpArgs false
namespace Go.Proofs.Ytikjhandhgfohaa
open Go.ChangeShapes Go.WideShapes Go.ChangeAt Go.RowKit
open Go.ChangeMaps (open_string shut_string)
open Go.Deep (oneCellFields hone_of)

theorem own : ownKnob Try.prog.godebug = none := by kernel_rfl
theorem laidOut : laidOutB Try.prog = true := by kernel_rfl
theorem u8_of {n : Int} (h : (Lit.int .u8 n).wf = true) : Value.int .u8 n = by8 (UInt8.ofNat n.toNat) := by
  have hx : 0 ≤ n ∧ n ≤ 255 := by simpa [Lit.wf, IntKind.min, IntKind.max, IntKind.signed, IntKind.bits] using h
  unfold by8
  rw [UInt8.toNat_ofNat']
  congr 1
  omega
/-- bytes that came in -/
theorem open_bytes {H : Type} {enc : TypeId × Value → H} {P : Program} {w : World} {t e : TypeId} {a : Option Addr} {len cap : Nat} {d : DataW H} {ps : List MemPlace} (ht : P.underlying t = some (.slice e)) (he : P.underlying e = some (.int .u8)) (hc : P.cellsOf e = 1)
    (h : DataW.Trod enc P w 0 (fun _ => true) true t (.slice a len cap) d ps) :
    ∃ l : List UInt8, Sl w 1 a len cap (l.map by8) ∧ ((a = none ∧ len = 0 ∧ d = .nil) ∨ ∃ es sp, d = .slice es sp ∧ es.length + sp.length = cap) := by
  obtain ⟨fuel, hf⟩ := h
  rcases open_ints ht he hc hf with ⟨hcs, hx⟩ | ⟨x, l, c, zs, hcs, _, hl, hm, hz, hx, hcell, hwz⟩
  · simp [Value.cells] at hcs
    obtain ⟨rfl, rfl, rfl⟩ := hcs
    exact ⟨[], by simpa using Sl.nilS w 1, .inl ⟨rfl, rfl, by injection hx⟩⟩
  · simp [Value.cells] at hcs
    obtain ⟨rfl, rfl, rfl⟩ := hcs
    simp only [if_true] at hz
    refine ⟨(zs.take len).map fun n => UInt8.ofNat n.toNat, ⟨by simp; omega, hl, by simpa [maxLen] using hm, (fun e => by cases e), fun ad e hp => ?_⟩, .inr ⟨_, _, by injection hx, by simp [lits, hz]; omega⟩⟩
    obtain rfl := Option.some.inj e
    have hlen : 0 < len := by simp at hp; omega
    have hspot : x.spot = none := by
      have h0 := hcell 0 (by omega)
      have : x.add 0 = x := by simp [Addr.add]
      rw [this] at h0
      exact World.cell?_spot h0
    refine ⟨hspot, fun i hi => ?_⟩
    have hi2 : i < len := by simp at hi; omega
    have h1 := hcell i (by omega)
    have e1 : x.add i = ⟨x.block, x.off + i, none⟩ := by
      unfold Addr.add
      split
      · rename_i h; subst h; cases x; simp_all
      · rfl
    rw [e1] at h1
    rw [h1]
    simp only [List.getElem_map, List.getElem_take]
    rw [← u8_of (hwz _ (List.getElem_mem (by omega)))]
    simp [show i < zs.length by omega]
theorem bytes_reach {H : Type} {P : Program} {ts : List TypeId} {ds : List (DataW H)} {j : Nat} {t e : TypeId} {a : Option Addr} {len cap : Nat} {d : DataW H} (h : (DataW.weightsEach P ts ds).all (· ≤ reachBytes) = true) (ht : ts[j]? = some t) (hd : ds[j]? = some d) (hu : P.underlying t = some (.slice e)) (hb : P.bytesOf e = 1)
    (hle : len ≤ cap) (hk : (a = none ∧ len = 0 ∧ d = .nil) ∨ ∃ es sp, d = .slice es sp ∧ es.length + sp.length = cap) : len ≤ 140737488351232 := by
  rcases hk with ⟨_, rfl, _⟩ | ⟨es, sp, rfl, hl⟩
  · omega
  · have := sized_slice h ht hd hu
    rw [hb, hl] at this
    have : cap * 1 ≤ 140737488351232 := this
    omega

/-! ### what comes in, level by level -/
section
variable {H : Type} {enc : TypeId × Value → H} {P : Program} {w : World}
def T0 (enc : TypeId × Value → H) (P : Program) (w : World) (t : TypeId) (cs : List Value) (d : DataW H) : Prop :=
  ∃ fuel ps, DataW.trod enc P w 0 (fun _ => true) true fuel t cs = some (d, ps)
def Szd (P : Program) (t : TypeId) (d : DataW H) : Prop := ∀ n ∈ d.weights P t, n ≤ 140737488351232
theorem T0.of {t : TypeId} {v : Value} {d : DataW H} {ps : List MemPlace} (h : DataW.Trod enc P w 0 (fun _ => true) true t v d ps) : T0 enc P w t v.cells.toList d :=
  let ⟨f, hf⟩ := h
  ⟨f, ps, hf⟩
theorem Szd.of {ts : List TypeId} {ds : List (DataW H)} {j : Nat} {t : TypeId} {d : DataW H} (h : (DataW.weightsEach P ts ds).all (· ≤ reachBytes) = true) (ht : ts[j]? = some t) (hd : ds[j]? = some d) : Szd P t d := fun n hn => by
  have := List.all_eq_true.1 h _ (DataW.weights_mem_each ht hd n hn)
  have h2 : n ≤ reachBytes := by simpa using this
  exact h2
theorem T0.int {t : TypeId} {cs : List Value} {d : DataW H} {k : IntKind} (h : T0 enc P w t cs d) (ht : P.underlying t = some (.int k)) : ∃ n, cs = [.int k n] ∧ (Lit.int k n).wf = true := by
  obtain ⟨f, ps, hf⟩ := h
  obtain ⟨n, h1, h2, h3⟩ := DataW.trod_int ht hf
  exact ⟨n, h1, h3⟩
theorem T0.bool {t : TypeId} {cs : List Value} {d : DataW H} (h : T0 enc P w t cs d) (ht : P.underlying t = some .bool) : ∃ b, cs = [.bool b] := by
  obtain ⟨f, ps, hf⟩ := h
  obtain ⟨n, h1, h2⟩ := DataW.trod_bool ht hf
  exact ⟨n, h1⟩
theorem T0.str {t : TypeId} {cs : List Value} {d : DataW H} (h : T0 enc P w t cs d) (z : Szd P t d) (ht : P.underlying t = some .string) : ∃ s : ByteArray, cs = [.string s] ∧ s.size ≤ 140737488351232 := by
  obtain ⟨f, ps, hf⟩ := h
  obtain ⟨n, h1, h2, h3⟩ := DataW.trod_string ht hf
  refine ⟨n, h1, z _ ?_⟩
  injection h2 with h2 _
  subst h2
  simp [DataW.weights]
theorem T0.struct {t : TypeId} {cs : List Value} {d : DataW H} {fs : Array Field} (h : T0 enc P w t cs d) (z : Szd P t d) (ht : P.underlying t = some (.struct fs)) (hone : oneCellFields P fs = true) (hC : P.cellsOf t = fs.size) :
    cs.length = fs.size ∧ ∃ ds : List (DataW H), ds.length = fs.size ∧ d = .agg ds ∧ ∀ (j : Nat) (f : Field) (v : Value) (e : DataW H), fs[j]? = some f → cs[j]? = some v → ds[j]? = some e → T0 enc P w f.type [v] e ∧ Szd P f.type e := by
  obtain ⟨fuel, ps, hf⟩ := h
  obtain ⟨xs, n, _, hx, hl, hxl, hfs⟩ := DataW.trod_struct ht hf
  injection hx with hx _
  subst hx
  refine ⟨by rw [hl, hC], xs.map (·.1), by simpa using hxl, rfl, fun j f v e hfj hvj hej => ?_⟩
  obtain ⟨o1, o2⟩ := hone_of hone j f hfj
  have h1 := hfs j f hfj
  rw [o1, o2] at h1
  have h2 : (cs.drop j).take 1 = [v] := by
    obtain ⟨hj, rfl⟩ := List.getElem?_eq_some_iff.1 hvj
    rw [List.drop_eq_getElem_cons hj]
    rfl
  rw [h2] at h1
  rw [List.getElem?_map] at hej
  cases hxj : xs[j]? with
  | none => rw [hxj] at hej; cases hej
  | some y =>
    rw [hxj] at hej h1
    obtain rfl := Option.some.inj hej
    refine ⟨⟨n, y.2, h1⟩, fun m hm => z m ?_⟩
    rw [DataW.weights, ht]
    refine DataW.weights_mem_each (j := j) (t := f.type) (d := y.1) ?_ ?_ m hm
    · simp [hfj]
    · simp [hxj]
theorem mapM_some {α β : Type} (g : α → Option β) : ∀ (l : List α) (r : List β), l.mapM g = some r → r.length = l.length ∧ ∀ (i : Nat) (a : α), l[i]? = some a → g a = r[i]?
  | [], r, h => by simp at h; subst h; simp
  | x :: l, r, h => by
    rw [List.mapM_cons] at h
    simp only [Option.bind_eq_bind, Option.bind_eq_some_iff] at h
    obtain ⟨y, hy, r', hr', h2⟩ := h
    injection h2 with h2
    subst h2
    obtain ⟨h3, h4⟩ := mapM_some g l r' hr'
    refine ⟨by simp [h3], fun i a ha => ?_⟩
    cases i with
    | zero => simp at ha; subst ha; simpa using hy
    | succ i => simp at ha; simpa using h4 i a ha
theorem flatten_get {α : Type} (k : Nat) : ∀ (rows : List (List α)) (i j : Nat) (r : List α) (v : α), (∀ r ∈ rows, r.length = k) → rows[i]? = some r → r[j]? = some v → rows.flatten[i * k + j]? = some v
  | [], i, j, r, v, _, h, _ => by simp at h
  | x :: rows, 0, j, r, v, hk, h, hv => by
    simp at h
    subst h
    have := (List.getElem?_eq_some_iff.1 hv).1
    rw [List.flatten_cons, Nat.zero_mul, Nat.zero_add, List.getElem?_append, if_pos this]
    exact hv
  | x :: rows, i + 1, j, r, v, hk, h, hv => by
    have hx := hk x (by simp)
    have e : (i + 1) * k + j = k + (i * k + j) := by rw [Nat.succ_mul]; omega
    have := flatten_get k rows i j r v (fun r hr => hk r (by simp [hr])) (by simpa using h) hv
    rw [List.flatten_cons, e, List.getElem?_append, if_neg (by omega)]
    rw [hx]
    simpa using this
theorem flatten_len {α : Type} (k : Nat) : ∀ (rows : List (List α)), (∀ r ∈ rows, r.length = k) → rows.flatten.length = rows.length * k
  | [], _ => by simp
  | x :: rows, h => by
    rw [List.flatten_cons, List.length_append, flatten_len k rows (fun r hr => h r (by simp [hr])), h x (by simp), List.length_cons, Nat.succ_mul]
    omega
theorem weightsAll_mem {e : TypeId} : ∀ (l : List (DataW H)) (d : DataW H), d ∈ l → ∀ n ∈ d.weights P e, n ∈ DataW.weightsAll P e l
  | x :: l, d, h, n, hn => by
    simp only [DataW.weightsAll, List.mem_append]
    rcases List.mem_cons.1 h with rfl | h
    · exact .inl hn
    · exact .inr (weightsAll_mem l d h n hn)
/-- a slice, whatever its elements: rows of k cells -/
theorem T0.slice {t e : TypeId} {cs : List Value} {d : DataW H} {k : Nat} (h : T0 enc P w t cs d) (z : Szd P t d) (ht : P.underlying t = some (.slice e)) (hk : P.cellsOf e = k) (hk0 : 0 < k) :
    ∃ (a : Option Addr) (len cap : Nat) (rows : List (List Value)) (ds : List (DataW H)), cs = [.slice a len cap] ∧ rows.length = len ∧ ds.length = len ∧ (∀ r ∈ rows, r.length = k) ∧ Sl w k a len cap rows.flatten ∧ len * P.bytesOf e ≤ 140737488351232 ∧
      ((d = .nil ∧ len = 0) ∨ ∃ sp, d = .slice ds sp) ∧
      ∀ (i : Nat) (r : List Value) (x : DataW H), rows[i]? = some r → ds[i]? = some x → T0 enc P w e r x ∧ Szd P e x := by
  obtain ⟨fuel, ps, hf⟩ := h
  rcases DataW.trod_slice ht hf with ⟨rfl, hx⟩ | ⟨a, len, cap, elems, rest, n, _, rfl, hx, _, hl, hm, hel, hget, hrest, _⟩
  · injection hx with hx _
    exact ⟨none, 0, 0, [], [], rfl, rfl, rfl, by simp, by simpa using Sl.nilS w k, by simp, .inl ⟨hx, rfl⟩, fun i r x hr => by simp at hr⟩
  · injection hx with hx _
    rw [hk] at hget
    have hrow : ∀ i, i < len → ∃ r y, w.cells? 0 (a.add (i * k)) k = some r ∧ elems[i]? = some y ∧ DataW.trod enc P w 0 (fun _ => true) true n e r = some y := by
      intro i hi
      have h1 := hget i hi
      have h2 : elems[i]? = some (elems[i]'(by omega)) := List.getElem?_eq_getElem (by omega)
      rw [h2] at h1
      obtain ⟨r, hr, hr2⟩ := Option.bind_eq_some_iff.1 h1
      exact ⟨r, _, hr, h2, hr2⟩
    let row : Nat → List Value := fun i => (w.cells? 0 (a.add (i * k)) k).getD []
    have hrw : ∀ i, i < len → w.cells? 0 (a.add (i * k)) k = some (row i) := fun i hi => by
      obtain ⟨r, _, hr, _⟩ := hrow i hi
      simp only [row, hr, Option.getD_some]
    have hcells : ∀ i, i < len → (row i).length = k ∧ ∀ j, j < k → w.cell? ((a.add (i * k)).add j) = (row i)[j]? := fun i hi => by
      have h1 := hrw i hi
      unfold World.cells? at h1
      rw [if_pos (Nat.zero_le _)] at h1
      obtain ⟨h2, h3⟩ := mapM_some _ _ _ h1
      exact ⟨by simpa using h2, fun j hj => h3 j j (by simp [hj])⟩
    have hk1 : ∀ r ∈ (List.range len).map row, r.length = k := by
      intro r hr
      obtain ⟨i, hi, rfl⟩ := List.mem_map.1 hr
      exact (hcells i (by simpa using hi)).1
    refine ⟨some a, len, cap, (List.range len).map row, elems.map (·.1), rfl, by simp, by simpa using hel, hk1, ⟨by rw [flatten_len k _ hk1]; simp, hl, by simpa [maxLen] using hm, (fun e => by cases e), fun ad he hp => ?_⟩, ?_, .inr ⟨_, hx⟩, fun i r x hr hxi => ?_⟩
    · obtain rfl := Option.some.inj he
      rw [flatten_len k _ hk1] at hp
      have hlen : 0 < len := by
        rcases Nat.eq_zero_or_pos len with h0 | h0
        · subst h0; simp at hp
        · exact h0
      have hspot : a.spot = none := by
        have h1 := (hcells 0 hlen).2 0 hk0
        have h2 : 0 < (row 0).length := by rw [(hcells 0 hlen).1]; exact hk0
        rw [List.getElem?_eq_getElem h2] at h1
        have h3 : (a.add (0 * k)).add 0 = a := by simp [Addr.add]
        rw [h3] at h1
        exact World.cell?_spot h1
      refine ⟨hspot, fun i hi => ?_⟩
      rw [flatten_len k _ hk1] at hi
      have hi2 : i < len * k := by simpa using hi
      have hq : i / k < len := Nat.div_lt_of_lt_mul (by rw [Nat.mul_comm]; exact hi2)
      have hr := Nat.mod_lt i hk0
      have h1 := (hcells (i / k) hq).2 (i % k) hr
      have e1 : (a.add (i / k * k)).add (i % k) = ⟨a.block, a.off + i, none⟩ := by
        have h2 : i / k * k + i % k = i := Nat.div_add_mod' i k
        obtain ⟨b, o, sp⟩ := a
        dsimp only at hspot
        subst hspot
        unfold Addr.add
        split <;> split <;> simp_all <;> omega
      rw [e1] at h1
      rw [h1]
      have h3 : (row (i / k))[i % k]? = some ((row (i / k))[i % k]'(by rw [(hcells _ hq).1]; exact hr)) := List.getElem?_eq_getElem _
      have h4 := flatten_get k ((List.range len).map row) (i / k) (i % k) (row (i / k)) _ hk1 (by simp [hq]) h3
      rw [Nat.div_add_mod'] at h4
      rw [h3, ← h4]
      exact List.getElem?_eq_getElem _
    · have h1 := z ((elems.map (·.1)).length * P.bytesOf e + rest.length * P.bytesOf e)
      rw [hx, DataW.weights, ht] at h1
      have h2 := h1 (by simp [Nat.add_mul])
      simp only [List.length_map, hel] at h2
      omega
    · have hi : i < len := by
        have := (List.getElem?_eq_some_iff.1 hr).1
        simpa using this
      obtain ⟨r', y, hr1, hy, hty⟩ := hrow i hi
      have e1 : r' = r := by
        have h1 := hrw i hi
        rw [hr1] at h1
        have h2 : ((List.range len).map row)[i]? = some (row i) := by simp [hi]
        rw [hr] at h2
        injection h1 with h1
        injection h2 with h2
        rw [h1, h2]
      subst e1
      have e2 : x = y.1 := by
        rw [List.getElem?_map, hy] at hxi
        exact (Option.some.inj hxi).symm
      subst e2
      refine ⟨⟨n, y.2, hty⟩, fun m hm' => z m ?_⟩
      rw [hx, DataW.weights, ht]
      simp only [List.mem_cons, List.mem_append]
      exact .inr (.inl (weightsAll_mem _ y.1 (by exact List.mem_map.2 ⟨y, List.mem_of_getElem? hy, rfl⟩) m hm'))
theorem T0.bytes {t e : TypeId} {cs : List Value} {d : DataW H} (h : T0 enc P w t cs d) (z : Szd P t d) (ht : P.underlying t = some (.slice e)) (he : P.underlying e = some (.int .u8)) (hc : P.cellsOf e = 1) (hb : P.bytesOf e = 1) :
    ∃ (a : Option Addr) (len cap : Nat) (l : List UInt8), cs = [.slice a len cap] ∧ Sl w 1 a len cap (l.map by8) ∧ len ≤ 140737488351232 := by
  obtain ⟨a, len, cap, rows, ds, rfl, hl, hdl, hk, hs, hz, _, hel⟩ := h.slice z ht hc (by decide)
  rw [hb] at hz
  refine ⟨a, len, cap, rows.map fun r => match r with | [.int _ n] => UInt8.ofNat n.toNat | _ => 0, rfl, ?_, by omega⟩
  have e1 : (rows.map fun r => match r with | [.int _ n] => UInt8.ofNat n.toNat | _ => 0).map by8 = rows.flatten := by
    refine List.ext_getElem (by rw [flatten_len 1 _ hk]; simp) fun i h1 h2 => ?_
    have hi : i < rows.length := by simpa using h1
    have hdi : i < ds.length := by omega
    obtain ⟨hT, _⟩ := hel i rows[i] ds[i] (List.getElem?_eq_getElem hi) (List.getElem?_eq_getElem hdi)
    obtain ⟨n, hn, hwf⟩ := hT.int he
    have h3 := flatten_get 1 rows i 0 rows[i] (.int .u8 n) hk (List.getElem?_eq_getElem hi) (by rw [hn]; rfl)
    simp only [List.getElem_map, hn]
    rw [← u8_of hwf]
    rw [Nat.mul_one, Nat.add_zero, List.getElem?_eq_getElem h2] at h3
    exact (Option.some.inj h3).symm
  rw [e1]
  exact hs
theorem u64_of {n : Int} (h : (Lit.int .u64 n).wf = true) : Value.int .u64 n = by64 (UInt64.ofNat n.toNat) := by
  have hx : 0 ≤ n ∧ n ≤ 18446744073709551615 := by simpa [Lit.wf, IntKind.min, IntKind.max, IntKind.signed, IntKind.bits] using h
  unfold by64
  rw [UInt64.toNat_ofNat']
  congr 1
  omega
theorem T0.u64s {t e : TypeId} {cs : List Value} {d : DataW H} (h : T0 enc P w t cs d) (z : Szd P t d) (ht : P.underlying t = some (.slice e)) (he : P.underlying e = some (.int .u64)) (hc : P.cellsOf e = 1) (hb : P.bytesOf e = 8) :
    ∃ (a : Option Addr) (len cap : Nat) (l : List UInt64), cs = [.slice a len cap] ∧ Sl w 1 a len cap (l.map by64) ∧ len * 8 ≤ 140737488351232 := by
  obtain ⟨a, len, cap, rows, ds, rfl, hl, hdl, hk, hs, hz, _, hel⟩ := h.slice z ht hc (by decide)
  rw [hb] at hz
  refine ⟨a, len, cap, rows.map fun r => match r with | [.int _ n] => UInt64.ofNat n.toNat | _ => 0, rfl, ?_, by omega⟩
  have e1 : (rows.map fun r => match r with | [.int _ n] => UInt64.ofNat n.toNat | _ => 0).map by64 = rows.flatten := by
    refine List.ext_getElem (by rw [flatten_len 1 _ hk]; simp) fun i h1 h2 => ?_
    have hi : i < rows.length := by simpa using h1
    have hdi : i < ds.length := by omega
    obtain ⟨hT, _⟩ := hel i rows[i] ds[i] (List.getElem?_eq_getElem hi) (List.getElem?_eq_getElem hdi)
    obtain ⟨n, hn, hwf⟩ := hT.int he
    have h3 := flatten_get 1 rows i 0 rows[i] (.int .u64 n) hk (List.getElem?_eq_getElem hi) (by rw [hn]; rfl)
    simp only [List.getElem_map, hn]
    rw [← u64_of hwf]
    rw [Nat.mul_one, Nat.add_zero, List.getElem?_eq_getElem h2] at h3
    exact (Option.some.inj h3).symm
  rw [e1]
  exact hs
end
theorem wf_u8 {n : Int} (h : (Lit.int .u8 n).wf = true) : ∃ m : Nat, n = m ∧ m < 256 := by
  have hx : 0 ≤ n ∧ n ≤ 255 := by simpa [Lit.wf, IntKind.min, IntKind.max, IntKind.signed, IntKind.bits] using h
  exact ⟨n.toNat, by omega, by omega⟩
theorem wf_u32 {n : Int} (h : (Lit.int .u32 n).wf = true) : ∃ m : Nat, n = m ∧ m < 4294967296 := by
  have hx : 0 ≤ n ∧ n ≤ 4294967295 := by simpa [Lit.wf, IntKind.min, IntKind.max, IntKind.signed, IntKind.bits] using h
  exact ⟨n.toNat, by omega, by omega⟩
theorem wf_u64 {n : Int} (h : (Lit.int .u64 n).wf = true) : ∃ m : Nat, n = m ∧ m < 18446744073709551616 := by
  have hx : 0 ≤ n ∧ n ≤ 18446744073709551615 := by simpa [Lit.wf, IntKind.min, IntKind.max, IntKind.signed, IntKind.bits] using h
  exact ⟨n.toNat, by omega, by omega⟩
theorem wf_i64 {n : Int} (h : (Lit.int .i64 n).wf = true) : -9223372036854775808 ≤ n ∧ n ≤ 9223372036854775807 := by
  simpa [Lit.wf, IntKind.min, IntKind.max, IntKind.signed, IntKind.bits] using h
end Go.Proofs.Ytikjhandhgfohaa
