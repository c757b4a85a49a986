import Derived.Test.YtpjmbhhfpoamnaaRows
import Derived.Test.YtpjmbhhfpoamnaaJm1
import Derived.OpenShut
import Derived.ShutString
import Derived.ChangeOld
import Derived.SizedLaws
import Derived.JoinedCond
import Derived.Deep.Fields
import Derived.Deep.CondSized
import Derived.Test.YtpjmbhhfpoamnaaJm2
set_option linter.unusedVariables false
set_option linter.unusedSimpArgs false
namespace Go.Proofs.Ytpjmbhhfpoamnaa
open Go.ChangeShapes Go.WideShapes Go.ChangeAt Go.RowKit
open Go.ChangeMaps (open_string shut_string)
open Go.Deep (oneCellFields hone_of)

theorem own : ownKnob Try.prog.godebug = none := by kernel_rfl
theorem laidOut : laidOutB Try.prog = true := by kernel_rfl
theorem u8_of {n : Int} (h : (Lit.int .u8 n).wf = true) : Value.int .u8 n = by8 (UInt8.ofNat n.toNat) := by
  have hx : 0 ≤ n ∧ n ≤ 255 := by simpa [Lit.wf, IntKind.min, IntKind.max, IntKind.signed, IntKind.bits] using h
  unfold by8
  rw [UInt8.toNat_ofNat']
  congr 1
  omega
/-- bytes that came in -/
theorem open_bytes {H : Type} {enc : TypeId × Value → H} {P : Program} {w : World} {t e : TypeId} {a : Option Addr} {len cap : Nat} {d : DataW H} {ps : List MemPlace} (ht : P.underlying t = some (.slice e)) (he : P.underlying e = some (.int .u8)) (hc : P.cellsOf e = 1)
    (h : DataW.Trod enc P w 0 (fun _ => true) true t (.slice a len cap) d ps) :
    ∃ l : List UInt8, Sl w 1 a len cap (l.map by8) ∧ ((a = none ∧ len = 0 ∧ d = .nil) ∨ ∃ es sp, d = .slice es sp ∧ es.length + sp.length = cap) := by
  obtain ⟨fuel, hf⟩ := h
  rcases open_ints ht he hc hf with ⟨hcs, hx⟩ | ⟨x, l, c, zs, hcs, _, hl, hm, hz, hx, hcell, hwz⟩
  · simp [Value.cells] at hcs
    obtain ⟨rfl, rfl, rfl⟩ := hcs
    exact ⟨[], by simpa using Sl.nilS w 1, .inl ⟨rfl, rfl, by injection hx⟩⟩
  · simp [Value.cells] at hcs
    obtain ⟨rfl, rfl, rfl⟩ := hcs
    simp only [if_true] at hz
    refine ⟨(zs.take len).map fun n => UInt8.ofNat n.toNat, ⟨by simp; omega, hl, by simpa [maxLen] using hm, (fun e => by cases e), fun ad e hp => ?_⟩, .inr ⟨_, _, by injection hx, by simp [lits, hz]; omega⟩⟩
    obtain rfl := Option.some.inj e
    have hlen : 0 < len := by simp at hp; omega
    have hspot : x.spot = none := by
      have h0 := hcell 0 (by omega)
      have : x.add 0 = x := by simp [Addr.add]
      rw [this] at h0
      exact World.cell?_spot h0
    refine ⟨hspot, fun i hi => ?_⟩
    have hi2 : i < len := by simp at hi; omega
    have h1 := hcell i (by omega)
    have e1 : x.add i = ⟨x.block, x.off + i, none⟩ := by
      unfold Addr.add
      split
      · rename_i h; subst h; cases x; simp_all
      · rfl
    rw [e1] at h1
    rw [h1]
    simp only [List.getElem_map, List.getElem_take]
    rw [← u8_of (hwz _ (List.getElem_mem (by omega)))]
    simp [show i < zs.length by omega]
theorem bytes_reach {H : Type} {P : Program} {ts : List TypeId} {ds : List (DataW H)} {j : Nat} {t e : TypeId} {a : Option Addr} {len cap : Nat} {d : DataW H} (h : (DataW.weightsEach P ts ds).all (· ≤ reachBytes) = true) (ht : ts[j]? = some t) (hd : ds[j]? = some d) (hu : P.underlying t = some (.slice e)) (hb : P.bytesOf e = 1)
    (hle : len ≤ cap) (hk : (a = none ∧ len = 0 ∧ d = .nil) ∨ ∃ es sp, d = .slice es sp ∧ es.length + sp.length = cap) : len ≤ 140737488351232 := by
  rcases hk with ⟨_, rfl, _⟩ | ⟨es, sp, rfl, hl⟩
  · omega
  · have := sized_slice h ht hd hu
    rw [hb, hl] at this
    have : cap * 1 ≤ 140737488351232 := this
    omega

/-! ### what comes in, level by level -/
section
variable {H : Type} {enc : TypeId × Value → H} {P : Program} {w : World}
def T0 (enc : TypeId × Value → H) (P : Program) (w : World) (t : TypeId) (cs : List Value) (d : DataW H) : Prop :=
  ∃ fuel ps, DataW.trod enc P w 0 (fun _ => true) true fuel t cs = some (d, ps)
def Szd (P : Program) (t : TypeId) (d : DataW H) : Prop := ∀ n ∈ d.weights P t, n ≤ 140737488351232
theorem T0.of {t : TypeId} {v : Value} {d : DataW H} {ps : List MemPlace} (h : DataW.Trod enc P w 0 (fun _ => true) true t v d ps) : T0 enc P w t v.cells.toList d :=
  let ⟨f, hf⟩ := h
  ⟨f, ps, hf⟩
theorem Szd.of {ts : List TypeId} {ds : List (DataW H)} {j : Nat} {t : TypeId} {d : DataW H} (h : (DataW.weightsEach P ts ds).all (· ≤ reachBytes) = true) (ht : ts[j]? = some t) (hd : ds[j]? = some d) : Szd P t d := fun n hn => by
  have := List.all_eq_true.1 h _ (DataW.weights_mem_each ht hd n hn)
  have h2 : n ≤ reachBytes := by simpa using this
  exact h2
theorem T0.int {t : TypeId} {cs : List Value} {d : DataW H} {k : IntKind} (h : T0 enc P w t cs d) (ht : P.underlying t = some (.int k)) : ∃ n, cs = [.int k n] ∧ (Lit.int k n).wf = true := by
  obtain ⟨f, ps, hf⟩ := h
  obtain ⟨n, h1, h2, h3⟩ := DataW.trod_int ht hf
  exact ⟨n, h1, h3⟩
theorem T0.bool {t : TypeId} {cs : List Value} {d : DataW H} (h : T0 enc P w t cs d) (ht : P.underlying t = some .bool) : ∃ b, cs = [.bool b] := by
  obtain ⟨f, ps, hf⟩ := h
  obtain ⟨n, h1, h2⟩ := DataW.trod_bool ht hf
  exact ⟨n, h1⟩
theorem T0.str {t : TypeId} {cs : List Value} {d : DataW H} (h : T0 enc P w t cs d) (z : Szd P t d) (ht : P.underlying t = some .string) : ∃ s : ByteArray, cs = [.string s] ∧ s.size ≤ 140737488351232 := by
  obtain ⟨f, ps, hf⟩ := h
  obtain ⟨n, h1, h2, h3⟩ := DataW.trod_string ht hf
  refine ⟨n, h1, z _ ?_⟩
  injection h2 with h2 _
  subst h2
  simp [DataW.weights]
theorem T0.struct {t : TypeId} {cs : List Value} {d : DataW H} {fs : Array Field} (h : T0 enc P w t cs d) (z : Szd P t d) (ht : P.underlying t = some (.struct fs)) (hone : oneCellFields P fs = true) (hC : P.cellsOf t = fs.size) :
    cs.length = fs.size ∧ ∃ ds : List (DataW H), ds.length = fs.size ∧ d = .agg ds ∧ ∀ (j : Nat) (f : Field) (v : Value) (e : DataW H), fs[j]? = some f → cs[j]? = some v → ds[j]? = some e → T0 enc P w f.type [v] e ∧ Szd P f.type e := by
  obtain ⟨fuel, ps, hf⟩ := h
  obtain ⟨xs, n, _, hx, hl, hxl, hfs⟩ := DataW.trod_struct ht hf
  injection hx with hx _
  subst hx
  refine ⟨by rw [hl, hC], xs.map (·.1), by simpa using hxl, rfl, fun j f v e hfj hvj hej => ?_⟩
  obtain ⟨o1, o2⟩ := hone_of hone j f hfj
  have h1 := hfs j f hfj
  rw [o1, o2] at h1
  have h2 : (cs.drop j).take 1 = [v] := by
    obtain ⟨hj, rfl⟩ := List.getElem?_eq_some_iff.1 hvj
    rw [List.drop_eq_getElem_cons hj]
    rfl
  rw [h2] at h1
  rw [List.getElem?_map] at hej
  cases hxj : xs[j]? with
  | none => rw [hxj] at hej; cases hej
  | some y =>
    rw [hxj] at hej h1
    obtain rfl := Option.some.inj hej
    refine ⟨⟨n, y.2, h1⟩, fun m hm => z m ?_⟩
    rw [DataW.weights, ht]
    refine DataW.weights_mem_each (j := j) (t := f.type) (d := y.1) ?_ ?_ m hm
    · simp [hfj]
    · simp [hxj]
theorem mapM_some {α β : Type} (g : α → Option β) : ∀ (l : List α) (r : List β), l.mapM g = some r → r.length = l.length ∧ ∀ (i : Nat) (a : α), l[i]? = some a → g a = r[i]?
  | [], r, h => by simp at h; subst h; simp
  | x :: l, r, h => by
    rw [List.mapM_cons] at h
    simp only [Option.bind_eq_bind, Option.bind_eq_some_iff] at h
    obtain ⟨y, hy, r', hr', h2⟩ := h
    injection h2 with h2
    subst h2
    obtain ⟨h3, h4⟩ := mapM_some g l r' hr'
    refine ⟨by simp [h3], fun i a ha => ?_⟩
    cases i with
    | zero => simp at ha; subst ha; simpa using hy
    | succ i => simp at ha; simpa using h4 i a ha
theorem flatten_get {α : Type} (k : Nat) : ∀ (rows : List (List α)) (i j : Nat) (r : List α) (v : α), (∀ r ∈ rows, r.length = k) → rows[i]? = some r → r[j]? = some v → rows.flatten[i * k + j]? = some v
  | [], i, j, r, v, _, h, _ => by simp at h
  | x :: rows, 0, j, r, v, hk, h, hv => by
    simp at h
    subst h
    have := (List.getElem?_eq_some_iff.1 hv).1
    rw [List.flatten_cons, Nat.zero_mul, Nat.zero_add, List.getElem?_append, if_pos this]
    exact hv
  | x :: rows, i + 1, j, r, v, hk, h, hv => by
    have hx := hk x (by simp)
    have e : (i + 1) * k + j = k + (i * k + j) := by rw [Nat.succ_mul]; omega
    have := flatten_get k rows i j r v (fun r hr => hk r (by simp [hr])) (by simpa using h) hv
    rw [List.flatten_cons, e, List.getElem?_append, if_neg (by omega)]
    rw [hx]
    simpa using this
theorem flatten_len {α : Type} (k : Nat) : ∀ (rows : List (List α)), (∀ r ∈ rows, r.length = k) → rows.flatten.length = rows.length * k
  | [], _ => by simp
  | x :: rows, h => by
    rw [List.flatten_cons, List.length_append, flatten_len k rows (fun r hr => h r (by simp [hr])), h x (by simp), List.length_cons, Nat.succ_mul]
    omega
theorem weightsAll_mem {e : TypeId} : ∀ (l : List (DataW H)) (d : DataW H), d ∈ l → ∀ n ∈ d.weights P e, n ∈ DataW.weightsAll P e l
  | x :: l, d, h, n, hn => by
    simp only [DataW.weightsAll, List.mem_append]
    rcases List.mem_cons.1 h with rfl | h
    · exact .inl hn
    · exact .inr (weightsAll_mem l d h n hn)
/-- a slice, whatever its elements: rows of k cells -/
theorem T0.slice {t e : TypeId} {cs : List Value} {d : DataW H} {k : Nat} (h : T0 enc P w t cs d) (z : Szd P t d) (ht : P.underlying t = some (.slice e)) (hk : P.cellsOf e = k) (hk0 : 0 < k) :
    ∃ (a : Option Addr) (len cap : Nat) (rows : List (List Value)) (ds : List (DataW H)), cs = [.slice a len cap] ∧ rows.length = len ∧ ds.length = len ∧ (∀ r ∈ rows, r.length = k) ∧ Sl w k a len cap rows.flatten ∧ len * P.bytesOf e ≤ 140737488351232 ∧
      ((d = .nil ∧ len = 0) ∨ ∃ sp, d = .slice ds sp) ∧
      ∀ (i : Nat) (r : List Value) (x : DataW H), rows[i]? = some r → ds[i]? = some x → T0 enc P w e r x ∧ Szd P e x := by
  obtain ⟨fuel, ps, hf⟩ := h
  rcases DataW.trod_slice ht hf with ⟨rfl, hx⟩ | ⟨a, len, cap, elems, rest, n, _, rfl, hx, _, hl, hm, hel, hget, hrest, _⟩
  · injection hx with hx _
    exact ⟨none, 0, 0, [], [], rfl, rfl, rfl, by simp, by simpa using Sl.nilS w k, by simp, .inl ⟨hx, rfl⟩, fun i r x hr => by simp at hr⟩
  · injection hx with hx _
    rw [hk] at hget
    have hrow : ∀ i, i < len → ∃ r y, w.cells? 0 (a.add (i * k)) k = some r ∧ elems[i]? = some y ∧ DataW.trod enc P w 0 (fun _ => true) true n e r = some y := by
      intro i hi
      have h1 := hget i hi
      have h2 : elems[i]? = some (elems[i]'(by omega)) := List.getElem?_eq_getElem (by omega)
      rw [h2] at h1
      obtain ⟨r, hr, hr2⟩ := Option.bind_eq_some_iff.1 h1
      exact ⟨r, _, hr, h2, hr2⟩
    let row : Nat → List Value := fun i => (w.cells? 0 (a.add (i * k)) k).getD []
    have hrw : ∀ i, i < len → w.cells? 0 (a.add (i * k)) k = some (row i) := fun i hi => by
      obtain ⟨r, _, hr, _⟩ := hrow i hi
      simp only [row, hr, Option.getD_some]
    have hcells : ∀ i, i < len → (row i).length = k ∧ ∀ j, j < k → w.cell? ((a.add (i * k)).add j) = (row i)[j]? := fun i hi => by
      have h1 := hrw i hi
      unfold World.cells? at h1
      rw [if_pos (Nat.zero_le _)] at h1
      obtain ⟨h2, h3⟩ := mapM_some _ _ _ h1
      exact ⟨by simpa using h2, fun j hj => h3 j j (by simp [hj])⟩
    have hk1 : ∀ r ∈ (List.range len).map row, r.length = k := by
      intro r hr
      obtain ⟨i, hi, rfl⟩ := List.mem_map.1 hr
      exact (hcells i (by simpa using hi)).1
    refine ⟨some a, len, cap, (List.range len).map row, elems.map (·.1), rfl, by simp, by simpa using hel, hk1, ⟨by rw [flatten_len k _ hk1]; simp, hl, by simpa [maxLen] using hm, (fun e => by cases e), fun ad he hp => ?_⟩, ?_, .inr ⟨_, hx⟩, fun i r x hr hxi => ?_⟩
    · obtain rfl := Option.some.inj he
      rw [flatten_len k _ hk1] at hp
      have hlen : 0 < len := by
        rcases Nat.eq_zero_or_pos len with h0 | h0
        · subst h0; simp at hp
        · exact h0
      have hspot : a.spot = none := by
        have h1 := (hcells 0 hlen).2 0 hk0
        have h2 : 0 < (row 0).length := by rw [(hcells 0 hlen).1]; exact hk0
        rw [List.getElem?_eq_getElem h2] at h1
        have h3 : (a.add (0 * k)).add 0 = a := by simp [Addr.add]
        rw [h3] at h1
        exact World.cell?_spot h1
      refine ⟨hspot, fun i hi => ?_⟩
      rw [flatten_len k _ hk1] at hi
      have hi2 : i < len * k := by simpa using hi
      have hq : i / k < len := Nat.div_lt_of_lt_mul (by rw [Nat.mul_comm]; exact hi2)
      have hr := Nat.mod_lt i hk0
      have h1 := (hcells (i / k) hq).2 (i % k) hr
      have e1 : (a.add (i / k * k)).add (i % k) = ⟨a.block, a.off + i, none⟩ := by
        have h2 : i / k * k + i % k = i := Nat.div_add_mod' i k
        obtain ⟨b, o, sp⟩ := a
        dsimp only at hspot
        subst hspot
        unfold Addr.add
        split <;> split <;> simp_all <;> omega
      rw [e1] at h1
      rw [h1]
      have h3 : (row (i / k))[i % k]? = some ((row (i / k))[i % k]'(by rw [(hcells _ hq).1]; exact hr)) := List.getElem?_eq_getElem _
      have h4 := flatten_get k ((List.range len).map row) (i / k) (i % k) (row (i / k)) _ hk1 (by simp [hq]) h3
      rw [Nat.div_add_mod'] at h4
      rw [h3, ← h4]
      exact List.getElem?_eq_getElem _
    · have h1 := z ((elems.map (·.1)).length * P.bytesOf e + rest.length * P.bytesOf e)
      rw [hx, DataW.weights, ht] at h1
      have h2 := h1 (by simp [Nat.add_mul])
      simp only [List.length_map, hel] at h2
      omega
    · have hi : i < len := by
        have := (List.getElem?_eq_some_iff.1 hr).1
        simpa using this
      obtain ⟨r', y, hr1, hy, hty⟩ := hrow i hi
      have e1 : r' = r := by
        have h1 := hrw i hi
        rw [hr1] at h1
        have h2 : ((List.range len).map row)[i]? = some (row i) := by simp [hi]
        rw [hr] at h2
        injection h1 with h1
        injection h2 with h2
        rw [h1, h2]
      subst e1
      have e2 : x = y.1 := by
        rw [List.getElem?_map, hy] at hxi
        exact (Option.some.inj hxi).symm
      subst e2
      refine ⟨⟨n, y.2, hty⟩, fun m hm' => z m ?_⟩
      rw [hx, DataW.weights, ht]
      simp only [List.mem_cons, List.mem_append]
      exact .inr (.inl (weightsAll_mem _ y.1 (by exact List.mem_map.2 ⟨y, List.mem_of_getElem? hy, rfl⟩) m hm'))
theorem T0.bytes {t e : TypeId} {cs : List Value} {d : DataW H} (h : T0 enc P w t cs d) (z : Szd P t d) (ht : P.underlying t = some (.slice e)) (he : P.underlying e = some (.int .u8)) (hc : P.cellsOf e = 1) (hb : P.bytesOf e = 1) :
    ∃ (a : Option Addr) (len cap : Nat) (l : List UInt8), cs = [.slice a len cap] ∧ Sl w 1 a len cap (l.map by8) ∧ len ≤ 140737488351232 := by
  obtain ⟨a, len, cap, rows, ds, rfl, hl, hdl, hk, hs, hz, _, hel⟩ := h.slice z ht hc (by decide)
  rw [hb] at hz
  refine ⟨a, len, cap, rows.map fun r => match r with | [.int _ n] => UInt8.ofNat n.toNat | _ => 0, rfl, ?_, by omega⟩
  have e1 : (rows.map fun r => match r with | [.int _ n] => UInt8.ofNat n.toNat | _ => 0).map by8 = rows.flatten := by
    refine List.ext_getElem (by rw [flatten_len 1 _ hk]; simp) fun i h1 h2 => ?_
    have hi : i < rows.length := by simpa using h1
    have hdi : i < ds.length := by omega
    obtain ⟨hT, _⟩ := hel i rows[i] ds[i] (List.getElem?_eq_getElem hi) (List.getElem?_eq_getElem hdi)
    obtain ⟨n, hn, hwf⟩ := hT.int he
    have h3 := flatten_get 1 rows i 0 rows[i] (.int .u8 n) hk (List.getElem?_eq_getElem hi) (by rw [hn]; rfl)
    simp only [List.getElem_map, hn]
    rw [← u8_of hwf]
    rw [Nat.mul_one, Nat.add_zero, List.getElem?_eq_getElem h2] at h3
    exact (Option.some.inj h3).symm
  rw [e1]
  exact hs
theorem u64_of {n : Int} (h : (Lit.int .u64 n).wf = true) : Value.int .u64 n = by64 (UInt64.ofNat n.toNat) := by
  have hx : 0 ≤ n ∧ n ≤ 18446744073709551615 := by simpa [Lit.wf, IntKind.min, IntKind.max, IntKind.signed, IntKind.bits] using h
  unfold by64
  rw [UInt64.toNat_ofNat']
  congr 1
  omega
theorem T0.u64s {t e : TypeId} {cs : List Value} {d : DataW H} (h : T0 enc P w t cs d) (z : Szd P t d) (ht : P.underlying t = some (.slice e)) (he : P.underlying e = some (.int .u64)) (hc : P.cellsOf e = 1) (hb : P.bytesOf e = 8) :
    ∃ (a : Option Addr) (len cap : Nat) (l : List UInt64), cs = [.slice a len cap] ∧ Sl w 1 a len cap (l.map by64) ∧ len * 8 ≤ 140737488351232 := by
  obtain ⟨a, len, cap, rows, ds, rfl, hl, hdl, hk, hs, hz, _, hel⟩ := h.slice z ht hc (by decide)
  rw [hb] at hz
  refine ⟨a, len, cap, rows.map fun r => match r with | [.int _ n] => UInt64.ofNat n.toNat | _ => 0, rfl, ?_, by omega⟩
  have e1 : (rows.map fun r => match r with | [.int _ n] => UInt64.ofNat n.toNat | _ => 0).map by64 = rows.flatten := by
    refine List.ext_getElem (by rw [flatten_len 1 _ hk]; simp) fun i h1 h2 => ?_
    have hi : i < rows.length := by simpa using h1
    have hdi : i < ds.length := by omega
    obtain ⟨hT, _⟩ := hel i rows[i] ds[i] (List.getElem?_eq_getElem hi) (List.getElem?_eq_getElem hdi)
    obtain ⟨n, hn, hwf⟩ := hT.int he
    have h3 := flatten_get 1 rows i 0 rows[i] (.int .u64 n) hk (List.getElem?_eq_getElem hi) (by rw [hn]; rfl)
    simp only [List.getElem_map, hn]
    rw [← u64_of hwf]
    rw [Nat.mul_one, Nat.add_zero, List.getElem?_eq_getElem h2] at h3
    exact (Option.some.inj h3).symm
  rw [e1]
  exact hs
end
theorem wf_u8 {n : Int} (h : (Lit.int .u8 n).wf = true) : ∃ m : Nat, n = m ∧ m < 256 := by
  have hx : 0 ≤ n ∧ n ≤ 255 := by simpa [Lit.wf, IntKind.min, IntKind.max, IntKind.signed, IntKind.bits] using h
  exact ⟨n.toNat, by omega, by omega⟩
theorem wf_u32 {n : Int} (h : (Lit.int .u32 n).wf = true) : ∃ m : Nat, n = m ∧ m < 4294967296 := by
  have hx : 0 ≤ n ∧ n ≤ 4294967295 := by simpa [Lit.wf, IntKind.min, IntKind.max, IntKind.signed, IntKind.bits] using h
  exact ⟨n.toNat, by omega, by omega⟩
theorem wf_u64 {n : Int} (h : (Lit.int .u64 n).wf = true) : ∃ m : Nat, n = m ∧ m < 18446744073709551616 := by
  have hx : 0 ≤ n ∧ n ≤ 18446744073709551615 := by simpa [Lit.wf, IntKind.min, IntKind.max, IntKind.signed, IntKind.bits] using h
  exact ⟨n.toNat, by omega, by omega⟩
theorem wf_i64 {n : Int} (h : (Lit.int .i64 n).wf = true) : -9223372036854775808 ≤ n ∧ n ≤ 9223372036854775807 := by
  simpa [Lit.wf, IntKind.min, IntKind.max, IntKind.signed, IntKind.bits] using h
end Go.Proofs.Ytpjmbhhfpoamnaa

namespace Go.Proofs.Ytpjmbhhfpoamnaa
open Go.ChangeShapes Go.WideShapes Go.ChangeAt Go.RowKit
section
variable {H : Type} {enc : TypeId × Value → H} {w : World}
theorem list8 {α : Type} {l : List α} (h : l.length = 8) : ∃ a b c d e f g i, l = [a, b, c, d, e, f, g, i] := by
  match l, h with
  | [a, b, c, d, e, f, g, i], _ => exact ⟨a, b, c, d, e, f, g, i, rfl⟩
theorem choose_upto {α : Type} [Inhabited α] {n : Nat} {R : Nat → α → Prop} (h : ∀ i, i < n → ∃ x, R i x) : ∃ f : Nat → α, ∀ i, i < n → R i (f i) :=
  ⟨fun i => if hi : i < n then (h i hi).choose else default, fun i hi => by simp only [dif_pos hi]; exact (h i hi).choose_spec⟩
theorem T0.bytess {cs : List Value} {d : DataW H} (h : T0 enc Try.prog w 34 cs d) (z : Szd Try.prog 34 d) :
    ∃ (a : Option Addr) (len cap : Nat) (vs : List Value) (ll : List (List UInt8)), cs = [.slice a len cap] ∧ Sls w a len cap vs ll ∧ len * 24 ≤ 140737488351232 := by
  obtain ⟨a, len, cap, rows, ds, rfl, hl, hdl, hk, hs, hz, _, hel⟩ := h.slice z Try.underlying34 (k := 1) (by kernel_rfl) (by decide)
  have hb : Try.prog.bytesOf 22 = 24 := by kernel_rfl
  rw [hb] at hz
  have hel2 : ∀ i, i < len → ∃ (a : Option Addr) (m c : Nat) (l : List UInt8), rows[i]? = some [.slice a m c] ∧ Sl w 1 a m c (l.map by8) ∧ m ≤ 140737488351232 := by
    intro i hi
    have h1 : i < rows.length := by omega
    have h2 : i < ds.length := by omega
    obtain ⟨hT, hZ⟩ := hel i rows[i] ds[i] (List.getElem?_eq_getElem h1) (List.getElem?_eq_getElem h2)
    obtain ⟨a, m, c, l, e1, e2, e3⟩ := hT.bytes hZ Try.underlying22 Try.underlying5 (by kernel_rfl) (by kernel_rfl)
    exact ⟨a, m, c, l, by rw [List.getElem?_eq_getElem h1, e1], e2, e3⟩
  have hch := choose_upto (n := len) (R := fun i (l : List UInt8) => ∃ (a : Option Addr) (m c : Nat), rows[i]? = some [.slice a m c] ∧ Sl w 1 a m c (l.map by8) ∧ m ≤ 140737488351232) (fun i hi => by
    obtain ⟨a, m, c, l, h1, h2, h3⟩ := hel2 i hi
    exact ⟨l, a, m, c, h1, h2, h3⟩)
  obtain ⟨f, hf⟩ := hch
  refine ⟨a, len, cap, rows.flatten, (List.range len).map f, rfl, ⟨hs, by simp, fun i l hl2 => ?_⟩, hz⟩
  have hi : i < len := by
    have := (List.getElem?_eq_some_iff.1 hl2).1
    simpa using this
  have e : l = f i := by
    rw [List.getElem?_map, List.getElem?_range hi] at hl2
    exact (Option.some.inj hl2).symm
  subst e
  obtain ⟨a, m, c, h1, h2, h3⟩ := hf i hi
  refine ⟨a, m, c, ?_, h2, h3⟩
  have := flatten_get 1 rows i 0 _ (.slice a m c) hk h1 rfl
  simpa using this
/-- an operation of layer 1 -/
structure OpRd (w : World) (cs : List Value) (kd : Int) (a : Nat) (l : Nat) (n : Int) (x y : List UInt8) (ll : List (List UInt8)) (s : ByteArray) : Prop where
  form : ∃ (xa : Option Addr) (xn xc : Nat) (ya : Option Addr) (yn yc : Nat) (pa : Option Addr) (pn pc : Nat) (vs : List Value),
    cs = [.int .i64 kd, .int .u32 a, .int .u64 l, .int .i64 n, .slice xa xn xc, .slice ya yn yc, .slice pa pn pc, .string s] ∧
    Sl w 1 xa xn xc (x.map by8) ∧ Sl w 1 ya yn yc (y.map by8) ∧ Sls w pa pn pc vs ll ∧ xn ≤ 140737488351232 ∧ yn ≤ 140737488351232 ∧ pn * 24 ≤ 140737488351232
  kd : -9223372036854775808 ≤ kd ∧ kd ≤ 9223372036854775807
  a : a < 4294967296
  l : l < 18446744073709551616
  n : -9223372036854775808 ≤ n ∧ n ≤ 9223372036854775807
  s : s.size ≤ 140737488351232
end
end Go.Proofs.Ytpjmbhhfpoamnaa

namespace Go.Proofs.Ytpjmbhhfpoamnaa
open Go.RowKit
/-! ### the steps of layer 12 -/
structure St12 where
  kd : Int
  bank : Int
  b : List UInt8
  x : Int
  y : Int
instance : Inhabited St12 := ⟨⟨0, 0, [], 0, 0⟩⟩
structure StRd (w : World) (cs : List Value) (s : St12) : Prop where
  form : ∃ (ba : Option Addr) (bn bc : Nat), cs = [.int .i64 s.kd, .int .i64 s.bank, .slice ba bn bc, .int .i64 s.x, .int .i64 s.y] ∧ Sl w 1 ba bn bc (s.b.map by8) ∧ bn ≤ 140737488351232
  kd : -9223372036854775808 ≤ s.kd ∧ s.kd ≤ 9223372036854775807
  bank : -9223372036854775808 ≤ s.bank ∧ s.bank ≤ 9223372036854775807
  x : -9223372036854775808 ≤ s.x ∧ s.x ≤ 9223372036854775807
  y : -9223372036854775808 ≤ s.y ∧ s.y ≤ 9223372036854775807
theorem StRd.below {w w' : World} {cs : List Value} {s : St12} (h : StRd w cs s) (k : Below w.heap.size w w') : StRd w' cs s := by
  obtain ⟨ba, bn, bc, e, h1, h3⟩ := h.form
  exact ⟨⟨ba, bn, bc, e, h1.below k, h3⟩, h.kd, h.bank, h.x, h.y⟩
structure Sts (w : World) (A : Option Addr) (n c : Nat) (vs : List Value) (ss : List St12) : Prop where
  sl : Sl w 5 A n c vs
  len : ss.length = n
  at_ : ∀ i s, ss[i]? = some s → ∃ cs, StRd w cs s ∧ ∀ j v, cs[j]? = some v → vs[i * 5 + j]? = some v
theorem Sts.below {w w' : World} {A : Option Addr} {n c : Nat} {vs : List Value} {ss : List St12} (h : Sts w A n c vs ss) (k : Below w.heap.size w w') : Sts w' A n c vs ss :=
  ⟨h.sl.below k, h.len, fun i s hi => by
    obtain ⟨cs, h1, h2⟩ := h.at_ i s hi
    exact ⟨cs, h1.below k, h2⟩⟩
/-- a step at its place -/
theorem Sts.get {w : World} {b off n c : Nat} {vs : List Value} {ss : List St12} (h : Sts w (some ⟨b, off, none⟩) n c vs ss) (i : Nat) (hi : i < ss.length) : ∃ (ba : Option Addr) (bn bc : Nat),
    w.cell? ⟨b, off + i * 5, none⟩ = some (.int .i64 ss[i].kd) ∧ w.cell? ⟨b, off + i * 5 + 1, none⟩ = some (.int .i64 ss[i].bank) ∧ w.cell? ⟨b, off + i * 5 + 2, none⟩ = some (.slice ba bn bc) ∧
    w.cell? ⟨b, off + i * 5 + 3, none⟩ = some (.int .i64 ss[i].x) ∧ w.cell? ⟨b, off + i * 5 + 4, none⟩ = some (.int .i64 ss[i].y) ∧
    Sl w 1 ba bn bc (ss[i].b.map by8) ∧ bn ≤ 140737488351232 ∧ (-9223372036854775808 ≤ ss[i].bank ∧ ss[i].bank ≤ 9223372036854775807) := by
  obtain ⟨cs, hr, hc⟩ := h.at_ i ss[i] (List.getElem?_eq_getElem hi)
  obtain ⟨ba, bn, bc, rfl, h1, h3⟩ := hr.form
  have g : ∀ j v, ([Value.int .i64 ss[i].kd, .int .i64 ss[i].bank, .slice ba bn bc, .int .i64 ss[i].x, .int .i64 ss[i].y] : List Value)[j]? = some v → w.cell? ⟨b, off + i * 5 + j, none⟩ = some v := fun j v hj => by
    have h5 := hc j v hj
    obtain ⟨h6, h7⟩ := List.getElem?_eq_some_iff.1 h5
    have h8 := h.sl.cell (i * 5 + j) h6
    rw [h7, ← Nat.add_assoc] at h8
    exact h8
  exact ⟨ba, bn, bc, g 0 _ rfl, g 1 _ rfl, g 2 _ rfl, g 3 _ rfl, g 4 _ rfl, h1, h3, hr.bank⟩
theorem list5 {α : Type} {l : List α} (h : l.length = 5) : ∃ a b c d e, l = [a, b, c, d, e] := by
  rcases l with _ | ⟨a, _ | ⟨b, _ | ⟨c, _ | ⟨d, _ | ⟨e, _ | ⟨f, l⟩⟩⟩⟩⟩⟩ <;> simp_all
section
variable {H : Type} {enc : TypeId × Value → H} {w : World}
theorem T0.step12 {cs : List Value} {d : DataW H} (h : T0 enc Try.prog w 53 cs d) (z : Szd Try.prog 53 d) : ∃ s, StRd w cs s := by
  obtain ⟨hl, ds, hdl, _, hf⟩ := h.struct z Try.underlying53 (by kernel_rfl) (by kernel_rfl)
  obtain ⟨c0, c1, c2, c3, c4, rfl⟩ := list5 hl
  obtain ⟨d0, d1, d2, d3, d4, rfl⟩ := list5 hdl
  obtain ⟨t0, z0⟩ := hf 0 _ c0 d0 rfl rfl rfl
  obtain ⟨t1, z1⟩ := hf 1 _ c1 d1 rfl rfl rfl
  obtain ⟨t2, z2⟩ := hf 2 _ c2 d2 rfl rfl rfl
  obtain ⟨t3, z3⟩ := hf 3 _ c3 d3 rfl rfl rfl
  obtain ⟨t4, z4⟩ := hf 4 _ c4 d4 rfl rfl rfl
  obtain ⟨n0, e0, w0⟩ := t0.int Try.underlying3
  obtain ⟨n1, e1, w1⟩ := t1.int Try.underlying3
  obtain ⟨a2, m2, p2, l2, e2, s2, b2⟩ := t2.bytes z2 Try.underlying22 Try.underlying5 (by kernel_rfl) (by kernel_rfl)
  obtain ⟨n3, e3, w3⟩ := t3.int Try.underlying3
  obtain ⟨n4, e4, w4⟩ := t4.int Try.underlying3
  injection e0 with e0; injection e1 with e1; injection e2 with e2; injection e3 with e3; injection e4 with e4
  subst e0; subst e1; subst e2; subst e3; subst e4
  exact ⟨⟨n0, n1, l2, n3, n4⟩, ⟨_, _, _, rfl, s2, b2⟩, wf_i64 w0, wf_i64 w1, wf_i64 w3, wf_i64 w4⟩
theorem T0.steps12 {cs : List Value} {d : DataW H} (h : T0 enc Try.prog w 50 cs d) (z : Szd Try.prog 50 d) :
    ∃ (a : Option Addr) (len cap : Nat) (vs : List Value) (ss : List St12), cs = [.slice a len cap] ∧ Sts w a len cap vs ss := by
  obtain ⟨a, len, cap, rows, ds, rfl, hl, hdl, hk, hs, hz, _, hel⟩ := h.slice z Try.underlying50 (k := 5) (by kernel_rfl) (by decide)
  have hel2 : ∀ i, i < len → ∃ (s : St12), ∃ r, rows[i]? = some r ∧ StRd w r s := by
    intro i hi
    have h1 : i < rows.length := by omega
    have h2 : i < ds.length := by omega
    obtain ⟨hT, hZ⟩ := hel i rows[i] ds[i] (List.getElem?_eq_getElem h1) (List.getElem?_eq_getElem h2)
    obtain ⟨s, hs⟩ := hT.step12 hZ
    exact ⟨s, rows[i], List.getElem?_eq_getElem h1, hs⟩
  obtain ⟨f, hf⟩ := choose_upto (n := len) (R := fun i (s : St12) => ∃ r, rows[i]? = some r ∧ StRd w r s) hel2
  refine ⟨a, len, cap, rows.flatten, (List.range len).map f, rfl, ⟨hs, by simp, fun i s hs2 => ?_⟩⟩
  have hi : i < len := by
    have := (List.getElem?_eq_some_iff.1 hs2).1
    simpa using this
  have e : s = f i := by
    rw [List.getElem?_map, List.getElem?_range hi] at hs2
    exact (Option.some.inj hs2).symm
  subst e
  obtain ⟨r, h1, h2⟩ := hf i hi
  exact ⟨r, h2, fun j v hj => flatten_get 5 rows i j r v hk h1 hj⟩
end

/-- what the steps hold -/
def size12 (ss : List St12) : Nat := (ss.map fun s => s.b.length).sum
theorem size12_take (ss : List St12) (k : Nat) (h : k < ss.length) : size12 (ss.take (k + 1)) = size12 (ss.take k) + ss[k].b.length := by
  unfold size12
  rw [List.take_succ_eq_append_getElem h, List.map_append, List.sum_append]
  simp
theorem size12_take_le (ss : List St12) (k : Nat) : size12 (ss.take k) ≤ size12 ss := by
  conv => rhs; rw [← List.take_append_drop k ss]
  unfold size12
  rw [List.map_append, List.sum_append]
  omega
set_option maxHeartbeats 800000 in
theorem size12_any (w : World) {A : Option Addr} {n c : Nat} {vs : List Value} {ss : List St12} (h : Sts w A n c vs ss) (hn : n ≤ 400) :
    Calls Try.prog 36 #[.slice A n c] w fun e w' => ∃ r : Nat, e = .returned (.int .i64 r) ∧ (2097152 < r ↔ 2097152 < size12 ss) ∧ (r ≤ 2097152 → r = size12 ss) ∧ r ≤ 140737490448384 ∧ Drawn w w' := by
  have hl := Lib.hid h.len
  have m1 := h.sl.le; have m2 := h.sl.max
  obtain ⟨T, hT⟩ : ∃ T, T = size12 ss := ⟨_, rfl⟩
  have HT := Lib.hid hT
  rw [← hT]
  clear hT
  go_enter Try.func36, Try.ntmps36
  go_wp2
  go_loopw [3, 4] (fun m i wr => ∃ (k q : Nat), k ≤ n ∧ i = .int .i64 k ∧ m = .int .i64 q ∧ q ≤ 2097152 ∧ Hid (q = size12 (ss.take k)) ∧ Drawn w wr) (fun _ i _ => n - (intOf i).toNat)
  case atStart => exact ⟨0, 0, by omega, rfl, rfl, by omega, Lib.hid rfl, Drawn.refl _⟩
  case round =>
    obtain ⟨k, q, hk, rfl, rfl, hq, hqs, hw⟩ := hrel
    obtain ⟨t, rfl⟩ := hw.out
    by_cases hlt : k < n
    · obtain ⟨b, off, rfl⟩ := h.sl.form (by omega)
      obtain ⟨ba, bn, bc, g0, g1, g2, g3, g4, s1, h3, _⟩ := h.get k (by rw [hl.out]; exact hlt)
      have hk0 : (0 : Int) ≤ (k : Int) := Int.natCast_nonneg _
      have hk1 : (k : Int) < (n : Int) := by omega
      have HQ : Hid (q + bn = size12 (ss.take (k + 1))) := Lib.hid (by
        have hkl : k < ss.length := by rw [hl.out]; exact hlt
        have e1 : ss[k].b.length = bn := by simpa using s1.len
        rw [size12_take ss k (by rw [hl.out]; exact hlt), ← hqs.out, e1])
      have HLe := Lib.hid (size12_take_le ss (k + 1))
      clear g0 g1 g3 g4 s1
      by_cases hbig : 2097152 < q + bn
      · have HF : Hid (2097152 < q + bn ↔ 2097152 < T) := Lib.hid ⟨fun _ => by rw [HT.out]; have := HLe.out; rw [← HQ.out] at this; omega, fun _ => hbig⟩
        go_wp2
        go_ret
        exact ⟨q + bn, by simp, HF.out, fun h => by omega, by omega, (by first | exact ⟨⟨_, rfl⟩⟩ | exact ⟨⟨_, World.drewN_drewN ..⟩⟩)⟩
      · go_wp2
        first | go_roundw | refine ⟨?rel, ?measure⟩
        case rel => exact ⟨k + 1, q + bn, by omega, by go_num, by go_num, by omega, HQ, (by first | exact ⟨⟨_, rfl⟩⟩ | exact ⟨⟨_, World.drewN_drewN ..⟩⟩)⟩
        case measure => simp [intOf]; omega
    · obtain rfl : k = n := by omega
      have HE : Hid (q = T) := Lib.hid (by rw [hqs.out, HT.out, List.take_of_length_le (Nat.le_of_eq hl.out)])
      go_wp2
      go_ret
      exact ⟨q, rfl, by rw [HE.out], fun _ => HE.out, by omega, hw⟩
end Go.Proofs.Ytpjmbhhfpoamnaa

namespace Go.Proofs.Ytpjmbhhfpoamnaa
open Go.RowKit
/-- the flash beside what came in -/
structure FlW (W w : World) (p : Nat) (s : FSt) : Prop where
  out : ∃ G, Fl w p G s ∧ ∀ x ∈ G, W.heap.size ≤ x
  below : Below W.heap.size W w
theorem FlW.then_ {W w w' : World} {p : Nat} {s : FSt} (h : FlW W w p s) (k : Below w.heap.size w w') : FlW W w' p s :=
  let ⟨G, h1, h2⟩ := h.out; ⟨⟨G, h1.below k, h2⟩, bthen h.below k⟩
theorem FlW.step {W w : World} {p : Nat} {s s' : FSt} (h : FlW W w p s) {Q : Ending → Prop} {f : FuncId} {args : Array Value} (hc : ∀ G, Fl w p G s → (∀ x ∈ G, W.heap.size ≤ x ∧ x < w.heap.size) → Calls Try.prog f args w fun e w' => Q e ∧ FStep w w' p G s') :
    Calls Try.prog f args w fun e w' => Q e ∧ FlW W w' p s' := by
  obtain ⟨G, h1, h2⟩ := h.out
  refine (hc G h1 (fun x hx => ⟨h2 x hx, h1.lts x hx⟩)).mono fun e w' ⟨he, k⟩ => ⟨he, ?_⟩
  obtain ⟨G', k1, k2, k3, _⟩ := k.below h.below h2
  exact ⟨⟨G', k1, k3⟩, k2⟩
end Go.Proofs.Ytpjmbhhfpoamnaa

namespace Go.Proofs.Ytpjmbhhfpoamnaa
open Go.RowKit
theorem flash_Append_no (w : World) {p : Nat} {G : List Nat} {s : FSt} (h : Fl w p G s) (n : Int) (hr : refusedF s n ≠ 0) (A : Option Addr) (m c : Nat) :
    Calls Try.prog 23 #[.pointer (some ⟨p, 0, none⟩), .int .i64 n, .slice A m c] w fun e w' => e = .returned (.int .i64 (refusedF s n : Nat)) ∧ w = w' := by
  have HA := Lib.hid (flash_at_no w h n hr)
  have q : (((refusedF s n : Nat) : Int) != 0) = true := by simp; omega
  obtain ⟨r, hre⟩ : ∃ r, r = refusedF s n := ⟨_, rfl⟩
  rw [← hre] at HA q ⊢
  clear hre hr
  go_enter Try.func23, Try.ntmps23
  go_wp2_with (first | (at_builtin; refine Stopped.out ?_) | (at_make; refine Stopped.out ?_))
  refine HA.out.mono ?_
  rintro e w' ⟨rfl, rfl⟩
  go_wp2
  go_ret
  exact ⟨rfl, rfl⟩
theorem flash_Erase_no (w : World) {p : Nat} {G : List Nat} {s : FSt} (h : Fl w p G s) (n : Int) (hr : refusedF s n ≠ 0) :
    Calls Try.prog 35 #[.pointer (some ⟨p, 0, none⟩), .int .i64 n] w fun e w' => e = .returned (.int .i64 (refusedF s n : Nat)) ∧ w = w' := by
  have HA := Lib.hid (flash_at_no w h n hr)
  have q : (((refusedF s n : Nat) : Int) != 0) = true := by simp; omega
  obtain ⟨r, hre⟩ : ∃ r, r = refusedF s n := ⟨_, rfl⟩
  rw [← hre] at HA q ⊢
  clear hre hr
  go_enter Try.func35, Try.ntmps35
  go_wp2_with (first | (at_builtin; refine Stopped.out ?_) | (at_make; refine Stopped.out ?_))
  refine HA.out.mono ?_
  rintro e w' ⟨rfl, rfl⟩
  go_wp2
  go_ret
  exact ⟨rfl, rfl⟩
theorem FlW.stepAt {W w w1 : World} {p : Nat} {s s' : FSt} (h : FlW W w p s) (kb : Below w.heap.size w w1) {Q : Ending → Prop} {f : FuncId} {args : Array Value} (hc : ∀ G, Fl w1 p G s → (∀ x ∈ G, W.heap.size ≤ x ∧ x < w.heap.size) → Calls Try.prog f args w1 fun e w' => Q e ∧ FStep w1 w' p G s') :
    Calls Try.prog f args w1 fun e w' => Q e ∧ FlW W w' p s' := by
  obtain ⟨G, h1, h2⟩ := h.out
  refine (hc G (h1.below kb) (fun x hx => ⟨h2 x hx, h1.lts x hx⟩)).mono fun e w' ⟨he, k⟩ => ⟨he, ?_⟩
  obtain ⟨G', k1, k2, k3, _⟩ := k.below (bthen h.below kb) h2
  exact ⟨⟨G', k1, k3⟩, k2⟩
theorem one_u8 (w : World) (j : Nat) : Sl (w.alloc (.cells #[.int .u8 ((j : Int) % 256)] 5)) 1 (some ⟨w.heap.size, 0, none⟩) 1 1 ([UInt8.ofNat j].map by8) := by
  have e : [UInt8.ofNat j].map by8 = [.int .u8 ((j : Int) % 256)] := by simp [by8]
  rw [e]
  exact Sl.fresh w [.int .u8 ((j : Int) % 256)] _ 1 1 rfl (by decide)
theorem strike_no {s : FSt} {c : Nat × Nat} {r : List (Nat × Nat)} (h : s.armed = c :: r) (hc : s.count + 1 < c.1) : strikeF s = { s with writes := s.writes + 1, count := s.count + 1 } ∧ struckF s = false ∧ keepF s = 0 := by
  simp [strikeF, struckF, keepF, h, hc]
theorem strike_yes {s : FSt} {c : Nat × Nat} {r : List (Nat × Nat)} (h : s.armed = c :: r) (hc : ¬ s.count + 1 < c.1) : strikeF s = { s with writes := s.writes + 1, armed := r, count := 0, down := true } ∧ struckF s = true ∧ keepF s = c.2 := by
  simp [strikeF, struckF, keepF, h, hc]
end Go.Proofs.Ytpjmbhhfpoamnaa

namespace Go.Proofs.Ytpjmbhhfpoamnaa
open Go.RowKit
def appF (s : FSt) (n : Int) (l : List UInt8) : FSt × Nat :=
  if refusedF s n ≠ 0 then (s, refusedF s n) else if s.size < (bankF s n.toNat).length + l.length then (s, 122) else (addB (strikeF s) n.toNat (if struckF s then l.take (keepF s) else l), if struckF s then 121 else 0)
def eraF (s : FSt) (n : Int) : FSt × Nat :=
  if refusedF s n ≠ 0 then (s, refusedF s n) else (setB (strikeF s) n.toNat (eraL s (bankF s n.toNat)), if struckF s then 121 else 0)
def armF (s : FSt) (a k : Int) : FSt × Nat :=
  if a < 1 ∨ 1000000 < a ∨ k < 0 ∨ 1048576 < k then (s, 2) else if 64 ≤ s.armed.length then (s, 1) else ({ s with armed := s.armed ++ [(a.toNat, k.toNat)] }, 0)
def rstF (s : FSt) : FSt × Nat := ({ s with down := false }, if s.down then 0 else 123)
def doesF (s : FSt) (t : St12) : FSt × Nat :=
  if t.kd = 1 then appF s t.bank t.b else if t.kd = 2 then eraF s t.bank else if t.kd = 5 then armF s t.x t.y else if t.kd = 6 then ({ s with armed := [], count := 0 }, 0) else if t.kd = 7 then rstF s else (s, 0)
theorem refused_zero {s : FSt} {n : Int} (h : refusedF s n = 0) : (n = 0 ∨ n = 1) ∧ s.down = false := by
  unfold refusedF at h
  split at h
  · cases h
  · split at h
    · cases h
    · rename_i h1 h2
      refine ⟨by omega, by simpa using h2⟩
theorem flash_Append (w : World) {p : Nat} {G : List Nat} {s : FSt} (h : Fl w p G s) (hk : FOk s) (n : Int) {A : Option Addr} {m c : Nat} {l : List UInt8} (hb : Sl w 1 A m c (l.map by8)) (hA : ∀ ad, A = some ad → 0 < m → ad.block ∉ G) (hm : m ≤ 140737488355328) :
    Calls Try.prog 23 #[.pointer (some ⟨p, 0, none⟩), .int .i64 n, .slice A m c] w fun e w' => e = .returned (.int .i64 ((appF s n l).2 : Nat)) ∧ FStep w w' p G (appF s n l).1 := by
  have hl : l.length = m := by simpa using hb.len
  have hstay : FStep w w p G s := ⟨G, h, Keep.refl _ _, fun x hx => .inl hx⟩
  by_cases hr : refusedF s n ≠ 0
  · refine (flash_Append_no w h n hr A m c).mono fun e w' ⟨he, hw⟩ => ?_
    subst hw
    rw [appF, if_pos hr]
    exact ⟨he, hstay⟩
  · have hr0 : refusedF s n = 0 := by omega
    obtain ⟨hn, hd⟩ := refused_zero hr0
    by_cases hf : s.size < (bankF s n.toNat).length + l.length
    · have hbl : (bankF s n.toNat).length ≤ s.size := by unfold bankF; split; exact hk.b0; exact hk.b1
      have := flash_Append_full w h n.toNat (by omega) hd hk.size hbl (A := A) (m := m) (c := c) hm (by omega)
      rw [show ((n.toNat : Nat) : Int) = n by omega] at this
      refine this.mono fun e w' ⟨he, hw⟩ => ?_
      rw [appF, if_neg hr, if_pos hf]
      exact ⟨he, G, h.below hw.below, hw.keep G, fun x hx => .inl hx⟩
    · rw [appF, if_neg hr, if_neg hf]
      rcases hn with rfl | rfl
      · exact flash_Append_any0 w h hk hd hb hA (by have : bankF s (0 : Int).toNat = s.b0 := rfl; rw [this] at hf; omega)
      · exact flash_Append_any1 w h hk hd hb hA (by have : bankF s (1 : Int).toNat = s.b1 := rfl; rw [this] at hf; omega)
theorem flash_Erase (w : World) {p : Nat} {G : List Nat} {s : FSt} (h : Fl w p G s) (hk : FOk s) (n : Int) :
    Calls Try.prog 35 #[.pointer (some ⟨p, 0, none⟩), .int .i64 n] w fun e w' => e = .returned (.int .i64 ((eraF s n).2 : Nat)) ∧ FStep w w' p G (eraF s n).1 := by
  by_cases hr : refusedF s n ≠ 0
  · refine (flash_Erase_no w h n hr).mono fun e w' ⟨he, hw⟩ => ?_
    subst hw
    rw [eraF, if_pos hr]
    exact ⟨he, G, h, Keep.refl _ _, fun x hx => .inl hx⟩
  · obtain ⟨hn, hd⟩ := refused_zero (show refusedF s n = 0 by omega)
    rw [eraF, if_neg hr]
    rcases hn with rfl | rfl
    · exact flash_Erase_any0 w h hk hd
    · exact flash_Erase_any1 w h hk hd
set_option maxHeartbeats 800000 in
theorem flash_Arm_no (w : World) (p : Nat) (a k : Int) (h : a < 1 ∨ 1000000 < a ∨ k < 0 ∨ 1048576 < k) :
    Calls Try.prog 31 #[.pointer (some ⟨p, 0, none⟩), .int .i64 a, .int .i64 k] w fun e w' => e = .returned (.int .i64 2) ∧ w = w' := by
  by_cases h1 : a < 1
  · go_enter Try.func31, Try.ntmps31
    go_wp2
    go_ret
    exact ⟨rfl, rfl⟩
  have d1 : decide (a < 1) = false := decide_eq_false h1
  by_cases h2 : 1000000 < a
  · clear h1
    go_enter Try.func31, Try.ntmps31
    go_wp2
    go_ret
    exact ⟨rfl, rfl⟩
  have d2 : decide (1000000 < a) = false := decide_eq_false h2
  by_cases h3 : k < 0
  · clear h1 h2
    go_enter Try.func31, Try.ntmps31
    go_wp2
    go_ret
    exact ⟨rfl, rfl⟩
  have d3 : decide (k < 0) = false := decide_eq_false h3
  have h4 : 1048576 < k := by omega
  clear h1 h2 h3 h
  go_enter Try.func31, Try.ntmps31
  go_wp2
  go_ret
  exact ⟨rfl, rfl⟩
set_option maxHeartbeats 800000 in
theorem flash_Arm_full (w : World) {p : Nat} {G : List Nat} {s : FSt} (h : Fl w p G s) (a k : Int) (h1 : ¬ (a < 1 ∨ 1000000 < a ∨ k < 0 ∨ 1048576 < k)) (hl : 64 ≤ s.armed.length) :
    Calls Try.prog 31 #[.pointer (some ⟨p, 0, none⟩), .int .i64 a, .int .i64 k] w fun e w' => e = .returned (.int .i64 1) ∧ w = w' := by
  have d1 : decide (a < 1) = false := decide_eq_false (by omega)
  have d2 : decide (1000000 < a) = false := decide_eq_false (by omega)
  have d3 : decide (k < 0) = false := decide_eq_false (by omega)
  have d4 : decide (1048576 < k) = false := decide_eq_false (by omega)
  obtain ⟨v0, v1, va, hblk, r0, r1, ra, _⟩ := h.out
  obtain ⟨Aa, ca, rfl, sa, _⟩ := own_sl ra
  obtain ⟨n, hne⟩ : ∃ n, n = s.armed.length := ⟨_, rfl⟩
  have c3 : w.cell? ⟨p, 3, none⟩ = some (.slice Aa n ca) := by rw [hne]; exact box_cell hblk 3 _ rfl
  rw [← hne] at hl
  have i1 : (64 : Int) ≤ (n : Int) := by omega
  clear h h1 hblk r0 r1 ra sa hne
  go_enter Try.func31, Try.ntmps31
  go_wp2
  go_ret
  exact ⟨rfl, rfl⟩
theorem flash_Arm (w : World) {p : Nat} {G : List Nat} {s : FSt} (h : Fl w p G s) (a k : Int) :
    Calls Try.prog 31 #[.pointer (some ⟨p, 0, none⟩), .int .i64 a, .int .i64 k] w fun e w' => e = .returned (.int .i64 ((armF s a k).2 : Nat)) ∧ FStep w w' p G (armF s a k).1 := by
  have hstay : FStep w w p G s := ⟨G, h, Keep.refl _ _, fun x hx => .inl hx⟩
  by_cases h1 : a < 1 ∨ 1000000 < a ∨ k < 0 ∨ 1048576 < k
  · refine (flash_Arm_no w p a k h1).mono fun e w' ⟨he, hw⟩ => ?_
    subst hw
    rw [armF, if_pos h1]
    exact ⟨he, hstay⟩
  · by_cases h2 : 64 ≤ s.armed.length
    · refine (flash_Arm_full w h a k h1 h2).mono fun e w' ⟨he, hw⟩ => ?_
      subst hw
      rw [armF, if_neg h1, if_pos h2]
      exact ⟨he, hstay⟩
    · rw [armF, if_neg h1, if_neg h2]
      have := flash_Arm_yes w h a.toNat k.toNat (by omega) (by omega) (by omega)
      rwa [show ((a.toNat : Nat) : Int) = a by omega, show ((k.toNat : Nat) : Int) = k by omega] at this
end Go.Proofs.Ytpjmbhhfpoamnaa
