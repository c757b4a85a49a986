import Derived.Test.YtpjmbhhfpoamnaaRows
import Derived.Test.YtpjmbhhfpoamnaaPre
import Derived.OpenShut
import Derived.ShutString
import Derived.ChangeOld
import Derived.SizedLaws
import Derived.JoinedCond
set_option linter.unusedVariables false
set_option linter.unusedSimpArgs false
namespace Go.Proofs.Ytpjmbhhfpoamnaa
open Go.ChangeShapes Go.WideShapes Go.ChangeAt Go.RowKit
open Go.ChangeMaps (open_string shut_string)

theorem own : ownKnob Try.prog.godebug = none := by kernel_rfl
theorem laidOut : laidOutB Try.prog = true := by kernel_rfl
theorem u8_of {n : Int} (h : (Lit.int .u8 n).wf = true) : Value.int .u8 n = u8 (UInt8.ofNat n.toNat) := by
  have hx : 0 ≤ n ∧ n ≤ 255 := by simpa [Lit.wf, IntKind.min, IntKind.max, IntKind.signed, IntKind.bits] using h
  unfold u8
  rw [UInt8.toNat_ofNat']
  congr 1
  omega
/-- bytes that came in -/
theorem open_bytes {H : Type} {enc : TypeId × Value → H} {P : Program} {w : World} {t e : TypeId} {a : Option Addr} {len cap : Nat} {d : DataW H} {ps : List MemPlace} (ht : P.underlying t = some (.slice e)) (he : P.underlying e = some (.int .u8)) (hc : P.cellsOf e = 1)
    (h : DataW.Trod enc P w 0 (fun _ => true) true t (.slice a len cap) d ps) :
    ∃ l : List UInt8, Sl w 1 a len cap (l.map u8) ∧ ((a = none ∧ len = 0 ∧ d = .nil) ∨ ∃ es sp, d = .slice es sp ∧ es.length + sp.length = cap) := by
  obtain ⟨fuel, hf⟩ := h
  rcases open_ints ht he hc hf with ⟨hcs, hx⟩ | ⟨x, l, c, zs, hcs, _, hl, hm, hz, hx, hcell, hwz⟩
  · simp [Value.cells] at hcs
    obtain ⟨rfl, rfl, rfl⟩ := hcs
    exact ⟨[], by simpa using Sl.nilS w 1, .inl ⟨rfl, rfl, by injection hx⟩⟩
  · simp [Value.cells] at hcs
    obtain ⟨rfl, rfl, rfl⟩ := hcs
    simp only [if_true] at hz
    refine ⟨(zs.take len).map fun n => UInt8.ofNat n.toNat, ⟨by simp; omega, hl, by simpa [maxLen] using hm, (fun e => by cases e), fun ad e hp => ?_⟩, .inr ⟨_, _, by injection hx, by simp [lits, hz]; omega⟩⟩
    obtain rfl := Option.some.inj e
    have hlen : 0 < len := by simp at hp; omega
    have hspot : x.spot = none := by
      have h0 := hcell 0 (by omega)
      have : x.add 0 = x := by simp [Addr.add]
      rw [this] at h0
      exact World.cell?_spot h0
    refine ⟨hspot, fun i hi => ?_⟩
    have hi2 : i < len := by simp at hi; omega
    have h1 := hcell i (by omega)
    have e1 : x.add i = ⟨x.block, x.off + i, none⟩ := by
      unfold Addr.add
      split
      · rename_i h; subst h; cases x; simp_all
      · rfl
    rw [e1] at h1
    rw [h1]
    simp only [List.getElem_map, List.getElem_take]
    rw [← u8_of (hwz _ (List.getElem_mem (by omega)))]
    simp [show i < zs.length by omega]
theorem bytes_reach {H : Type} {P : Program} {ts : List TypeId} {ds : List (DataW H)} {j : Nat} {t e : TypeId} {a : Option Addr} {len cap : Nat} {d : DataW H} (h : (DataW.weightsEach P ts ds).all (· ≤ reachBytes) = true) (ht : ts[j]? = some t) (hd : ds[j]? = some d) (hu : P.underlying t = some (.slice e)) (hb : P.bytesOf e = 1)
    (hle : len ≤ cap) (hk : (a = none ∧ len = 0 ∧ d = .nil) ∨ ∃ es sp, d = .slice es sp ∧ es.length + sp.length = cap) : len ≤ 140737488351232 := by
  rcases hk with ⟨_, rfl, _⟩ | ⟨es, sp, rfl, hl⟩
  · omega
  · have := sized_slice h ht hd hu
    rw [hb, hl] at this
    have : cap * 1 ≤ 140737488351232 := this
    omega
end Go.Proofs.Ytpjmbhhfpoamnaa
