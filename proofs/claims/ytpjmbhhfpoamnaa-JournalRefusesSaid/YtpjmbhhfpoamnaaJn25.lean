import Derived.Test.YtpjmbhhfpoamnaaJn24
import Derived.Test.YtpjmbhhfpoamnaaOps14
import Derived.Deep.CutRange
import Derived.Deep.CutBlock
set_option linter.unusedVariables false
set_option linter.unusedSimpArgs false
namespace Go.Proofs.Ytpjmbhhfpoamnaa
open Go.RowKit
theorem openF_new (z : Int) : openF ⟨capF z, [], [], [], 0, 0, false⟩ = (none, ⟨capF z, [], [], [], 0, 0, false⟩, 140) := by
  unfold openF
  simp only [readB_nil]
  rfl
/-- a frame's bytes, or none -/
theorem Encode_rec (w : World) {A : Option Addr} {n c : Nat} {l : List UInt8} (h : Sl w 1 A n c (l.map by8)) :
    Calls Try.prog 45 #[.int .u8 82, .slice A n c] w fun e w' => ∃ (a : Option Addr) (b d : Nat) (f : Bool), e = .returned (.tuple #[.slice a b d, .bool f]) ∧ ((l.length ≤ 262144 ∧ f = true ∧ b = l.length + 10) ∨ (262144 < l.length ∧ f = false)) ∧ Below w.heap.size w w' := by
  have hl : l.length = n := by simpa using h.len
  by_cases hn : n ≤ 262144
  · refine (Encode_yes w 82 h hn).mono ?_
    rintro e w' ⟨g, rfl, _, k⟩
    exact ⟨_, _, _, _, rfl, .inl ⟨by omega, rfl, by omega⟩, k⟩
  · refine (Encode_no w 82 (A := A) (c := c) (by omega)).mono ?_
    rintro e w' ⟨rfl, rfl⟩
    exact ⟨_, _, _, _, rfl, .inr ⟨by omega, rfl⟩, Below.refl _ _⟩
/-- what a journal tells of itself -/
def Four (wx : World) (p q R E C V : Nat) : Prop :=
  (Calls Try.prog 62 #[.pointer (some ⟨q, 0, none⟩)] wx fun e w' => e = .returned (.int .i64 (R : Nat)) ∧ Below wx.heap.size wx w') ∧
  (Calls Try.prog 63 #[.pointer (some ⟨q, 0, none⟩)] wx fun e w' => e = .returned (.int .i64 (E : Nat)) ∧ wx = w') ∧
  (Calls Try.prog 60 #[.pointer (some ⟨q, 0, none⟩)] wx fun e w' => e = .returned (.int .i64 (C : Nat)) ∧ wx = w') ∧
  (Calls Try.prog 33 #[.pointer (some ⟨p, 0, none⟩)] wx fun e w' => e = .returned (.int .i64 (V : Nat)) ∧ wx = w')
theorem four {K N : Nat} {W wx : World} {p q : Nat} {G : List Nat} {j : JSt} {s : FSt} {h : Hd} (J : JI K j s h) (hok : FOkN N s) (hN : N ≤ 4611686018427387904) (H : JW W wx p q G j s) : Four wx p q (jroom j s) j.epoch j.count s.writes := by
  refine ⟨JRoom_any wx H.jo H.fl (hok.ok hN) J.bank, (JEpoch_any wx H.jo).mono ?_, (JCount_any wx H.jo).mono ?_, flash_Writes wx H.fl⟩
  · rintro e w' ⟨rfl, rfl⟩
    exact ⟨by rw [J.dead]; rfl, rfl⟩
  · rintro e w' ⟨rfl, rfl⟩
    exact ⟨by rw [J.dead]; rfl, rfl⟩
/-- behind the switch: what g says -/
structure RfC (W wr : World) (p q k R E C V g : Nat) : Prop where
  out : ∃ G j s h, JW W wr p q G j s ∧ JI 0 j s h ∧ s.armed = [] ∧ FOkN (1 + 5 * k + 4) s ∧ (g ≠ 0 → jroom j s = R ∧ j.epoch = E ∧ j.count = C ∧ s.writes = V)
def cA : Code → Code
  | .seq a _ => a
  | c => c
def cB : Code → Code
  | .seq _ b => b
  | c => c
def cK : Code → Code
  | .block _ c => c
  | .loop c => c
  | c => c
end Go.Proofs.Ytpjmbhhfpoamnaa
