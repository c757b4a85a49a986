import Derived.Test.YtdooabbeolfgfaaPl01a
set_option linter.unusedVariables false
set_option linter.unusedSimpArgs false
namespace Go.Proofs.Ytdooabbeolfgfaa
open Go.RowKit
def ldF (f : List UInt8 → Nat) (W : Nat) (l : List UInt8) (n : Int) : Nat × Bool := if 0 ≤ n ∧ n + W ≤ l.length then (f ((l.drop n.toNat).take W), true) else (0, false)
theorem bBE32 (w : World) {A : Option Addr} {m c : Nat} {l : List UInt8} (h : Sl w 1 A m c (l.map by8)) (n : Int) (h2 : n ≤ 9223372036854775807) :
    Calls Try.prog 123 #[.slice A m c, .int .i64 n] w fun e w' => e = .returned (.tuple #[.int .u32 ((ldF be 4 l n).1 : Nat), .bool (ldF be 4 l n).2]) ∧ w = w' := by
  have hl : l.length = m := by simpa using h.len
  unfold ldF
  split
  · rename_i hc
    obtain ⟨a, rfl⟩ : ∃ a : Nat, n = a := ⟨n.toNat, by omega⟩
    exact LoadBE32_yes w h a (by omega)
  · rename_i hc
    exact LoadBE32_no w h.le h.max n (by omega) h2
theorem rBE32 (w : World) {A : Option Addr} {m c : Nat} {l : List UInt8} (h : Sl w 1 A m c (l.map by8)) (n : Int) (h2 : n ≤ 9223372036854775807) :
    Calls Try.prog 124 #[.slice A m c, .int .i64 n] w fun e w' => e = .returned (.tuple #[.int .u32 ((ldF be 4 l n).1 : Nat), .bool (ldF be 4 l n).2]) ∧ w = w' := by
  have hl : l.length = m := by simpa using h.len
  unfold ldF
  split
  · rename_i hc
    obtain ⟨a, rfl⟩ : ∃ a : Nat, n = a := ⟨n.toNat, by omega⟩
    exact refLoadBE32_yes w h a (by omega)
  · rename_i hc
    exact refLoadBE32_no w h.le h.max n (by omega) h2
theorem bLE32 (w : World) {A : Option Addr} {m c : Nat} {l : List UInt8} (h : Sl w 1 A m c (l.map by8)) (n : Int) (h2 : n ≤ 9223372036854775807) :
    Calls Try.prog 26 #[.slice A m c, .int .i64 n] w fun e w' => e = .returned (.tuple #[.int .u32 ((ldF le 4 l n).1 : Nat), .bool (ldF le 4 l n).2]) ∧ w = w' := by
  have hl : l.length = m := by simpa using h.len
  unfold ldF
  split
  · rename_i hc
    obtain ⟨a, rfl⟩ : ∃ a : Nat, n = a := ⟨n.toNat, by omega⟩
    exact LoadLE32_yes w h a (by omega)
  · rename_i hc
    exact LoadLE32_no w h.le h.max n (by omega) h2
theorem rLE32 (w : World) {A : Option Addr} {m c : Nat} {l : List UInt8} (h : Sl w 1 A m c (l.map by8)) (n : Int) (h2 : n ≤ 9223372036854775807) :
    Calls Try.prog 125 #[.slice A m c, .int .i64 n] w fun e w' => e = .returned (.tuple #[.int .u32 ((ldF le 4 l n).1 : Nat), .bool (ldF le 4 l n).2]) ∧ w = w' := by
  have hl : l.length = m := by simpa using h.len
  unfold ldF
  split
  · rename_i hc
    obtain ⟨a, rfl⟩ : ∃ a : Nat, n = a := ⟨n.toNat, by omega⟩
    exact refLoadLE32_yes w h a (by omega)
  · rename_i hc
    exact refLoadLE32_no w h.le h.max n (by omega) h2
theorem bBE64 (w : World) {A : Option Addr} {m c : Nat} {l : List UInt8} (h : Sl w 1 A m c (l.map by8)) (n : Int) (h2 : n ≤ 9223372036854775807) :
    Calls Try.prog 25 #[.slice A m c, .int .i64 n] w fun e w' => e = .returned (.tuple #[.int .u64 ((ldF be 8 l n).1 : Nat), .bool (ldF be 8 l n).2]) ∧ w = w' := by
  have hl : l.length = m := by simpa using h.len
  unfold ldF
  split
  · rename_i hc
    obtain ⟨a, rfl⟩ : ∃ a : Nat, n = a := ⟨n.toNat, by omega⟩
    exact LoadBE64_yes w h a (by omega)
  · rename_i hc
    exact LoadBE64_no w h.le h.max n (by omega) h2
theorem rBE64 (w : World) {A : Option Addr} {m c : Nat} {l : List UInt8} (h : Sl w 1 A m c (l.map by8)) (n : Int) (h2 : n ≤ 9223372036854775807) :
    Calls Try.prog 126 #[.slice A m c, .int .i64 n] w fun e w' => e = .returned (.tuple #[.int .u64 ((ldF be 8 l n).1 : Nat), .bool (ldF be 8 l n).2]) ∧ w = w' := by
  have hl : l.length = m := by simpa using h.len
  unfold ldF
  split
  · rename_i hc
    obtain ⟨a, rfl⟩ : ∃ a : Nat, n = a := ⟨n.toNat, by omega⟩
    exact refLoadBE64_yes w h a (by omega)
  · rename_i hc
    exact refLoadBE64_no w h.le h.max n (by omega) h2
theorem bLE64 (w : World) {A : Option Addr} {m c : Nat} {l : List UInt8} (h : Sl w 1 A m c (l.map by8)) (n : Int) (h2 : n ≤ 9223372036854775807) :
    Calls Try.prog 127 #[.slice A m c, .int .i64 n] w fun e w' => e = .returned (.tuple #[.int .u64 ((ldF le 8 l n).1 : Nat), .bool (ldF le 8 l n).2]) ∧ w = w' := by
  have hl : l.length = m := by simpa using h.len
  unfold ldF
  split
  · rename_i hc
    obtain ⟨a, rfl⟩ : ∃ a : Nat, n = a := ⟨n.toNat, by omega⟩
    exact LoadLE64_yes w h a (by omega)
  · rename_i hc
    exact LoadLE64_no w h.le h.max n (by omega) h2
theorem rLE64 (w : World) {A : Option Addr} {m c : Nat} {l : List UInt8} (h : Sl w 1 A m c (l.map by8)) (n : Int) (h2 : n ≤ 9223372036854775807) :
    Calls Try.prog 128 #[.slice A m c, .int .i64 n] w fun e w' => e = .returned (.tuple #[.int .u64 ((ldF le 8 l n).1 : Nat), .bool (ldF le 8 l n).2]) ∧ w = w' := by
  have hl : l.length = m := by simpa using h.len
  unfold ldF
  split
  · rename_i hc
    obtain ⟨a, rfl⟩ : ∃ a : Nat, n = a := ⟨n.toNat, by omega⟩
    exact refLoadLE64_yes w h a (by omega)
  · rename_i hc
    exact refLoadLE64_no w h.le h.max n (by omega) h2
end Go.Proofs.Ytdooabbeolfgfaa
