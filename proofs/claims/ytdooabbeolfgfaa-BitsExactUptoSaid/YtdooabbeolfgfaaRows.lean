/-
  No cell of these rows narrows 'for every input' (looked for: loops, veiled, ifaces, maps, wideKeys, modest, calm, conditions, laid).
  DERIVED. THE GIVEN ROWS OF THIS SEAT. 12 by the template 'for every input the law returns true; each argument reads behind the call as it read before'; 0 by the template 'total and deterministic' (their statements: YtdooabbeolfgfaaTotals.lean).
  GIVEN WITH THE SEED: the statements are not yours to turn. If you find one false, say at which input.
  Laid BY PROGRAM, IN A SANDBOX (cutbox-rows.mjs): the forced cells as the released guide's own fill.sh prints them over the translation 2daf8ffcd20a3629… (all of the seat's roots in one cut). By AI agents, Wed Nov 11 2026. No macro, syntax, notation, axiom, sorry.
-/
import Derived.Test.YtdooabbeolfgfaaChecked
import GoSem.Claim
import GoSem.ClaimJoined
import GoSem.ClaimMapViews
import Derived.JoinedTies
import Derived.KernelRfl
namespace Go.Proofs.Ytdooabbeolfgfaa
/- THE CELL 'sum', in the pinned program and in every row, IS THE sha256 OF THE DUMP (.gsa) THAT YtdooabbeolfgfaaProg.lean LOADS. Nothing in Lean hashes anything: it is a label: what it is worth is what the hold of that sum in a sandbox is worth. -/
noncomputable def Try.pinned : Pinned := { name := "ytdooabbeolfgfaa", sum := "2daf8ffcd20a36294f6b05ad9550a04b5e5da133b206b1bba6bd8f50ce8f1bc6", checked := Try.checked }
namespace Rows
def none {H : Type} : Left H := { results := [], args := [] }

/-- 'fareboxlaw01.BitsTurns': WHATEVER THE INPUT: true; the input reads as it did. -/
def bitsTurnsSpec : ChangeSpec := { name := "bitsTurns", fn := fun _ => fun
  | [d1, d2, d3] => { results := [.lit (.bool true)], args := [d1, d2, d3] }
  | _ => none }
def bitsTurnsRow : OpenClaim := { program := "ytdooabbeolfgfaa", sum := "2daf8ffcd20a36294f6b05ad9550a04b5e5da133b206b1bba6bd8f50ce8f1bc6", func := "farebox/fareboxlaw01.BitsTurns", spec := "bitsTurns", apart := false }
def BitsTurnsSaid : Prop := bitsTurnsRow.holds Try.pinned (OpenSpec.ofChange bitsTurnsSpec)

/-- ITS FALSE NEIGHBOUR: 'it returns false'. Refute it at one input. -/
def bitsTurnsWrong : ChangeSpec := { name := "bitsTurns", fn := fun _ => fun
  | [d1, d2, d3] => { results := [.lit (.bool false)], args := [d1, d2, d3] }
  | _ => none }
def BitsTurnsWrongFalsely : Prop := bitsTurnsRow.holds Try.pinned (OpenSpec.ofChange bitsTurnsWrong)

/-- 'fareboxlaw01.BitsBack': WHATEVER THE INPUT: true; the input reads as it did. -/
def bitsBackSpec : ChangeSpec := { name := "bitsBack", fn := fun _ => fun
  | [d] => { results := [.lit (.bool true)], args := [d] }
  | _ => none }
def bitsBackRow : OpenClaim := { program := "ytdooabbeolfgfaa", sum := "2daf8ffcd20a36294f6b05ad9550a04b5e5da133b206b1bba6bd8f50ce8f1bc6", func := "farebox/fareboxlaw01.BitsBack", spec := "bitsBack", apart := false }
def BitsBackSaid : Prop := bitsBackRow.holds Try.pinned (OpenSpec.ofChange bitsBackSpec)

/-- ITS FALSE NEIGHBOUR: 'it returns false'. Refute it at one input. -/
def bitsBackWrong : ChangeSpec := { name := "bitsBack", fn := fun _ => fun
  | [d] => { results := [.lit (.bool false)], args := [d] }
  | _ => none }
def BitsBackWrongFalsely : Prop := bitsBackRow.holds Try.pinned (OpenSpec.ofChange bitsBackWrong)

/-- 'fareboxlaw01.BitsExact': WHATEVER THE INPUT: true; the input reads as it did. -/
def bitsExactSpec : ChangeSpec := { name := "bitsExact", fn := fun _ => fun
  | [d] => { results := [.lit (.bool true)], args := [d] }
  | _ => none }
def bitsExactRow : OpenClaim := { program := "ytdooabbeolfgfaa", sum := "2daf8ffcd20a36294f6b05ad9550a04b5e5da133b206b1bba6bd8f50ce8f1bc6", func := "farebox/fareboxlaw01.BitsExact", spec := "bitsExact", apart := false }
def BitsExactSaid : Prop := bitsExactRow.holds Try.pinned (OpenSpec.ofChange bitsExactSpec)

/-- ITS FALSE NEIGHBOUR: 'it returns false'. Refute it at one input. -/
def bitsExactWrong : ChangeSpec := { name := "bitsExact", fn := fun _ => fun
  | [d] => { results := [.lit (.bool false)], args := [d] }
  | _ => none }
def BitsExactWrongFalsely : Prop := bitsExactRow.holds Try.pinned (OpenSpec.ofChange bitsExactWrong)

/-- 'fareboxlaw09.WireHeads': WHATEVER THE INPUT: true; the input reads as it did. -/
def wireHeadsSpec : ChangeSpec := { name := "wireHeads", fn := fun _ => fun
  | [d1, d2] => { results := [.lit (.bool true)], args := [d1, d2] }
  | _ => none }
def wireHeadsRow : OpenClaim := { program := "ytdooabbeolfgfaa", sum := "2daf8ffcd20a36294f6b05ad9550a04b5e5da133b206b1bba6bd8f50ce8f1bc6", func := "farebox/fareboxlaw09.WireHeads", spec := "wireHeads", apart := false }
def WireHeadsSaid : Prop := wireHeadsRow.holds Try.pinned (OpenSpec.ofChange wireHeadsSpec)

/-- ITS FALSE NEIGHBOUR: 'it returns false'. Refute it at one input. -/
def wireHeadsWrong : ChangeSpec := { name := "wireHeads", fn := fun _ => fun
  | [d1, d2] => { results := [.lit (.bool false)], args := [d1, d2] }
  | _ => none }
def WireHeadsWrongFalsely : Prop := wireHeadsRow.holds Try.pinned (OpenSpec.ofChange wireHeadsWrong)

/-- 'fareboxlaw09.WireDomains': WHATEVER THE INPUT: true; the input reads as it did. -/
def wireDomainsSpec : ChangeSpec := { name := "wireDomains", fn := fun _ => fun
  | [d1, d2, d3] => { results := [.lit (.bool true)], args := [d1, d2, d3] }
  | _ => none }
def wireDomainsRow : OpenClaim := { program := "ytdooabbeolfgfaa", sum := "2daf8ffcd20a36294f6b05ad9550a04b5e5da133b206b1bba6bd8f50ce8f1bc6", func := "farebox/fareboxlaw09.WireDomains", spec := "wireDomains", apart := false }
def WireDomainsSaid : Prop := wireDomainsRow.holds Try.pinned (OpenSpec.ofChange wireDomainsSpec)

/-- ITS FALSE NEIGHBOUR: 'it returns false'. Refute it at one input. -/
def wireDomainsWrong : ChangeSpec := { name := "wireDomains", fn := fun _ => fun
  | [d1, d2, d3] => { results := [.lit (.bool false)], args := [d1, d2, d3] }
  | _ => none }
def WireDomainsWrongFalsely : Prop := wireDomainsRow.holds Try.pinned (OpenSpec.ofChange wireDomainsWrong)

/-- 'fareboxlaw09.WireWrites': WHATEVER THE INPUT: true; the input reads as it did. -/
def wireWritesSpec : ChangeSpec := { name := "wireWrites", fn := fun _ => fun
  | [d] => { results := [.lit (.bool true)], args := [d] }
  | _ => none }
def wireWritesRow : OpenClaim := { program := "ytdooabbeolfgfaa", sum := "2daf8ffcd20a36294f6b05ad9550a04b5e5da133b206b1bba6bd8f50ce8f1bc6", func := "farebox/fareboxlaw09.WireWrites", spec := "wireWrites", unfollowed := true, recurses := true, apart := false }
def WireWritesSaid : Prop := wireWritesRow.holds Try.pinned (OpenSpec.ofChange wireWritesSpec)

/-- ITS FALSE NEIGHBOUR: 'it returns false'. Refute it at one input. -/
def wireWritesWrong : ChangeSpec := { name := "wireWrites", fn := fun _ => fun
  | [d] => { results := [.lit (.bool false)], args := [d] }
  | _ => none }
def WireWritesWrongFalsely : Prop := wireWritesRow.holds Try.pinned (OpenSpec.ofChange wireWritesWrong)

/-- 'fareboxlaw09.WireApart': WHATEVER THE INPUT: true; the input reads as it did. -/
def wireApartSpec : ChangeSpec := { name := "wireApart", fn := fun _ => fun
  | [d1, d2] => { results := [.lit (.bool true)], args := [d1, d2] }
  | _ => none }
def wireApartRow : OpenClaim := { program := "ytdooabbeolfgfaa", sum := "2daf8ffcd20a36294f6b05ad9550a04b5e5da133b206b1bba6bd8f50ce8f1bc6", func := "farebox/fareboxlaw09.WireApart", spec := "wireApart", unfollowed := true, recurses := true, apart := false }
def WireApartSaid : Prop := wireApartRow.holds Try.pinned (OpenSpec.ofChange wireApartSpec)

/-- ITS FALSE NEIGHBOUR: 'it returns false'. Refute it at one input. -/
def wireApartWrong : ChangeSpec := { name := "wireApart", fn := fun _ => fun
  | [d1, d2] => { results := [.lit (.bool false)], args := [d1, d2] }
  | _ => none }
def WireApartWrongFalsely : Prop := wireApartRow.holds Try.pinned (OpenSpec.ofChange wireApartWrong)

/-- 'fareboxlaw09.WireReads': WHATEVER THE INPUT: true; the input reads as it did. -/
def wireReadsSpec : ChangeSpec := { name := "wireReads", fn := fun _ => fun
  | [d1, d2] => { results := [.lit (.bool true)], args := [d1, d2] }
  | _ => none }
def wireReadsRow : OpenClaim := { program := "ytdooabbeolfgfaa", sum := "2daf8ffcd20a36294f6b05ad9550a04b5e5da133b206b1bba6bd8f50ce8f1bc6", func := "farebox/fareboxlaw09.WireReads", spec := "wireReads", unfollowed := true, recurses := true, apart := false }
def WireReadsSaid : Prop := wireReadsRow.holds Try.pinned (OpenSpec.ofChange wireReadsSpec)

/-- ITS FALSE NEIGHBOUR: 'it returns false'. Refute it at one input. -/
def wireReadsWrong : ChangeSpec := { name := "wireReads", fn := fun _ => fun
  | [d1, d2] => { results := [.lit (.bool false)], args := [d1, d2] }
  | _ => none }
def WireReadsWrongFalsely : Prop := wireReadsRow.holds Try.pinned (OpenSpec.ofChange wireReadsWrong)

/-- 'fareboxlaw09.WireBack': WHATEVER THE INPUT: true; the input reads as it did. -/
def wireBackSpec : ChangeSpec := { name := "wireBack", fn := fun _ => fun
  | [d] => { results := [.lit (.bool true)], args := [d] }
  | _ => none }
def wireBackRow : OpenClaim := { program := "ytdooabbeolfgfaa", sum := "2daf8ffcd20a36294f6b05ad9550a04b5e5da133b206b1bba6bd8f50ce8f1bc6", func := "farebox/fareboxlaw09.WireBack", spec := "wireBack", unfollowed := true, recurses := true, apart := false }
def WireBackSaid : Prop := wireBackRow.holds Try.pinned (OpenSpec.ofChange wireBackSpec)

/-- ITS FALSE NEIGHBOUR: 'it returns false'. Refute it at one input. -/
def wireBackWrong : ChangeSpec := { name := "wireBack", fn := fun _ => fun
  | [d] => { results := [.lit (.bool false)], args := [d] }
  | _ => none }
def WireBackWrongFalsely : Prop := wireBackRow.holds Try.pinned (OpenSpec.ofChange wireBackWrong)

/-- 'fareboxlaw09.WireOneForm': WHATEVER THE INPUT: true; the input reads as it did. -/
def wireOneFormSpec : ChangeSpec := { name := "wireOneForm", fn := fun _ => fun
  | [d1, d2] => { results := [.lit (.bool true)], args := [d1, d2] }
  | _ => none }
def wireOneFormRow : OpenClaim := { program := "ytdooabbeolfgfaa", sum := "2daf8ffcd20a36294f6b05ad9550a04b5e5da133b206b1bba6bd8f50ce8f1bc6", func := "farebox/fareboxlaw09.WireOneForm", spec := "wireOneForm", unfollowed := true, recurses := true, apart := false }
def WireOneFormSaid : Prop := wireOneFormRow.holds Try.pinned (OpenSpec.ofChange wireOneFormSpec)

/-- ITS FALSE NEIGHBOUR: 'it returns false'. Refute it at one input. -/
def wireOneFormWrong : ChangeSpec := { name := "wireOneForm", fn := fun _ => fun
  | [d1, d2] => { results := [.lit (.bool false)], args := [d1, d2] }
  | _ => none }
def WireOneFormWrongFalsely : Prop := wireOneFormRow.holds Try.pinned (OpenSpec.ofChange wireOneFormWrong)

/-- 'fareboxlaw09.WireCutShort': WHATEVER THE INPUT: true; the input reads as it did. -/
def wireCutShortSpec : ChangeSpec := { name := "wireCutShort", fn := fun _ => fun
  | [d1, d2] => { results := [.lit (.bool true)], args := [d1, d2] }
  | _ => none }
def wireCutShortRow : OpenClaim := { program := "ytdooabbeolfgfaa", sum := "2daf8ffcd20a36294f6b05ad9550a04b5e5da133b206b1bba6bd8f50ce8f1bc6", func := "farebox/fareboxlaw09.WireCutShort", spec := "wireCutShort", unfollowed := true, recurses := true, apart := false }
def WireCutShortSaid : Prop := wireCutShortRow.holds Try.pinned (OpenSpec.ofChange wireCutShortSpec)

/-- ITS FALSE NEIGHBOUR: 'it returns false'. Refute it at one input. -/
def wireCutShortWrong : ChangeSpec := { name := "wireCutShort", fn := fun _ => fun
  | [d1, d2] => { results := [.lit (.bool false)], args := [d1, d2] }
  | _ => none }
def WireCutShortWrongFalsely : Prop := wireCutShortRow.holds Try.pinned (OpenSpec.ofChange wireCutShortWrong)

/-- 'fareboxlaw09.WireSticks': WHATEVER THE INPUT: true; the input reads as it did. -/
def wireSticksSpec : ChangeSpec := { name := "wireSticks", fn := fun _ => fun
  | [d1, d2, d3] => { results := [.lit (.bool true)], args := [d1, d2, d3] }
  | _ => none }
def wireSticksRow : OpenClaim := { program := "ytdooabbeolfgfaa", sum := "2daf8ffcd20a36294f6b05ad9550a04b5e5da133b206b1bba6bd8f50ce8f1bc6", func := "farebox/fareboxlaw09.WireSticks", spec := "wireSticks", unfollowed := true, recurses := true, apart := false }
def WireSticksSaid : Prop := wireSticksRow.holds Try.pinned (OpenSpec.ofChange wireSticksSpec)

/-- ITS FALSE NEIGHBOUR: 'it returns false'. Refute it at one input. -/
def wireSticksWrong : ChangeSpec := { name := "wireSticks", fn := fun _ => fun
  | [d1, d2, d3] => { results := [.lit (.bool false)], args := [d1, d2, d3] }
  | _ => none }
def WireSticksWrongFalsely : Prop := wireSticksRow.holds Try.pinned (OpenSpec.ofChange wireSticksWrong)

/- THE SECOND FORM. 'bulk': how many values and letters a reading holds, each counted each time it is reached (what is shared counts as often as it is met; a slice's spare places count too). A statement '..UptoSaid' is the law's where the arguments, and the package variables that the reading takes, are together of bulk at most 1048576: NARROWER than '..Said'. Prove '..Said' where nothing that the law and all that it calls make is longer than what came in: it says more and counts as full. Else prove '..UptoSaid'. A law counts once. -/
mutual
def uptoBulk {H : Type} : DataW H → Nat
  | .lit (.string bytes) => bytes.length + 1
  | .lit _ => 1
  | .nil => 1
  | .ptr d => uptoBulk d + 1
  | .slice elems spare => uptoBulkAll elems + uptoBulkAll spare + 1
  | .agg parts => uptoBulkAll parts + 1
  | .iface _ d => uptoBulk d + 1
  | .map entries => uptoBulkEntries entries + 1
  | .held _ => 1
def uptoBulkAll {H : Type} : List (DataW H) → Nat
  | [] => 0
  | d :: r => uptoBulk d + uptoBulkAll r
def uptoBulkEntries {H : Type} : List (Lit × DataW H) → Nat
  | [] => 0
  | x :: r => uptoBulkEntry x + uptoBulkEntries r
def uptoBulkEntry {H : Type} : Lit × DataW H → Nat
  | (.string bytes, d) => bytes.length + uptoBulk d + 1
  | (_, d) => uptoBulk d + 1
 end
def uptoSmall : (H : Type) → List (DataW H) → Bool := fun _ ds => decide (uptoBulkAll ds ≤ 1048576)
def OpenSpec.upto (s : _root_.Go.ChangeSpec) : _root_.Go.OpenSpec := { _root_.Go.OpenSpec.ofChange s with cond := some uptoSmall }

/-- 'fareboxlaw01.BitsTurns', WHERE WHAT IT READS IS OF BULK AT MOST 1048576: true; the input reads as it did. -/
def bitsTurnsUptoRow : OpenClaim := { program := "ytdooabbeolfgfaa", sum := "2daf8ffcd20a36294f6b05ad9550a04b5e5da133b206b1bba6bd8f50ce8f1bc6", func := "farebox/fareboxlaw01.BitsTurns", spec := "bitsTurns", apart := false, narrowed := true }
def BitsTurnsUptoSaid : Prop := bitsTurnsUptoRow.holds Try.pinned (OpenSpec.upto bitsTurnsSpec)

/-- 'fareboxlaw01.BitsBack', WHERE WHAT IT READS IS OF BULK AT MOST 1048576: true; the input reads as it did. -/
def bitsBackUptoRow : OpenClaim := { program := "ytdooabbeolfgfaa", sum := "2daf8ffcd20a36294f6b05ad9550a04b5e5da133b206b1bba6bd8f50ce8f1bc6", func := "farebox/fareboxlaw01.BitsBack", spec := "bitsBack", apart := false, narrowed := true }
def BitsBackUptoSaid : Prop := bitsBackUptoRow.holds Try.pinned (OpenSpec.upto bitsBackSpec)

/-- 'fareboxlaw01.BitsExact', WHERE WHAT IT READS IS OF BULK AT MOST 1048576: true; the input reads as it did. -/
def bitsExactUptoRow : OpenClaim := { program := "ytdooabbeolfgfaa", sum := "2daf8ffcd20a36294f6b05ad9550a04b5e5da133b206b1bba6bd8f50ce8f1bc6", func := "farebox/fareboxlaw01.BitsExact", spec := "bitsExact", apart := false, narrowed := true }
def BitsExactUptoSaid : Prop := bitsExactUptoRow.holds Try.pinned (OpenSpec.upto bitsExactSpec)

/-- 'fareboxlaw09.WireHeads', WHERE WHAT IT READS IS OF BULK AT MOST 1048576: true; the input reads as it did. -/
def wireHeadsUptoRow : OpenClaim := { program := "ytdooabbeolfgfaa", sum := "2daf8ffcd20a36294f6b05ad9550a04b5e5da133b206b1bba6bd8f50ce8f1bc6", func := "farebox/fareboxlaw09.WireHeads", spec := "wireHeads", apart := false, narrowed := true }
def WireHeadsUptoSaid : Prop := wireHeadsUptoRow.holds Try.pinned (OpenSpec.upto wireHeadsSpec)

/-- 'fareboxlaw09.WireDomains', WHERE WHAT IT READS IS OF BULK AT MOST 1048576: true; the input reads as it did. -/
def wireDomainsUptoRow : OpenClaim := { program := "ytdooabbeolfgfaa", sum := "2daf8ffcd20a36294f6b05ad9550a04b5e5da133b206b1bba6bd8f50ce8f1bc6", func := "farebox/fareboxlaw09.WireDomains", spec := "wireDomains", apart := false, narrowed := true }
def WireDomainsUptoSaid : Prop := wireDomainsUptoRow.holds Try.pinned (OpenSpec.upto wireDomainsSpec)

/-- 'fareboxlaw09.WireWrites', WHERE WHAT IT READS IS OF BULK AT MOST 1048576: true; the input reads as it did. -/
def wireWritesUptoRow : OpenClaim := { program := "ytdooabbeolfgfaa", sum := "2daf8ffcd20a36294f6b05ad9550a04b5e5da133b206b1bba6bd8f50ce8f1bc6", func := "farebox/fareboxlaw09.WireWrites", spec := "wireWrites", unfollowed := true, recurses := true, apart := false, narrowed := true }
def WireWritesUptoSaid : Prop := wireWritesUptoRow.holds Try.pinned (OpenSpec.upto wireWritesSpec)

/-- 'fareboxlaw09.WireApart', WHERE WHAT IT READS IS OF BULK AT MOST 1048576: true; the input reads as it did. -/
def wireApartUptoRow : OpenClaim := { program := "ytdooabbeolfgfaa", sum := "2daf8ffcd20a36294f6b05ad9550a04b5e5da133b206b1bba6bd8f50ce8f1bc6", func := "farebox/fareboxlaw09.WireApart", spec := "wireApart", unfollowed := true, recurses := true, apart := false, narrowed := true }
def WireApartUptoSaid : Prop := wireApartUptoRow.holds Try.pinned (OpenSpec.upto wireApartSpec)

/-- 'fareboxlaw09.WireReads', WHERE WHAT IT READS IS OF BULK AT MOST 1048576: true; the input reads as it did. -/
def wireReadsUptoRow : OpenClaim := { program := "ytdooabbeolfgfaa", sum := "2daf8ffcd20a36294f6b05ad9550a04b5e5da133b206b1bba6bd8f50ce8f1bc6", func := "farebox/fareboxlaw09.WireReads", spec := "wireReads", unfollowed := true, recurses := true, apart := false, narrowed := true }
def WireReadsUptoSaid : Prop := wireReadsUptoRow.holds Try.pinned (OpenSpec.upto wireReadsSpec)

/-- 'fareboxlaw09.WireBack', WHERE WHAT IT READS IS OF BULK AT MOST 1048576: true; the input reads as it did. -/
def wireBackUptoRow : OpenClaim := { program := "ytdooabbeolfgfaa", sum := "2daf8ffcd20a36294f6b05ad9550a04b5e5da133b206b1bba6bd8f50ce8f1bc6", func := "farebox/fareboxlaw09.WireBack", spec := "wireBack", unfollowed := true, recurses := true, apart := false, narrowed := true }
def WireBackUptoSaid : Prop := wireBackUptoRow.holds Try.pinned (OpenSpec.upto wireBackSpec)

/-- 'fareboxlaw09.WireOneForm', WHERE WHAT IT READS IS OF BULK AT MOST 1048576: true; the input reads as it did. -/
def wireOneFormUptoRow : OpenClaim := { program := "ytdooabbeolfgfaa", sum := "2daf8ffcd20a36294f6b05ad9550a04b5e5da133b206b1bba6bd8f50ce8f1bc6", func := "farebox/fareboxlaw09.WireOneForm", spec := "wireOneForm", unfollowed := true, recurses := true, apart := false, narrowed := true }
def WireOneFormUptoSaid : Prop := wireOneFormUptoRow.holds Try.pinned (OpenSpec.upto wireOneFormSpec)

/-- 'fareboxlaw09.WireCutShort', WHERE WHAT IT READS IS OF BULK AT MOST 1048576: true; the input reads as it did. -/
def wireCutShortUptoRow : OpenClaim := { program := "ytdooabbeolfgfaa", sum := "2daf8ffcd20a36294f6b05ad9550a04b5e5da133b206b1bba6bd8f50ce8f1bc6", func := "farebox/fareboxlaw09.WireCutShort", spec := "wireCutShort", unfollowed := true, recurses := true, apart := false, narrowed := true }
def WireCutShortUptoSaid : Prop := wireCutShortUptoRow.holds Try.pinned (OpenSpec.upto wireCutShortSpec)

/-- 'fareboxlaw09.WireSticks', WHERE WHAT IT READS IS OF BULK AT MOST 1048576: true; the input reads as it did. -/
def wireSticksUptoRow : OpenClaim := { program := "ytdooabbeolfgfaa", sum := "2daf8ffcd20a36294f6b05ad9550a04b5e5da133b206b1bba6bd8f50ce8f1bc6", func := "farebox/fareboxlaw09.WireSticks", spec := "wireSticks", unfollowed := true, recurses := true, apart := false, narrowed := true }
def WireSticksUptoSaid : Prop := wireSticksUptoRow.holds Try.pinned (OpenSpec.upto wireSticksSpec)

end Rows
end Go.Proofs.Ytdooabbeolfgfaa
