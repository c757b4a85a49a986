/-
  No cell of these rows narrows 'for every input' (looked for: loops, veiled, ifaces, maps, wideKeys, modest, calm, conditions, laid).
  DERIVED. THE GIVEN ROWS OF THIS SEAT. 17 by the template 'for every input the law returns true; each argument reads behind the call as it read before'; 0 by the template 'total and deterministic' (their statements: YtpjmbhhfpoamnaaTotals.lean).
  GIVEN WITH THE SEED: the statements are not yours to turn. If you find one false, say at which input.
  Laid BY PROGRAM, IN A SANDBOX (cutbox-rows.mjs): the forced cells as the released guide's own fill.sh prints them over the translation 764a6e7d8d5ae49c… (all of the seat's roots in one cut). By AI agents, Wed Nov 11 2026. No macro, syntax, notation, axiom, sorry.
-/
import Derived.Test.YtpjmbhhfpoamnaaChecked
import GoSem.Claim
import GoSem.ClaimJoined
import GoSem.ClaimMapViews
import Derived.JoinedTies
import Derived.KernelRfl
namespace Go.Proofs.Ytpjmbhhfpoamnaa
/- THE CELL 'sum', in the pinned program and in every row, IS THE sha256 OF THE DUMP (.gsa) THAT YtpjmbhhfpoamnaaProg.lean LOADS. Nothing in Lean hashes anything: it is a label: what it is worth is what the hold of that sum in a sandbox is worth. -/
noncomputable def Try.pinned : Pinned := { name := "ytpjmbhhfpoamnaa", sum := "764a6e7d8d5ae49cccc150d2f4c50ebc0f663a1463a19f47b0c1170547aee48c", checked := Try.checked }
namespace Rows
def none {H : Type} : Left H := { results := [], args := [] }

/-- 'fareboxlaw12.FlashApart': WHATEVER THE INPUT: true; the input reads as it did. -/
def flashApartSpec : ChangeSpec := { name := "flashApart", fn := fun _ => fun
  | [d1, d2] => { results := [.lit (.bool true)], args := [d1, d2] }
  | _ => none }
def flashApartRow : OpenClaim := { program := "ytpjmbhhfpoamnaa", sum := "764a6e7d8d5ae49cccc150d2f4c50ebc0f663a1463a19f47b0c1170547aee48c", func := "farebox/fareboxlaw12.FlashApart", spec := "flashApart", apart := false }
def FlashApartSaid : Prop := flashApartRow.holds Try.pinned (OpenSpec.ofChange flashApartSpec)

/-- ITS FALSE NEIGHBOUR: 'it returns false'. Refute it at one input. -/
def flashApartWrong : ChangeSpec := { name := "flashApart", fn := fun _ => fun
  | [d1, d2] => { results := [.lit (.bool false)], args := [d1, d2] }
  | _ => none }
def FlashApartWrongFalsely : Prop := flashApartRow.holds Try.pinned (OpenSpec.ofChange flashApartWrong)

/-- 'fareboxlaw12.FlashNew': WHATEVER THE INPUT: true; the input reads as it did. -/
def flashNewSpec : ChangeSpec := { name := "flashNew", fn := fun _ => fun
  | [d] => { results := [.lit (.bool true)], args := [d] }
  | _ => none }
def flashNewRow : OpenClaim := { program := "ytpjmbhhfpoamnaa", sum := "764a6e7d8d5ae49cccc150d2f4c50ebc0f663a1463a19f47b0c1170547aee48c", func := "farebox/fareboxlaw12.FlashNew", spec := "flashNew", apart := false }
def FlashNewSaid : Prop := flashNewRow.holds Try.pinned (OpenSpec.ofChange flashNewSpec)

/-- ITS FALSE NEIGHBOUR: 'it returns false'. Refute it at one input. -/
def flashNewWrong : ChangeSpec := { name := "flashNew", fn := fun _ => fun
  | [d] => { results := [.lit (.bool false)], args := [d] }
  | _ => none }
def FlashNewWrongFalsely : Prop := flashNewRow.holds Try.pinned (OpenSpec.ofChange flashNewWrong)

/-- 'fareboxlaw12.FlashRoom': WHATEVER THE INPUT: true; the input reads as it did. -/
def flashRoomSpec : ChangeSpec := { name := "flashRoom", fn := fun _ => fun
  | [d1, d2] => { results := [.lit (.bool true)], args := [d1, d2] }
  | _ => none }
def flashRoomRow : OpenClaim := { program := "ytpjmbhhfpoamnaa", sum := "764a6e7d8d5ae49cccc150d2f4c50ebc0f663a1463a19f47b0c1170547aee48c", func := "farebox/fareboxlaw12.FlashRoom", spec := "flashRoom", apart := false }
def FlashRoomSaid : Prop := flashRoomRow.holds Try.pinned (OpenSpec.ofChange flashRoomSpec)

/-- ITS FALSE NEIGHBOUR: 'it returns false'. Refute it at one input. -/
def flashRoomWrong : ChangeSpec := { name := "flashRoom", fn := fun _ => fun
  | [d1, d2] => { results := [.lit (.bool false)], args := [d1, d2] }
  | _ => none }
def FlashRoomWrongFalsely : Prop := flashRoomRow.holds Try.pinned (OpenSpec.ofChange flashRoomWrong)

/-- 'fareboxlaw12.FlashCrashes': WHATEVER THE INPUT: true; the input reads as it did. -/
def flashCrashesSpec : ChangeSpec := { name := "flashCrashes", fn := fun _ => fun
  | [d1, d2, d3, d4] => { results := [.lit (.bool true)], args := [d1, d2, d3, d4] }
  | _ => none }
def flashCrashesRow : OpenClaim := { program := "ytpjmbhhfpoamnaa", sum := "764a6e7d8d5ae49cccc150d2f4c50ebc0f663a1463a19f47b0c1170547aee48c", func := "farebox/fareboxlaw12.FlashCrashes", spec := "flashCrashes", apart := false }
def FlashCrashesSaid : Prop := flashCrashesRow.holds Try.pinned (OpenSpec.ofChange flashCrashesSpec)

/-- ITS FALSE NEIGHBOUR: 'it returns false'. Refute it at one input. -/
def flashCrashesWrong : ChangeSpec := { name := "flashCrashes", fn := fun _ => fun
  | [d1, d2, d3, d4] => { results := [.lit (.bool false)], args := [d1, d2, d3, d4] }
  | _ => none }
def FlashCrashesWrongFalsely : Prop := flashCrashesRow.holds Try.pinned (OpenSpec.ofChange flashCrashesWrong)

/-- 'fareboxlaw12.FlashSurvives': WHATEVER THE INPUT: true; the input reads as it did. -/
def flashSurvivesSpec : ChangeSpec := { name := "flashSurvives", fn := fun _ => fun
  | [d1, d2] => { results := [.lit (.bool true)], args := [d1, d2] }
  | _ => none }
def flashSurvivesRow : OpenClaim := { program := "ytpjmbhhfpoamnaa", sum := "764a6e7d8d5ae49cccc150d2f4c50ebc0f663a1463a19f47b0c1170547aee48c", func := "farebox/fareboxlaw12.FlashSurvives", spec := "flashSurvives", apart := false }
def FlashSurvivesSaid : Prop := flashSurvivesRow.holds Try.pinned (OpenSpec.ofChange flashSurvivesSpec)

/-- ITS FALSE NEIGHBOUR: 'it returns false'. Refute it at one input. -/
def flashSurvivesWrong : ChangeSpec := { name := "flashSurvives", fn := fun _ => fun
  | [d1, d2] => { results := [.lit (.bool false)], args := [d1, d2] }
  | _ => none }
def FlashSurvivesWrongFalsely : Prop := flashSurvivesRow.holds Try.pinned (OpenSpec.ofChange flashSurvivesWrong)

/-- 'fareboxlaw12.FlashReloads': WHATEVER THE INPUT: true; the input reads as it did. -/
def flashReloadsSpec : ChangeSpec := { name := "flashReloads", fn := fun _ => fun
  | [d1, d2, d3] => { results := [.lit (.bool true)], args := [d1, d2, d3] }
  | _ => none }
def flashReloadsRow : OpenClaim := { program := "ytpjmbhhfpoamnaa", sum := "764a6e7d8d5ae49cccc150d2f4c50ebc0f663a1463a19f47b0c1170547aee48c", func := "farebox/fareboxlaw12.FlashReloads", spec := "flashReloads", apart := false }
def FlashReloadsSaid : Prop := flashReloadsRow.holds Try.pinned (OpenSpec.ofChange flashReloadsSpec)

/-- ITS FALSE NEIGHBOUR: 'it returns false'. Refute it at one input. -/
def flashReloadsWrong : ChangeSpec := { name := "flashReloads", fn := fun _ => fun
  | [d1, d2, d3] => { results := [.lit (.bool false)], args := [d1, d2, d3] }
  | _ => none }
def FlashReloadsWrongFalsely : Prop := flashReloadsRow.holds Try.pinned (OpenSpec.ofChange flashReloadsWrong)

/-- 'fareboxlaw12.FlashExact': WHATEVER THE INPUT: true; the input reads as it did. -/
def flashExactSpec : ChangeSpec := { name := "flashExact", fn := fun _ => fun
  | [d1, d2, d3, d4] => { results := [.lit (.bool true)], args := [d1, d2, d3, d4] }
  | _ => none }
def flashExactRow : OpenClaim := { program := "ytpjmbhhfpoamnaa", sum := "764a6e7d8d5ae49cccc150d2f4c50ebc0f663a1463a19f47b0c1170547aee48c", func := "farebox/fareboxlaw12.FlashExact", spec := "flashExact", apart := false }
def FlashExactSaid : Prop := flashExactRow.holds Try.pinned (OpenSpec.ofChange flashExactSpec)

/-- ITS FALSE NEIGHBOUR: 'it returns false'. Refute it at one input. -/
def flashExactWrong : ChangeSpec := { name := "flashExact", fn := fun _ => fun
  | [d1, d2, d3, d4] => { results := [.lit (.bool false)], args := [d1, d2, d3, d4] }
  | _ => none }
def FlashExactWrongFalsely : Prop := flashExactRow.holds Try.pinned (OpenSpec.ofChange flashExactWrong)

/-- 'fareboxlaw13.FrameSums': WHATEVER THE INPUT: true; the input reads as it did. -/
def frameSumsSpec : ChangeSpec := { name := "frameSums", fn := fun _ => fun
  | [d1, d2, d3, d4] => { results := [.lit (.bool true)], args := [d1, d2, d3, d4] }
  | _ => none }
def frameSumsRow : OpenClaim := { program := "ytpjmbhhfpoamnaa", sum := "764a6e7d8d5ae49cccc150d2f4c50ebc0f663a1463a19f47b0c1170547aee48c", func := "farebox/fareboxlaw13.FrameSums", spec := "frameSums", apart := false }
def FrameSumsSaid : Prop := frameSumsRow.holds Try.pinned (OpenSpec.ofChange frameSumsSpec)

/-- ITS FALSE NEIGHBOUR: 'it returns false'. Refute it at one input. -/
def frameSumsWrong : ChangeSpec := { name := "frameSums", fn := fun _ => fun
  | [d1, d2, d3, d4] => { results := [.lit (.bool false)], args := [d1, d2, d3, d4] }
  | _ => none }
def FrameSumsWrongFalsely : Prop := frameSumsRow.holds Try.pinned (OpenSpec.ofChange frameSumsWrong)

/-- 'fareboxlaw13.FrameLong': WHATEVER THE INPUT: true; the input reads as it did. -/
def frameLongSpec : ChangeSpec := { name := "frameLong", fn := fun _ => fun
  | [d1, d2] => { results := [.lit (.bool true)], args := [d1, d2] }
  | _ => none }
def frameLongRow : OpenClaim := { program := "ytpjmbhhfpoamnaa", sum := "764a6e7d8d5ae49cccc150d2f4c50ebc0f663a1463a19f47b0c1170547aee48c", func := "farebox/fareboxlaw13.FrameLong", spec := "frameLong", apart := false }
def FrameLongSaid : Prop := frameLongRow.holds Try.pinned (OpenSpec.ofChange frameLongSpec)

/-- ITS FALSE NEIGHBOUR: 'it returns false'. Refute it at one input. -/
def frameLongWrong : ChangeSpec := { name := "frameLong", fn := fun _ => fun
  | [d1, d2] => { results := [.lit (.bool false)], args := [d1, d2] }
  | _ => none }
def FrameLongWrongFalsely : Prop := frameLongRow.holds Try.pinned (OpenSpec.ofChange frameLongWrong)

/-- 'fareboxlaw13.FrameSpoilt': WHATEVER THE INPUT: true; the input reads as it did. -/
def frameSpoiltSpec : ChangeSpec := { name := "frameSpoilt", fn := fun _ => fun
  | [d1, d2, d3, d4, d5] => { results := [.lit (.bool true)], args := [d1, d2, d3, d4, d5] }
  | _ => none }
def frameSpoiltRow : OpenClaim := { program := "ytpjmbhhfpoamnaa", sum := "764a6e7d8d5ae49cccc150d2f4c50ebc0f663a1463a19f47b0c1170547aee48c", func := "farebox/fareboxlaw13.FrameSpoilt", spec := "frameSpoilt", apart := false }
def FrameSpoiltSaid : Prop := frameSpoiltRow.holds Try.pinned (OpenSpec.ofChange frameSpoiltSpec)

/-- ITS FALSE NEIGHBOUR: 'it returns false'. Refute it at one input. -/
def frameSpoiltWrong : ChangeSpec := { name := "frameSpoilt", fn := fun _ => fun
  | [d1, d2, d3, d4, d5] => { results := [.lit (.bool false)], args := [d1, d2, d3, d4, d5] }
  | _ => none }
def FrameSpoiltWrongFalsely : Prop := frameSpoiltRow.holds Try.pinned (OpenSpec.ofChange frameSpoiltWrong)

/-- 'fareboxlaw13.FrameTorn': WHATEVER THE INPUT: true; the input reads as it did. -/
def frameTornSpec : ChangeSpec := { name := "frameTorn", fn := fun _ => fun
  | [d1, d2, d3] => { results := [.lit (.bool true)], args := [d1, d2, d3] }
  | _ => none }
def frameTornRow : OpenClaim := { program := "ytpjmbhhfpoamnaa", sum := "764a6e7d8d5ae49cccc150d2f4c50ebc0f663a1463a19f47b0c1170547aee48c", func := "farebox/fareboxlaw13.FrameTorn", spec := "frameTorn", unfollowed := true, recurses := true, apart := false }
def FrameTornSaid : Prop := frameTornRow.holds Try.pinned (OpenSpec.ofChange frameTornSpec)

/-- ITS FALSE NEIGHBOUR: 'it returns false'. Refute it at one input. -/
def frameTornWrong : ChangeSpec := { name := "frameTorn", fn := fun _ => fun
  | [d1, d2, d3] => { results := [.lit (.bool false)], args := [d1, d2, d3] }
  | _ => none }
def FrameTornWrongFalsely : Prop := frameTornRow.holds Try.pinned (OpenSpec.ofChange frameTornWrong)

/-- 'fareboxlaw13.FrameBack': WHATEVER THE INPUT: true; the input reads as it did. -/
def frameBackSpec : ChangeSpec := { name := "frameBack", fn := fun _ => fun
  | [d1, d2, d3] => { results := [.lit (.bool true)], args := [d1, d2, d3] }
  | _ => none }
def frameBackRow : OpenClaim := { program := "ytpjmbhhfpoamnaa", sum := "764a6e7d8d5ae49cccc150d2f4c50ebc0f663a1463a19f47b0c1170547aee48c", func := "farebox/fareboxlaw13.FrameBack", spec := "frameBack", unfollowed := true, recurses := true, apart := false }
def FrameBackSaid : Prop := frameBackRow.holds Try.pinned (OpenSpec.ofChange frameBackSpec)

/-- ITS FALSE NEIGHBOUR: 'it returns false'. Refute it at one input. -/
def frameBackWrong : ChangeSpec := { name := "frameBack", fn := fun _ => fun
  | [d1, d2, d3] => { results := [.lit (.bool false)], args := [d1, d2, d3] }
  | _ => none }
def FrameBackWrongFalsely : Prop := frameBackRow.holds Try.pinned (OpenSpec.ofChange frameBackWrong)

/-- 'fareboxlaw13.FrameExact': WHATEVER THE INPUT: true; the input reads as it did. -/
def frameExactSpec : ChangeSpec := { name := "frameExact", fn := fun _ => fun
  | [d] => { results := [.lit (.bool true)], args := [d] }
  | _ => none }
def frameExactRow : OpenClaim := { program := "ytpjmbhhfpoamnaa", sum := "764a6e7d8d5ae49cccc150d2f4c50ebc0f663a1463a19f47b0c1170547aee48c", func := "farebox/fareboxlaw13.FrameExact", spec := "frameExact", unfollowed := true, recurses := true, apart := false }
def FrameExactSaid : Prop := frameExactRow.holds Try.pinned (OpenSpec.ofChange frameExactSpec)

/-- ITS FALSE NEIGHBOUR: 'it returns false'. Refute it at one input. -/
def frameExactWrong : ChangeSpec := { name := "frameExact", fn := fun _ => fun
  | [d] => { results := [.lit (.bool false)], args := [d] }
  | _ => none }
def FrameExactWrongFalsely : Prop := frameExactRow.holds Try.pinned (OpenSpec.ofChange frameExactWrong)

/-- 'fareboxlaw14.JournalReopens': WHATEVER THE INPUT: true; the input reads as it did. -/
def journalReopensSpec : ChangeSpec := { name := "journalReopens", fn := fun _ => fun
  | [d1, d2, d3, d4] => { results := [.lit (.bool true)], args := [d1, d2, d3, d4] }
  | _ => none }
def journalReopensRow : OpenClaim := { program := "ytpjmbhhfpoamnaa", sum := "764a6e7d8d5ae49cccc150d2f4c50ebc0f663a1463a19f47b0c1170547aee48c", func := "farebox/fareboxlaw14.JournalReopens", spec := "journalReopens", unfollowed := true, recurses := true, apart := false }
def JournalReopensSaid : Prop := journalReopensRow.holds Try.pinned (OpenSpec.ofChange journalReopensSpec)

/-- ITS FALSE NEIGHBOUR: 'it returns false'. Refute it at one input. -/
def journalReopensWrong : ChangeSpec := { name := "journalReopens", fn := fun _ => fun
  | [d1, d2, d3, d4] => { results := [.lit (.bool false)], args := [d1, d2, d3, d4] }
  | _ => none }
def JournalReopensWrongFalsely : Prop := journalReopensRow.holds Try.pinned (OpenSpec.ofChange journalReopensWrong)

/-- 'fareboxlaw14.JournalRefuses': WHATEVER THE INPUT: true; the input reads as it did. -/
def journalRefusesSpec : ChangeSpec := { name := "journalRefuses", fn := fun _ => fun
  | [d1, d2, d3] => { results := [.lit (.bool true)], args := [d1, d2, d3] }
  | _ => none }
def journalRefusesRow : OpenClaim := { program := "ytpjmbhhfpoamnaa", sum := "764a6e7d8d5ae49cccc150d2f4c50ebc0f663a1463a19f47b0c1170547aee48c", func := "farebox/fareboxlaw14.JournalRefuses", spec := "journalRefuses", unfollowed := true, recurses := true, apart := false }
def JournalRefusesSaid : Prop := journalRefusesRow.holds Try.pinned (OpenSpec.ofChange journalRefusesSpec)

/-- ITS FALSE NEIGHBOUR: 'it returns false'. Refute it at one input. -/
def journalRefusesWrong : ChangeSpec := { name := "journalRefuses", fn := fun _ => fun
  | [d1, d2, d3] => { results := [.lit (.bool false)], args := [d1, d2, d3] }
  | _ => none }
def JournalRefusesWrongFalsely : Prop := journalRefusesRow.holds Try.pinned (OpenSpec.ofChange journalRefusesWrong)

/-- 'fareboxlaw14.JournalKeeps': WHATEVER THE INPUT: true; the input reads as it did. -/
def journalKeepsSpec : ChangeSpec := { name := "journalKeeps", fn := fun _ => fun
  | [d1, d2, d3] => { results := [.lit (.bool true)], args := [d1, d2, d3] }
  | _ => none }
def journalKeepsRow : OpenClaim := { program := "ytpjmbhhfpoamnaa", sum := "764a6e7d8d5ae49cccc150d2f4c50ebc0f663a1463a19f47b0c1170547aee48c", func := "farebox/fareboxlaw14.JournalKeeps", spec := "journalKeeps", unfollowed := true, recurses := true, apart := false }
def JournalKeepsSaid : Prop := journalKeepsRow.holds Try.pinned (OpenSpec.ofChange journalKeepsSpec)

/-- ITS FALSE NEIGHBOUR: 'it returns false'. Refute it at one input. -/
def journalKeepsWrong : ChangeSpec := { name := "journalKeeps", fn := fun _ => fun
  | [d1, d2, d3] => { results := [.lit (.bool false)], args := [d1, d2, d3] }
  | _ => none }
def JournalKeepsWrongFalsely : Prop := journalKeepsRow.holds Try.pinned (OpenSpec.ofChange journalKeepsWrong)

/-- 'fareboxlaw14.JournalExact': WHATEVER THE INPUT: true; the input reads as it did. -/
def journalExactSpec : ChangeSpec := { name := "journalExact", fn := fun _ => fun
  | [d1, d2, d3, d4] => { results := [.lit (.bool true)], args := [d1, d2, d3, d4] }
  | _ => none }
def journalExactRow : OpenClaim := { program := "ytpjmbhhfpoamnaa", sum := "764a6e7d8d5ae49cccc150d2f4c50ebc0f663a1463a19f47b0c1170547aee48c", func := "farebox/fareboxlaw14.JournalExact", spec := "journalExact", unfollowed := true, recurses := true, apart := false }
def JournalExactSaid : Prop := journalExactRow.holds Try.pinned (OpenSpec.ofChange journalExactSpec)

/-- ITS FALSE NEIGHBOUR: 'it returns false'. Refute it at one input. -/
def journalExactWrong : ChangeSpec := { name := "journalExact", fn := fun _ => fun
  | [d1, d2, d3, d4] => { results := [.lit (.bool false)], args := [d1, d2, d3, d4] }
  | _ => none }
def JournalExactWrongFalsely : Prop := journalExactRow.holds Try.pinned (OpenSpec.ofChange journalExactWrong)

/- THE SECOND FORM. 'bulk': how many values and letters a reading holds, each counted each time it is reached (what is shared counts as often as it is met; a slice's spare places count too). A statement '..UptoSaid' is the law's where the arguments, and the package variables that the reading takes, are together of bulk at most 1048576: NARROWER than '..Said'. Prove '..Said' where nothing that the law and all that it calls make is longer than what came in: it says more and counts as full. Else prove '..UptoSaid'. A law counts once. -/
mutual
def uptoBulk {H : Type} : DataW H → Nat
  | .lit (.string bytes) => bytes.length + 1
  | .lit _ => 1
  | .nil => 1
  | .ptr d => uptoBulk d + 1
  | .slice elems spare => uptoBulkAll elems + uptoBulkAll spare + 1
  | .agg parts => uptoBulkAll parts + 1
  | .iface _ d => uptoBulk d + 1
  | .map entries => uptoBulkEntries entries + 1
  | .held _ => 1
def uptoBulkAll {H : Type} : List (DataW H) → Nat
  | [] => 0
  | d :: r => uptoBulk d + uptoBulkAll r
def uptoBulkEntries {H : Type} : List (Lit × DataW H) → Nat
  | [] => 0
  | x :: r => uptoBulkEntry x + uptoBulkEntries r
def uptoBulkEntry {H : Type} : Lit × DataW H → Nat
  | (.string bytes, d) => bytes.length + uptoBulk d + 1
  | (_, d) => uptoBulk d + 1
 end
def uptoSmall : (H : Type) → List (DataW H) → Bool := fun _ ds => decide (uptoBulkAll ds ≤ 1048576)
def OpenSpec.upto (s : _root_.Go.ChangeSpec) : _root_.Go.OpenSpec := { _root_.Go.OpenSpec.ofChange s with cond := some uptoSmall }

/-- 'fareboxlaw12.FlashApart', WHERE WHAT IT READS IS OF BULK AT MOST 1048576: true; the input reads as it did. -/
def flashApartUptoRow : OpenClaim := { program := "ytpjmbhhfpoamnaa", sum := "764a6e7d8d5ae49cccc150d2f4c50ebc0f663a1463a19f47b0c1170547aee48c", func := "farebox/fareboxlaw12.FlashApart", spec := "flashApart", apart := false, narrowed := true }
def FlashApartUptoSaid : Prop := flashApartUptoRow.holds Try.pinned (OpenSpec.upto flashApartSpec)

/-- 'fareboxlaw12.FlashNew', WHERE WHAT IT READS IS OF BULK AT MOST 1048576: true; the input reads as it did. -/
def flashNewUptoRow : OpenClaim := { program := "ytpjmbhhfpoamnaa", sum := "764a6e7d8d5ae49cccc150d2f4c50ebc0f663a1463a19f47b0c1170547aee48c", func := "farebox/fareboxlaw12.FlashNew", spec := "flashNew", apart := false, narrowed := true }
def FlashNewUptoSaid : Prop := flashNewUptoRow.holds Try.pinned (OpenSpec.upto flashNewSpec)

/-- 'fareboxlaw12.FlashRoom', WHERE WHAT IT READS IS OF BULK AT MOST 1048576: true; the input reads as it did. -/
def flashRoomUptoRow : OpenClaim := { program := "ytpjmbhhfpoamnaa", sum := "764a6e7d8d5ae49cccc150d2f4c50ebc0f663a1463a19f47b0c1170547aee48c", func := "farebox/fareboxlaw12.FlashRoom", spec := "flashRoom", apart := false, narrowed := true }
def FlashRoomUptoSaid : Prop := flashRoomUptoRow.holds Try.pinned (OpenSpec.upto flashRoomSpec)

/-- 'fareboxlaw12.FlashCrashes', WHERE WHAT IT READS IS OF BULK AT MOST 1048576: true; the input reads as it did. -/
def flashCrashesUptoRow : OpenClaim := { program := "ytpjmbhhfpoamnaa", sum := "764a6e7d8d5ae49cccc150d2f4c50ebc0f663a1463a19f47b0c1170547aee48c", func := "farebox/fareboxlaw12.FlashCrashes", spec := "flashCrashes", apart := false, narrowed := true }
def FlashCrashesUptoSaid : Prop := flashCrashesUptoRow.holds Try.pinned (OpenSpec.upto flashCrashesSpec)

/-- 'fareboxlaw12.FlashSurvives', WHERE WHAT IT READS IS OF BULK AT MOST 1048576: true; the input reads as it did. -/
def flashSurvivesUptoRow : OpenClaim := { program := "ytpjmbhhfpoamnaa", sum := "764a6e7d8d5ae49cccc150d2f4c50ebc0f663a1463a19f47b0c1170547aee48c", func := "farebox/fareboxlaw12.FlashSurvives", spec := "flashSurvives", apart := false, narrowed := true }
def FlashSurvivesUptoSaid : Prop := flashSurvivesUptoRow.holds Try.pinned (OpenSpec.upto flashSurvivesSpec)

/-- 'fareboxlaw12.FlashReloads', WHERE WHAT IT READS IS OF BULK AT MOST 1048576: true; the input reads as it did. -/
def flashReloadsUptoRow : OpenClaim := { program := "ytpjmbhhfpoamnaa", sum := "764a6e7d8d5ae49cccc150d2f4c50ebc0f663a1463a19f47b0c1170547aee48c", func := "farebox/fareboxlaw12.FlashReloads", spec := "flashReloads", apart := false, narrowed := true }
def FlashReloadsUptoSaid : Prop := flashReloadsUptoRow.holds Try.pinned (OpenSpec.upto flashReloadsSpec)

/-- 'fareboxlaw12.FlashExact', WHERE WHAT IT READS IS OF BULK AT MOST 1048576: true; the input reads as it did. -/
def flashExactUptoRow : OpenClaim := { program := "ytpjmbhhfpoamnaa", sum := "764a6e7d8d5ae49cccc150d2f4c50ebc0f663a1463a19f47b0c1170547aee48c", func := "farebox/fareboxlaw12.FlashExact", spec := "flashExact", apart := false, narrowed := true }
def FlashExactUptoSaid : Prop := flashExactUptoRow.holds Try.pinned (OpenSpec.upto flashExactSpec)

/-- 'fareboxlaw13.FrameSums', WHERE WHAT IT READS IS OF BULK AT MOST 1048576: true; the input reads as it did. -/
def frameSumsUptoRow : OpenClaim := { program := "ytpjmbhhfpoamnaa", sum := "764a6e7d8d5ae49cccc150d2f4c50ebc0f663a1463a19f47b0c1170547aee48c", func := "farebox/fareboxlaw13.FrameSums", spec := "frameSums", apart := false, narrowed := true }
def FrameSumsUptoSaid : Prop := frameSumsUptoRow.holds Try.pinned (OpenSpec.upto frameSumsSpec)

/-- 'fareboxlaw13.FrameLong', WHERE WHAT IT READS IS OF BULK AT MOST 1048576: true; the input reads as it did. -/
def frameLongUptoRow : OpenClaim := { program := "ytpjmbhhfpoamnaa", sum := "764a6e7d8d5ae49cccc150d2f4c50ebc0f663a1463a19f47b0c1170547aee48c", func := "farebox/fareboxlaw13.FrameLong", spec := "frameLong", apart := false, narrowed := true }
def FrameLongUptoSaid : Prop := frameLongUptoRow.holds Try.pinned (OpenSpec.upto frameLongSpec)

/-- 'fareboxlaw13.FrameSpoilt', WHERE WHAT IT READS IS OF BULK AT MOST 1048576: true; the input reads as it did. -/
def frameSpoiltUptoRow : OpenClaim := { program := "ytpjmbhhfpoamnaa", sum := "764a6e7d8d5ae49cccc150d2f4c50ebc0f663a1463a19f47b0c1170547aee48c", func := "farebox/fareboxlaw13.FrameSpoilt", spec := "frameSpoilt", apart := false, narrowed := true }
def FrameSpoiltUptoSaid : Prop := frameSpoiltUptoRow.holds Try.pinned (OpenSpec.upto frameSpoiltSpec)

/-- 'fareboxlaw13.FrameTorn', WHERE WHAT IT READS IS OF BULK AT MOST 1048576: true; the input reads as it did. -/
def frameTornUptoRow : OpenClaim := { program := "ytpjmbhhfpoamnaa", sum := "764a6e7d8d5ae49cccc150d2f4c50ebc0f663a1463a19f47b0c1170547aee48c", func := "farebox/fareboxlaw13.FrameTorn", spec := "frameTorn", unfollowed := true, recurses := true, apart := false, narrowed := true }
def FrameTornUptoSaid : Prop := frameTornUptoRow.holds Try.pinned (OpenSpec.upto frameTornSpec)

/-- 'fareboxlaw13.FrameBack', WHERE WHAT IT READS IS OF BULK AT MOST 1048576: true; the input reads as it did. -/
def frameBackUptoRow : OpenClaim := { program := "ytpjmbhhfpoamnaa", sum := "764a6e7d8d5ae49cccc150d2f4c50ebc0f663a1463a19f47b0c1170547aee48c", func := "farebox/fareboxlaw13.FrameBack", spec := "frameBack", unfollowed := true, recurses := true, apart := false, narrowed := true }
def FrameBackUptoSaid : Prop := frameBackUptoRow.holds Try.pinned (OpenSpec.upto frameBackSpec)

/-- 'fareboxlaw13.FrameExact', WHERE WHAT IT READS IS OF BULK AT MOST 1048576: true; the input reads as it did. -/
def frameExactUptoRow : OpenClaim := { program := "ytpjmbhhfpoamnaa", sum := "764a6e7d8d5ae49cccc150d2f4c50ebc0f663a1463a19f47b0c1170547aee48c", func := "farebox/fareboxlaw13.FrameExact", spec := "frameExact", unfollowed := true, recurses := true, apart := false, narrowed := true }
def FrameExactUptoSaid : Prop := frameExactUptoRow.holds Try.pinned (OpenSpec.upto frameExactSpec)

/-- 'fareboxlaw14.JournalReopens', WHERE WHAT IT READS IS OF BULK AT MOST 1048576: true; the input reads as it did. -/
def journalReopensUptoRow : OpenClaim := { program := "ytpjmbhhfpoamnaa", sum := "764a6e7d8d5ae49cccc150d2f4c50ebc0f663a1463a19f47b0c1170547aee48c", func := "farebox/fareboxlaw14.JournalReopens", spec := "journalReopens", unfollowed := true, recurses := true, apart := false, narrowed := true }
def JournalReopensUptoSaid : Prop := journalReopensUptoRow.holds Try.pinned (OpenSpec.upto journalReopensSpec)

/-- 'fareboxlaw14.JournalRefuses', WHERE WHAT IT READS IS OF BULK AT MOST 1048576: true; the input reads as it did. -/
def journalRefusesUptoRow : OpenClaim := { program := "ytpjmbhhfpoamnaa", sum := "764a6e7d8d5ae49cccc150d2f4c50ebc0f663a1463a19f47b0c1170547aee48c", func := "farebox/fareboxlaw14.JournalRefuses", spec := "journalRefuses", unfollowed := true, recurses := true, apart := false, narrowed := true }
def JournalRefusesUptoSaid : Prop := journalRefusesUptoRow.holds Try.pinned (OpenSpec.upto journalRefusesSpec)

/-- 'fareboxlaw14.JournalKeeps', WHERE WHAT IT READS IS OF BULK AT MOST 1048576: true; the input reads as it did. -/
def journalKeepsUptoRow : OpenClaim := { program := "ytpjmbhhfpoamnaa", sum := "764a6e7d8d5ae49cccc150d2f4c50ebc0f663a1463a19f47b0c1170547aee48c", func := "farebox/fareboxlaw14.JournalKeeps", spec := "journalKeeps", unfollowed := true, recurses := true, apart := false, narrowed := true }
def JournalKeepsUptoSaid : Prop := journalKeepsUptoRow.holds Try.pinned (OpenSpec.upto journalKeepsSpec)

/-- 'fareboxlaw14.JournalExact', WHERE WHAT IT READS IS OF BULK AT MOST 1048576: true; the input reads as it did. -/
def journalExactUptoRow : OpenClaim := { program := "ytpjmbhhfpoamnaa", sum := "764a6e7d8d5ae49cccc150d2f4c50ebc0f663a1463a19f47b0c1170547aee48c", func := "farebox/fareboxlaw14.JournalExact", spec := "journalExact", unfollowed := true, recurses := true, apart := false, narrowed := true }
def JournalExactUptoSaid : Prop := journalExactUptoRow.holds Try.pinned (OpenSpec.upto journalExactSpec)

end Rows
end Go.Proofs.Ytpjmbhhfpoamnaa
