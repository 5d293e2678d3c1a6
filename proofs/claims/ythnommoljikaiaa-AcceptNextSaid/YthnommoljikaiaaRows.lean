/-
  No cell of these rows narrows 'for every input' (looked for: loops, veiled, ifaces, maps, wideKeys, modest, calm, conditions, laid).
  DERIVED. THE GIVEN ROWS OF THIS SEAT. 15 by the template 'for every input the law returns true; each argument reads behind the call as it read before'; 0 by the template 'total and deterministic' (their statements: YthnommoljikaiaaTotals.lean).
  GIVEN WITH THE SEED: the statements are not yours to turn. If you find one false, say at which input.
  Laid BY PROGRAM, IN A SANDBOX (cutbox-rows.mjs): the forced cells as the released guide's own fill.sh prints them over the translation 6f1ceefe4a7086da… (all of the seat's roots in one cut). By AI agents, Wed Nov 11 2026. No macro, syntax, notation, axiom, sorry.
-/
import Derived.Test.YthnommoljikaiaaChecked
import GoSem.Claim
import GoSem.ClaimJoined
import GoSem.ClaimMapViews
import Derived.JoinedTies
import Derived.KernelRfl
namespace Go.Proofs.Ythnommoljikaiaa
/- THE CELL 'sum', in the pinned program and in every row, IS THE sha256 OF THE DUMP (.gsa) THAT YthnommoljikaiaaProg.lean LOADS. Nothing in Lean hashes anything: it is a label: what it is worth is what the hold of that sum in a sandbox is worth. -/
noncomputable def Try.pinned : Pinned := { name := "ythnommoljikaiaa", sum := "6f1ceefe4a7086da3c82c28671ea3f82e46df51f0aad3bdd9548600723d959a1", checked := Try.checked }
namespace Rows
def none {H : Type} : Left H := { results := [], args := [] }

/-- 'coffretlaw14.DiskTorn': WHATEVER THE INPUT: true; the input reads as it did. -/
def diskTornSpec : ChangeSpec := { name := "diskTorn", fn := fun _ => fun
  | [d1, d2, d3] => { results := [.lit (.bool true)], args := [d1, d2, d3] }
  | _ => none }
def diskTornRow : OpenClaim := { program := "ythnommoljikaiaa", sum := "6f1ceefe4a7086da3c82c28671ea3f82e46df51f0aad3bdd9548600723d959a1", func := "coffret/coffretlaw14.DiskTorn", spec := "diskTorn", apart := false }
def DiskTornSaid : Prop := diskTornRow.holds Try.pinned (OpenSpec.ofChange diskTornSpec)

/-- ITS FALSE NEIGHBOUR: 'it returns false'. Refute it at one input. -/
def diskTornWrong : ChangeSpec := { name := "diskTorn", fn := fun _ => fun
  | [d1, d2, d3] => { results := [.lit (.bool false)], args := [d1, d2, d3] }
  | _ => none }
def DiskTornWrongFalsely : Prop := diskTornRow.holds Try.pinned (OpenSpec.ofChange diskTornWrong)

/-- 'coffretlaw14.DiskPlays': WHATEVER THE INPUT: true; the input reads as it did. -/
def diskPlaysSpec : ChangeSpec := { name := "diskPlays", fn := fun _ => fun
  | [d1, d2] => { results := [.lit (.bool true)], args := [d1, d2] }
  | _ => none }
def diskPlaysRow : OpenClaim := { program := "ythnommoljikaiaa", sum := "6f1ceefe4a7086da3c82c28671ea3f82e46df51f0aad3bdd9548600723d959a1", func := "coffret/coffretlaw14.DiskPlays", spec := "diskPlays", apart := false }
def DiskPlaysSaid : Prop := diskPlaysRow.holds Try.pinned (OpenSpec.ofChange diskPlaysSpec)

/-- ITS FALSE NEIGHBOUR: 'it returns false'. Refute it at one input. -/
def diskPlaysWrong : ChangeSpec := { name := "diskPlays", fn := fun _ => fun
  | [d1, d2] => { results := [.lit (.bool false)], args := [d1, d2] }
  | _ => none }
def DiskPlaysWrongFalsely : Prop := diskPlaysRow.holds Try.pinned (OpenSpec.ofChange diskPlaysWrong)

/-- 'coffretlaw14.DiskKeeps': WHATEVER THE INPUT: true; the input reads as it did. -/
def diskKeepsSpec : ChangeSpec := { name := "diskKeeps", fn := fun _ => fun
  | [d1, d2, d3] => { results := [.lit (.bool true)], args := [d1, d2, d3] }
  | _ => none }
def diskKeepsRow : OpenClaim := { program := "ythnommoljikaiaa", sum := "6f1ceefe4a7086da3c82c28671ea3f82e46df51f0aad3bdd9548600723d959a1", func := "coffret/coffretlaw14.DiskKeeps", spec := "diskKeeps", inPlace := ["maps.clone"], apart := false }
def DiskKeepsSaid : Prop := diskKeepsRow.holds Try.pinned (OpenSpec.ofChange diskKeepsSpec)

/-- ITS FALSE NEIGHBOUR: 'it returns false'. Refute it at one input. -/
def diskKeepsWrong : ChangeSpec := { name := "diskKeeps", fn := fun _ => fun
  | [d1, d2, d3] => { results := [.lit (.bool false)], args := [d1, d2, d3] }
  | _ => none }
def DiskKeepsWrongFalsely : Prop := diskKeepsRow.holds Try.pinned (OpenSpec.ofChange diskKeepsWrong)

/-- 'coffretlaw14.DiskClones': WHATEVER THE INPUT: true; the input reads as it did. -/
def diskClonesSpec : ChangeSpec := { name := "diskClones", fn := fun _ => fun
  | [d1, d2, d3] => { results := [.lit (.bool true)], args := [d1, d2, d3] }
  | _ => none }
def diskClonesRow : OpenClaim := { program := "ythnommoljikaiaa", sum := "6f1ceefe4a7086da3c82c28671ea3f82e46df51f0aad3bdd9548600723d959a1", func := "coffret/coffretlaw14.DiskClones", spec := "diskClones", inPlace := ["maps.clone"], apart := false }
def DiskClonesSaid : Prop := diskClonesRow.holds Try.pinned (OpenSpec.ofChange diskClonesSpec)

/-- ITS FALSE NEIGHBOUR: 'it returns false'. Refute it at one input. -/
def diskClonesWrong : ChangeSpec := { name := "diskClones", fn := fun _ => fun
  | [d1, d2, d3] => { results := [.lit (.bool false)], args := [d1, d2, d3] }
  | _ => none }
def DiskClonesWrongFalsely : Prop := diskClonesRow.holds Try.pinned (OpenSpec.ofChange diskClonesWrong)

/-- 'coffretlaw14.DiskNobody': WHATEVER THE INPUT: true; the input reads as it did. -/
def diskNobodySpec : ChangeSpec := { name := "diskNobody", fn := fun _ => fun
  | [d] => { results := [.lit (.bool true)], args := [d] }
  | _ => none }
def diskNobodyRow : OpenClaim := { program := "ythnommoljikaiaa", sum := "6f1ceefe4a7086da3c82c28671ea3f82e46df51f0aad3bdd9548600723d959a1", func := "coffret/coffretlaw14.DiskNobody", spec := "diskNobody", inPlace := ["maps.clone"], apart := false }
def DiskNobodySaid : Prop := diskNobodyRow.holds Try.pinned (OpenSpec.ofChange diskNobodySpec)

/-- ITS FALSE NEIGHBOUR: 'it returns false'. Refute it at one input. -/
def diskNobodyWrong : ChangeSpec := { name := "diskNobody", fn := fun _ => fun
  | [d] => { results := [.lit (.bool false)], args := [d] }
  | _ => none }
def DiskNobodyWrongFalsely : Prop := diskNobodyRow.holds Try.pinned (OpenSpec.ofChange diskNobodyWrong)

/-- 'coffretlaw18.AcceptNext': WHATEVER THE INPUT: true; the input reads as it did. -/
def acceptNextSpec : ChangeSpec := { name := "acceptNext", fn := fun _ => fun
  | [d1, d2, d3] => { results := [.lit (.bool true)], args := [d1, d2, d3] }
  | _ => none }
def acceptNextRow : OpenClaim := { program := "ythnommoljikaiaa", sum := "6f1ceefe4a7086da3c82c28671ea3f82e46df51f0aad3bdd9548600723d959a1", func := "coffret/coffretlaw18.AcceptNext", spec := "acceptNext", unfollowed := true, recurses := true, apart := false }
def AcceptNextSaid : Prop := acceptNextRow.holds Try.pinned (OpenSpec.ofChange acceptNextSpec)

/-- ITS FALSE NEIGHBOUR: 'it returns false'. Refute it at one input. -/
def acceptNextWrong : ChangeSpec := { name := "acceptNext", fn := fun _ => fun
  | [d1, d2, d3] => { results := [.lit (.bool false)], args := [d1, d2, d3] }
  | _ => none }
def AcceptNextWrongFalsely : Prop := acceptNextRow.holds Try.pinned (OpenSpec.ofChange acceptNextWrong)

/-- 'coffretlaw18.AcceptRises': WHATEVER THE INPUT: true; the input reads as it did. -/
def acceptRisesSpec : ChangeSpec := { name := "acceptRises", fn := fun _ => fun
  | [d] => { results := [.lit (.bool true)], args := [d] }
  | _ => none }
def acceptRisesRow : OpenClaim := { program := "ythnommoljikaiaa", sum := "6f1ceefe4a7086da3c82c28671ea3f82e46df51f0aad3bdd9548600723d959a1", func := "coffret/coffretlaw18.AcceptRises", spec := "acceptRises", inPlace := ["internal/reflectlite.TypeOf"], unfollowed := true, recurses := true, apart := false }
def AcceptRisesSaid : Prop := acceptRisesRow.holds Try.pinned (OpenSpec.ofChange acceptRisesSpec)

/-- ITS FALSE NEIGHBOUR: 'it returns false'. Refute it at one input. -/
def acceptRisesWrong : ChangeSpec := { name := "acceptRises", fn := fun _ => fun
  | [d] => { results := [.lit (.bool false)], args := [d] }
  | _ => none }
def AcceptRisesWrongFalsely : Prop := acceptRisesRow.holds Try.pinned (OpenSpec.ofChange acceptRisesWrong)

/-- 'coffretlaw18.AcceptOnce': WHATEVER THE INPUT: true; the input reads as it did. -/
def acceptOnceSpec : ChangeSpec := { name := "acceptOnce", fn := fun _ => fun
  | [d1, d2, d3] => { results := [.lit (.bool true)], args := [d1, d2, d3] }
  | _ => none }
def acceptOnceRow : OpenClaim := { program := "ythnommoljikaiaa", sum := "6f1ceefe4a7086da3c82c28671ea3f82e46df51f0aad3bdd9548600723d959a1", func := "coffret/coffretlaw18.AcceptOnce", spec := "acceptOnce", inPlace := ["internal/reflectlite.TypeOf"], unfollowed := true, recurses := true, apart := false }
def AcceptOnceSaid : Prop := acceptOnceRow.holds Try.pinned (OpenSpec.ofChange acceptOnceSpec)

/-- ITS FALSE NEIGHBOUR: 'it returns false'. Refute it at one input. -/
def acceptOnceWrong : ChangeSpec := { name := "acceptOnce", fn := fun _ => fun
  | [d1, d2, d3] => { results := [.lit (.bool false)], args := [d1, d2, d3] }
  | _ => none }
def AcceptOnceWrongFalsely : Prop := acceptOnceRow.holds Try.pinned (OpenSpec.ofChange acceptOnceWrong)

/-- 'coffretlaw18.AcceptTells': WHATEVER THE INPUT: true; the input reads as it did. -/
def acceptTellsSpec : ChangeSpec := { name := "acceptTells", fn := fun _ => fun
  | [d1, d2, d3] => { results := [.lit (.bool true)], args := [d1, d2, d3] }
  | _ => none }
def acceptTellsRow : OpenClaim := { program := "ythnommoljikaiaa", sum := "6f1ceefe4a7086da3c82c28671ea3f82e46df51f0aad3bdd9548600723d959a1", func := "coffret/coffretlaw18.AcceptTells", spec := "acceptTells", inPlace := ["internal/reflectlite.TypeOf"], unfollowed := true, recurses := true, apart := false }
def AcceptTellsSaid : Prop := acceptTellsRow.holds Try.pinned (OpenSpec.ofChange acceptTellsSpec)

/-- ITS FALSE NEIGHBOUR: 'it returns false'. Refute it at one input. -/
def acceptTellsWrong : ChangeSpec := { name := "acceptTells", fn := fun _ => fun
  | [d1, d2, d3] => { results := [.lit (.bool false)], args := [d1, d2, d3] }
  | _ => none }
def AcceptTellsWrongFalsely : Prop := acceptTellsRow.holds Try.pinned (OpenSpec.ofChange acceptTellsWrong)

/-- 'coffretlaw19.FramePuts': WHATEVER THE INPUT: true; the input reads as it did. -/
def framePutsSpec : ChangeSpec := { name := "framePuts", fn := fun _ => fun
  | [d1, d2] => { results := [.lit (.bool true)], args := [d1, d2] }
  | _ => none }
def framePutsRow : OpenClaim := { program := "ythnommoljikaiaa", sum := "6f1ceefe4a7086da3c82c28671ea3f82e46df51f0aad3bdd9548600723d959a1", func := "coffret/coffretlaw19.FramePuts", spec := "framePuts", unfollowed := true, recurses := true, apart := false }
def FramePutsSaid : Prop := framePutsRow.holds Try.pinned (OpenSpec.ofChange framePutsSpec)

/-- ITS FALSE NEIGHBOUR: 'it returns false'. Refute it at one input. -/
def framePutsWrong : ChangeSpec := { name := "framePuts", fn := fun _ => fun
  | [d1, d2] => { results := [.lit (.bool false)], args := [d1, d2] }
  | _ => none }
def FramePutsWrongFalsely : Prop := framePutsRow.holds Try.pinned (OpenSpec.ofChange framePutsWrong)

/-- 'coffretlaw19.FrameBack': WHATEVER THE INPUT: true; the input reads as it did. -/
def frameBackSpec : ChangeSpec := { name := "frameBack", fn := fun _ => fun
  | [d1, d2, d3] => { results := [.lit (.bool true)], args := [d1, d2, d3] }
  | _ => none }
def frameBackRow : OpenClaim := { program := "ythnommoljikaiaa", sum := "6f1ceefe4a7086da3c82c28671ea3f82e46df51f0aad3bdd9548600723d959a1", func := "coffret/coffretlaw19.FrameBack", spec := "frameBack", unfollowed := true, recurses := true, apart := false }
def FrameBackSaid : Prop := frameBackRow.holds Try.pinned (OpenSpec.ofChange frameBackSpec)

/-- ITS FALSE NEIGHBOUR: 'it returns false'. Refute it at one input. -/
def frameBackWrong : ChangeSpec := { name := "frameBack", fn := fun _ => fun
  | [d1, d2, d3] => { results := [.lit (.bool false)], args := [d1, d2, d3] }
  | _ => none }
def FrameBackWrongFalsely : Prop := frameBackRow.holds Try.pinned (OpenSpec.ofChange frameBackWrong)

/-- 'coffretlaw19.FrameApart': WHATEVER THE INPUT: true; the input reads as it did. -/
def frameApartSpec : ChangeSpec := { name := "frameApart", fn := fun _ => fun
  | [d1, d2, d3] => { results := [.lit (.bool true)], args := [d1, d2, d3] }
  | _ => none }
def frameApartRow : OpenClaim := { program := "ythnommoljikaiaa", sum := "6f1ceefe4a7086da3c82c28671ea3f82e46df51f0aad3bdd9548600723d959a1", func := "coffret/coffretlaw19.FrameApart", spec := "frameApart", unfollowed := true, recurses := true, apart := false }
def FrameApartSaid : Prop := frameApartRow.holds Try.pinned (OpenSpec.ofChange frameApartSpec)

/-- ITS FALSE NEIGHBOUR: 'it returns false'. Refute it at one input. -/
def frameApartWrong : ChangeSpec := { name := "frameApart", fn := fun _ => fun
  | [d1, d2, d3] => { results := [.lit (.bool false)], args := [d1, d2, d3] }
  | _ => none }
def FrameApartWrongFalsely : Prop := frameApartRow.holds Try.pinned (OpenSpec.ofChange frameApartWrong)

/-- 'coffretlaw20.MsgPuts': WHATEVER THE INPUT: true; the input reads as it did. -/
def msgPutsSpec : ChangeSpec := { name := "msgPuts", fn := fun _ => fun
  | [d1, d2, d3] => { results := [.lit (.bool true)], args := [d1, d2, d3] }
  | _ => none }
def msgPutsRow : OpenClaim := { program := "ythnommoljikaiaa", sum := "6f1ceefe4a7086da3c82c28671ea3f82e46df51f0aad3bdd9548600723d959a1", func := "coffret/coffretlaw20.MsgPuts", spec := "msgPuts", inPlace := ["internal/reflectlite.TypeOf"], unfollowed := true, recurses := true, apart := false }
def MsgPutsSaid : Prop := msgPutsRow.holds Try.pinned (OpenSpec.ofChange msgPutsSpec)

/-- ITS FALSE NEIGHBOUR: 'it returns false'. Refute it at one input. -/
def msgPutsWrong : ChangeSpec := { name := "msgPuts", fn := fun _ => fun
  | [d1, d2, d3] => { results := [.lit (.bool false)], args := [d1, d2, d3] }
  | _ => none }
def MsgPutsWrongFalsely : Prop := msgPutsRow.holds Try.pinned (OpenSpec.ofChange msgPutsWrong)

/-- 'coffretlaw20.MsgLengths': WHATEVER THE INPUT: true; the input reads as it did. -/
def msgLengthsSpec : ChangeSpec := { name := "msgLengths", fn := fun _ => fun
  | [d1, d2] => { results := [.lit (.bool true)], args := [d1, d2] }
  | _ => none }
def msgLengthsRow : OpenClaim := { program := "ythnommoljikaiaa", sum := "6f1ceefe4a7086da3c82c28671ea3f82e46df51f0aad3bdd9548600723d959a1", func := "coffret/coffretlaw20.MsgLengths", spec := "msgLengths", inPlace := ["internal/reflectlite.TypeOf"], unfollowed := true, recurses := true, apart := false }
def MsgLengthsSaid : Prop := msgLengthsRow.holds Try.pinned (OpenSpec.ofChange msgLengthsSpec)

/-- ITS FALSE NEIGHBOUR: 'it returns false'. Refute it at one input. -/
def msgLengthsWrong : ChangeSpec := { name := "msgLengths", fn := fun _ => fun
  | [d1, d2] => { results := [.lit (.bool false)], args := [d1, d2] }
  | _ => none }
def MsgLengthsWrongFalsely : Prop := msgLengthsRow.holds Try.pinned (OpenSpec.ofChange msgLengthsWrong)

/-- 'coffretlaw20.MsgBack': WHATEVER THE INPUT: true; the input reads as it did. -/
def msgBackSpec : ChangeSpec := { name := "msgBack", fn := fun _ => fun
  | [d1, d2] => { results := [.lit (.bool true)], args := [d1, d2] }
  | _ => none }
def msgBackRow : OpenClaim := { program := "ythnommoljikaiaa", sum := "6f1ceefe4a7086da3c82c28671ea3f82e46df51f0aad3bdd9548600723d959a1", func := "coffret/coffretlaw20.MsgBack", spec := "msgBack", inPlace := ["internal/reflectlite.TypeOf"], unfollowed := true, recurses := true, apart := false }
def MsgBackSaid : Prop := msgBackRow.holds Try.pinned (OpenSpec.ofChange msgBackSpec)

/-- ITS FALSE NEIGHBOUR: 'it returns false'. Refute it at one input. -/
def msgBackWrong : ChangeSpec := { name := "msgBack", fn := fun _ => fun
  | [d1, d2] => { results := [.lit (.bool false)], args := [d1, d2] }
  | _ => none }
def MsgBackWrongFalsely : Prop := msgBackRow.holds Try.pinned (OpenSpec.ofChange msgBackWrong)

/- THE SECOND FORM. 'bulk': how many values and letters a reading holds, each counted each time it is reached (what is shared counts as often as it is met; a slice's spare places count too). A statement '..UptoSaid' is the law's where the arguments, and the package variables that the reading takes, are together of bulk at most 1048576: NARROWER than '..Said'. Prove '..Said' where nothing that the law and all that it calls make is longer than what came in: it says more and counts as full. Else prove '..UptoSaid'. A law counts once. -/
mutual
def uptoBulk {H : Type} : DataW H → Nat
  | .lit (.string bytes) => bytes.length + 1
  | .lit _ => 1
  | .nil => 1
  | .ptr d => uptoBulk d + 1
  | .slice elems spare => uptoBulkAll elems + uptoBulkAll spare + 1
  | .agg parts => uptoBulkAll parts + 1
  | .iface _ d => uptoBulk d + 1
  | .map entries => uptoBulkEntries entries + 1
  | .held _ => 1
def uptoBulkAll {H : Type} : List (DataW H) → Nat
  | [] => 0
  | d :: r => uptoBulk d + uptoBulkAll r
def uptoBulkEntries {H : Type} : List (Lit × DataW H) → Nat
  | [] => 0
  | x :: r => uptoBulkEntry x + uptoBulkEntries r
def uptoBulkEntry {H : Type} : Lit × DataW H → Nat
  | (.string bytes, d) => bytes.length + uptoBulk d + 1
  | (_, d) => uptoBulk d + 1
 end
def uptoSmall : (H : Type) → List (DataW H) → Bool := fun _ ds => decide (uptoBulkAll ds ≤ 1048576)
def OpenSpec.upto (s : _root_.Go.ChangeSpec) : _root_.Go.OpenSpec := { _root_.Go.OpenSpec.ofChange s with cond := some uptoSmall }

/-- 'coffretlaw14.DiskTorn', WHERE WHAT IT READS IS OF BULK AT MOST 1048576: true; the input reads as it did. -/
def diskTornUptoRow : OpenClaim := { program := "ythnommoljikaiaa", sum := "6f1ceefe4a7086da3c82c28671ea3f82e46df51f0aad3bdd9548600723d959a1", func := "coffret/coffretlaw14.DiskTorn", spec := "diskTorn", apart := false, narrowed := true }
def DiskTornUptoSaid : Prop := diskTornUptoRow.holds Try.pinned (OpenSpec.upto diskTornSpec)

/-- 'coffretlaw14.DiskPlays', WHERE WHAT IT READS IS OF BULK AT MOST 1048576: true; the input reads as it did. -/
def diskPlaysUptoRow : OpenClaim := { program := "ythnommoljikaiaa", sum := "6f1ceefe4a7086da3c82c28671ea3f82e46df51f0aad3bdd9548600723d959a1", func := "coffret/coffretlaw14.DiskPlays", spec := "diskPlays", apart := false, narrowed := true }
def DiskPlaysUptoSaid : Prop := diskPlaysUptoRow.holds Try.pinned (OpenSpec.upto diskPlaysSpec)

/-- 'coffretlaw14.DiskKeeps', WHERE WHAT IT READS IS OF BULK AT MOST 1048576: true; the input reads as it did. -/
def diskKeepsUptoRow : OpenClaim := { program := "ythnommoljikaiaa", sum := "6f1ceefe4a7086da3c82c28671ea3f82e46df51f0aad3bdd9548600723d959a1", func := "coffret/coffretlaw14.DiskKeeps", spec := "diskKeeps", inPlace := ["maps.clone"], apart := false, narrowed := true }
def DiskKeepsUptoSaid : Prop := diskKeepsUptoRow.holds Try.pinned (OpenSpec.upto diskKeepsSpec)

/-- 'coffretlaw14.DiskClones', WHERE WHAT IT READS IS OF BULK AT MOST 1048576: true; the input reads as it did. -/
def diskClonesUptoRow : OpenClaim := { program := "ythnommoljikaiaa", sum := "6f1ceefe4a7086da3c82c28671ea3f82e46df51f0aad3bdd9548600723d959a1", func := "coffret/coffretlaw14.DiskClones", spec := "diskClones", inPlace := ["maps.clone"], apart := false, narrowed := true }
def DiskClonesUptoSaid : Prop := diskClonesUptoRow.holds Try.pinned (OpenSpec.upto diskClonesSpec)

/-- 'coffretlaw14.DiskNobody', WHERE WHAT IT READS IS OF BULK AT MOST 1048576: true; the input reads as it did. -/
def diskNobodyUptoRow : OpenClaim := { program := "ythnommoljikaiaa", sum := "6f1ceefe4a7086da3c82c28671ea3f82e46df51f0aad3bdd9548600723d959a1", func := "coffret/coffretlaw14.DiskNobody", spec := "diskNobody", inPlace := ["maps.clone"], apart := false, narrowed := true }
def DiskNobodyUptoSaid : Prop := diskNobodyUptoRow.holds Try.pinned (OpenSpec.upto diskNobodySpec)

/-- 'coffretlaw18.AcceptNext', WHERE WHAT IT READS IS OF BULK AT MOST 1048576: true; the input reads as it did. -/
def acceptNextUptoRow : OpenClaim := { program := "ythnommoljikaiaa", sum := "6f1ceefe4a7086da3c82c28671ea3f82e46df51f0aad3bdd9548600723d959a1", func := "coffret/coffretlaw18.AcceptNext", spec := "acceptNext", unfollowed := true, recurses := true, apart := false, narrowed := true }
def AcceptNextUptoSaid : Prop := acceptNextUptoRow.holds Try.pinned (OpenSpec.upto acceptNextSpec)

/-- 'coffretlaw18.AcceptRises', WHERE WHAT IT READS IS OF BULK AT MOST 1048576: true; the input reads as it did. -/
def acceptRisesUptoRow : OpenClaim := { program := "ythnommoljikaiaa", sum := "6f1ceefe4a7086da3c82c28671ea3f82e46df51f0aad3bdd9548600723d959a1", func := "coffret/coffretlaw18.AcceptRises", spec := "acceptRises", inPlace := ["internal/reflectlite.TypeOf"], unfollowed := true, recurses := true, apart := false, narrowed := true }
def AcceptRisesUptoSaid : Prop := acceptRisesUptoRow.holds Try.pinned (OpenSpec.upto acceptRisesSpec)

/-- 'coffretlaw18.AcceptOnce', WHERE WHAT IT READS IS OF BULK AT MOST 1048576: true; the input reads as it did. -/
def acceptOnceUptoRow : OpenClaim := { program := "ythnommoljikaiaa", sum := "6f1ceefe4a7086da3c82c28671ea3f82e46df51f0aad3bdd9548600723d959a1", func := "coffret/coffretlaw18.AcceptOnce", spec := "acceptOnce", inPlace := ["internal/reflectlite.TypeOf"], unfollowed := true, recurses := true, apart := false, narrowed := true }
def AcceptOnceUptoSaid : Prop := acceptOnceUptoRow.holds Try.pinned (OpenSpec.upto acceptOnceSpec)

/-- 'coffretlaw18.AcceptTells', WHERE WHAT IT READS IS OF BULK AT MOST 1048576: true; the input reads as it did. -/
def acceptTellsUptoRow : OpenClaim := { program := "ythnommoljikaiaa", sum := "6f1ceefe4a7086da3c82c28671ea3f82e46df51f0aad3bdd9548600723d959a1", func := "coffret/coffretlaw18.AcceptTells", spec := "acceptTells", inPlace := ["internal/reflectlite.TypeOf"], unfollowed := true, recurses := true, apart := false, narrowed := true }
def AcceptTellsUptoSaid : Prop := acceptTellsUptoRow.holds Try.pinned (OpenSpec.upto acceptTellsSpec)

/-- 'coffretlaw19.FramePuts', WHERE WHAT IT READS IS OF BULK AT MOST 1048576: true; the input reads as it did. -/
def framePutsUptoRow : OpenClaim := { program := "ythnommoljikaiaa", sum := "6f1ceefe4a7086da3c82c28671ea3f82e46df51f0aad3bdd9548600723d959a1", func := "coffret/coffretlaw19.FramePuts", spec := "framePuts", unfollowed := true, recurses := true, apart := false, narrowed := true }
def FramePutsUptoSaid : Prop := framePutsUptoRow.holds Try.pinned (OpenSpec.upto framePutsSpec)

/-- 'coffretlaw19.FrameBack', WHERE WHAT IT READS IS OF BULK AT MOST 1048576: true; the input reads as it did. -/
def frameBackUptoRow : OpenClaim := { program := "ythnommoljikaiaa", sum := "6f1ceefe4a7086da3c82c28671ea3f82e46df51f0aad3bdd9548600723d959a1", func := "coffret/coffretlaw19.FrameBack", spec := "frameBack", unfollowed := true, recurses := true, apart := false, narrowed := true }
def FrameBackUptoSaid : Prop := frameBackUptoRow.holds Try.pinned (OpenSpec.upto frameBackSpec)

/-- 'coffretlaw19.FrameApart', WHERE WHAT IT READS IS OF BULK AT MOST 1048576: true; the input reads as it did. -/
def frameApartUptoRow : OpenClaim := { program := "ythnommoljikaiaa", sum := "6f1ceefe4a7086da3c82c28671ea3f82e46df51f0aad3bdd9548600723d959a1", func := "coffret/coffretlaw19.FrameApart", spec := "frameApart", unfollowed := true, recurses := true, apart := false, narrowed := true }
def FrameApartUptoSaid : Prop := frameApartUptoRow.holds Try.pinned (OpenSpec.upto frameApartSpec)

/-- 'coffretlaw20.MsgPuts', WHERE WHAT IT READS IS OF BULK AT MOST 1048576: true; the input reads as it did. -/
def msgPutsUptoRow : OpenClaim := { program := "ythnommoljikaiaa", sum := "6f1ceefe4a7086da3c82c28671ea3f82e46df51f0aad3bdd9548600723d959a1", func := "coffret/coffretlaw20.MsgPuts", spec := "msgPuts", inPlace := ["internal/reflectlite.TypeOf"], unfollowed := true, recurses := true, apart := false, narrowed := true }
def MsgPutsUptoSaid : Prop := msgPutsUptoRow.holds Try.pinned (OpenSpec.upto msgPutsSpec)

/-- 'coffretlaw20.MsgLengths', WHERE WHAT IT READS IS OF BULK AT MOST 1048576: true; the input reads as it did. -/
def msgLengthsUptoRow : OpenClaim := { program := "ythnommoljikaiaa", sum := "6f1ceefe4a7086da3c82c28671ea3f82e46df51f0aad3bdd9548600723d959a1", func := "coffret/coffretlaw20.MsgLengths", spec := "msgLengths", inPlace := ["internal/reflectlite.TypeOf"], unfollowed := true, recurses := true, apart := false, narrowed := true }
def MsgLengthsUptoSaid : Prop := msgLengthsUptoRow.holds Try.pinned (OpenSpec.upto msgLengthsSpec)

/-- 'coffretlaw20.MsgBack', WHERE WHAT IT READS IS OF BULK AT MOST 1048576: true; the input reads as it did. -/
def msgBackUptoRow : OpenClaim := { program := "ythnommoljikaiaa", sum := "6f1ceefe4a7086da3c82c28671ea3f82e46df51f0aad3bdd9548600723d959a1", func := "coffret/coffretlaw20.MsgBack", spec := "msgBack", inPlace := ["internal/reflectlite.TypeOf"], unfollowed := true, recurses := true, apart := false, narrowed := true }
def MsgBackUptoSaid : Prop := msgBackUptoRow.holds Try.pinned (OpenSpec.upto msgBackSpec)

end Rows
end Go.Proofs.Ythnommoljikaiaa
