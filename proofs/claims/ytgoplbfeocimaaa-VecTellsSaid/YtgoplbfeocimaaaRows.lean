/-
  No cell of these rows narrows 'for every input' (looked for: loops, veiled, ifaces, maps, wideKeys, modest, calm, conditions, laid).
  DERIVED. THE GIVEN ROWS OF THIS SEAT. 17 by the template 'for every input the law returns true; each argument reads behind the call as it read before'; 0 by the template 'total and deterministic' (their statements: YtgoplbfeocimaaaTotals.lean).
  GIVEN WITH THE SEED: the statements are not yours to turn. If you find one false, say at which input.
  Laid BY PROGRAM, IN A SANDBOX (cutbox-rows.mjs): the forced cells as the released guide's own fill.sh prints them over the translation 381a97b4af2a2336… (all of the seat's roots in one cut). By AI agents, Wed Nov 11 2026. No macro, syntax, notation, axiom, sorry.
-/
import Derived.Test.YtgoplbfeocimaaaChecked
import GoSem.Claim
import GoSem.ClaimJoined
import GoSem.ClaimMapViews
import Derived.JoinedTies
import Derived.KernelRfl
namespace Go.Proofs.Ytgoplbfeocimaaa
/- THE CELL 'sum', in the pinned program and in every row, IS THE sha256 OF THE DUMP (.gsa) THAT YtgoplbfeocimaaaProg.lean LOADS. Nothing in Lean hashes anything: it is a label: what it is worth is what the hold of that sum in a sandbox is worth. -/
noncomputable def Try.pinned : Pinned := { name := "ytgoplbfeocimaaa", sum := "381a97b4af2a233653480251a4d3cf3e71bfde831cc49c26739c982826283279", checked := Try.checked }
namespace Rows
def none {H : Type} : Left H := { results := [], args := [] }

/-- 'lightwelllaw12.MeshNumbers': WHATEVER THE INPUT: true; the input reads as it did. -/
def meshNumbersSpec : ChangeSpec := { name := "meshNumbers", fn := fun _ => fun
  | [] => { results := [.lit (.bool true)], args := [] }
  | _ => none }
def meshNumbersRow : OpenClaim := { program := "ytgoplbfeocimaaa", sum := "381a97b4af2a233653480251a4d3cf3e71bfde831cc49c26739c982826283279", func := "lightwell/lightwelllaw12.MeshNumbers", spec := "meshNumbers", unfollowed := true, recurses := true, apart := false }
def MeshNumbersSaid : Prop := meshNumbersRow.holds Try.pinned (OpenSpec.ofChange meshNumbersSpec)

/-- ITS FALSE NEIGHBOUR: 'it returns false'. Refute it at one input. -/
def meshNumbersWrong : ChangeSpec := { name := "meshNumbers", fn := fun _ => fun
  | [] => { results := [.lit (.bool false)], args := [] }
  | _ => none }
def MeshNumbersWrongFalsely : Prop := meshNumbersRow.holds Try.pinned (OpenSpec.ofChange meshNumbersWrong)

/-- 'lightwelllaw12.MeshTells': WHATEVER THE INPUT: true; the input reads as it did. -/
def meshTellsSpec : ChangeSpec := { name := "meshTells", fn := fun _ => fun
  | [d1, d2, d3] => { results := [.lit (.bool true)], args := [d1, d2, d3] }
  | _ => none }
def meshTellsRow : OpenClaim := { program := "ytgoplbfeocimaaa", sum := "381a97b4af2a233653480251a4d3cf3e71bfde831cc49c26739c982826283279", func := "lightwell/lightwelllaw12.MeshTells", spec := "meshTells", unfollowed := true, recurses := true, apart := false }
def MeshTellsSaid : Prop := meshTellsRow.holds Try.pinned (OpenSpec.ofChange meshTellsSpec)

/-- ITS FALSE NEIGHBOUR: 'it returns false'. Refute it at one input. -/
def meshTellsWrong : ChangeSpec := { name := "meshTells", fn := fun _ => fun
  | [d1, d2, d3] => { results := [.lit (.bool false)], args := [d1, d2, d3] }
  | _ => none }
def MeshTellsWrongFalsely : Prop := meshTellsRow.holds Try.pinned (OpenSpec.ofChange meshTellsWrong)

/-- 'lightwelllaw12.MeshBack': WHATEVER THE INPUT: true; the input reads as it did. -/
def meshBackSpec : ChangeSpec := { name := "meshBack", fn := fun _ => fun
  | [d1, d2] => { results := [.lit (.bool true)], args := [d1, d2] }
  | _ => none }
def meshBackRow : OpenClaim := { program := "ytgoplbfeocimaaa", sum := "381a97b4af2a233653480251a4d3cf3e71bfde831cc49c26739c982826283279", func := "lightwell/lightwelllaw12.MeshBack", spec := "meshBack", unfollowed := true, recurses := true, apart := false }
def MeshBackSaid : Prop := meshBackRow.holds Try.pinned (OpenSpec.ofChange meshBackSpec)

/-- ITS FALSE NEIGHBOUR: 'it returns false'. Refute it at one input. -/
def meshBackWrong : ChangeSpec := { name := "meshBack", fn := fun _ => fun
  | [d1, d2] => { results := [.lit (.bool false)], args := [d1, d2] }
  | _ => none }
def MeshBackWrongFalsely : Prop := meshBackRow.holds Try.pinned (OpenSpec.ofChange meshBackWrong)

/-- 'lightwelllaw01.FixRounds': WHATEVER THE INPUT: true; the input reads as it did. -/
def fixRoundsSpec : ChangeSpec := { name := "fixRounds", fn := fun _ => fun
  | [d1, d2, d3] => { results := [.lit (.bool true)], args := [d1, d2, d3] }
  | _ => none }
def fixRoundsRow : OpenClaim := { program := "ytgoplbfeocimaaa", sum := "381a97b4af2a233653480251a4d3cf3e71bfde831cc49c26739c982826283279", func := "lightwell/lightwelllaw01.FixRounds", spec := "fixRounds", unfollowed := true, recurses := true, named := ["math/bits.divideError", "math/bits.overflowError"], apart := false }
def FixRoundsSaid : Prop := fixRoundsRow.holds Try.pinned (OpenSpec.ofChange fixRoundsSpec)

/-- ITS FALSE NEIGHBOUR: 'it returns false'. Refute it at one input. -/
def fixRoundsWrong : ChangeSpec := { name := "fixRounds", fn := fun _ => fun
  | [d1, d2, d3] => { results := [.lit (.bool false)], args := [d1, d2, d3] }
  | _ => none }
def FixRoundsWrongFalsely : Prop := fixRoundsRow.holds Try.pinned (OpenSpec.ofChange fixRoundsWrong)

/-- 'lightwelllaw01.FixOrder': WHATEVER THE INPUT: true; the input reads as it did. -/
def fixOrderSpec : ChangeSpec := { name := "fixOrder", fn := fun _ => fun
  | [d1, d2, d3] => { results := [.lit (.bool true)], args := [d1, d2, d3] }
  | _ => none }
def fixOrderRow : OpenClaim := { program := "ytgoplbfeocimaaa", sum := "381a97b4af2a233653480251a4d3cf3e71bfde831cc49c26739c982826283279", func := "lightwell/lightwelllaw01.FixOrder", spec := "fixOrder", unfollowed := true, recurses := true, named := ["math/bits.divideError", "math/bits.overflowError"], apart := false }
def FixOrderSaid : Prop := fixOrderRow.holds Try.pinned (OpenSpec.ofChange fixOrderSpec)

/-- ITS FALSE NEIGHBOUR: 'it returns false'. Refute it at one input. -/
def fixOrderWrong : ChangeSpec := { name := "fixOrder", fn := fun _ => fun
  | [d1, d2, d3] => { results := [.lit (.bool false)], args := [d1, d2, d3] }
  | _ => none }
def FixOrderWrongFalsely : Prop := fixOrderRow.holds Try.pinned (OpenSpec.ofChange fixOrderWrong)

/-- 'lightwelllaw01.FixNumbers': WHATEVER THE INPUT: true; the input reads as it did. -/
def fixNumbersSpec : ChangeSpec := { name := "fixNumbers", fn := fun _ => fun
  | [] => { results := [.lit (.bool true)], args := [] }
  | _ => none }
def fixNumbersRow : OpenClaim := { program := "ytgoplbfeocimaaa", sum := "381a97b4af2a233653480251a4d3cf3e71bfde831cc49c26739c982826283279", func := "lightwell/lightwelllaw01.FixNumbers", spec := "fixNumbers", unfollowed := true, recurses := true, named := ["math/bits.divideError", "math/bits.overflowError"], apart := false }
def FixNumbersSaid : Prop := fixNumbersRow.holds Try.pinned (OpenSpec.ofChange fixNumbersSpec)

/-- ITS FALSE NEIGHBOUR: 'it returns false'. Refute it at one input. -/
def fixNumbersWrong : ChangeSpec := { name := "fixNumbers", fn := fun _ => fun
  | [] => { results := [.lit (.bool false)], args := [] }
  | _ => none }
def FixNumbersWrongFalsely : Prop := fixNumbersRow.holds Try.pinned (OpenSpec.ofChange fixNumbersWrong)

/-- 'lightwelllaw01.FixTells': WHATEVER THE INPUT: true; the input reads as it did. -/
def fixTellsSpec : ChangeSpec := { name := "fixTells", fn := fun _ => fun
  | [d1, d2, d3] => { results := [.lit (.bool true)], args := [d1, d2, d3] }
  | _ => none }
def fixTellsRow : OpenClaim := { program := "ytgoplbfeocimaaa", sum := "381a97b4af2a233653480251a4d3cf3e71bfde831cc49c26739c982826283279", func := "lightwell/lightwelllaw01.FixTells", spec := "fixTells", unfollowed := true, recurses := true, named := ["math/bits.divideError", "math/bits.overflowError"], apart := false }
def FixTellsSaid : Prop := fixTellsRow.holds Try.pinned (OpenSpec.ofChange fixTellsSpec)

/-- ITS FALSE NEIGHBOUR: 'it returns false'. Refute it at one input. -/
def fixTellsWrong : ChangeSpec := { name := "fixTells", fn := fun _ => fun
  | [d1, d2, d3] => { results := [.lit (.bool false)], args := [d1, d2, d3] }
  | _ => none }
def FixTellsWrongFalsely : Prop := fixTellsRow.holds Try.pinned (OpenSpec.ofChange fixTellsWrong)

/-- 'lightwelllaw02.VecNumbers': WHATEVER THE INPUT: true; the input reads as it did. -/
def vecNumbersSpec : ChangeSpec := { name := "vecNumbers", fn := fun _ => fun
  | [] => { results := [.lit (.bool true)], args := [] }
  | _ => none }
def vecNumbersRow : OpenClaim := { program := "ytgoplbfeocimaaa", sum := "381a97b4af2a233653480251a4d3cf3e71bfde831cc49c26739c982826283279", func := "lightwell/lightwelllaw02.VecNumbers", spec := "vecNumbers", unfollowed := true, recurses := true, named := ["math/bits.divideError", "math/bits.overflowError"], apart := false }
def VecNumbersSaid : Prop := vecNumbersRow.holds Try.pinned (OpenSpec.ofChange vecNumbersSpec)

/-- ITS FALSE NEIGHBOUR: 'it returns false'. Refute it at one input. -/
def vecNumbersWrong : ChangeSpec := { name := "vecNumbers", fn := fun _ => fun
  | [] => { results := [.lit (.bool false)], args := [] }
  | _ => none }
def VecNumbersWrongFalsely : Prop := vecNumbersRow.holds Try.pinned (OpenSpec.ofChange vecNumbersWrong)

/-- 'lightwelllaw02.VecTells': WHATEVER THE INPUT: true; the input reads as it did. -/
def vecTellsSpec : ChangeSpec := { name := "vecTells", fn := fun _ => fun
  | [d1, d2, d3] => { results := [.lit (.bool true)], args := [d1, d2, d3] }
  | _ => none }
def vecTellsRow : OpenClaim := { program := "ytgoplbfeocimaaa", sum := "381a97b4af2a233653480251a4d3cf3e71bfde831cc49c26739c982826283279", func := "lightwell/lightwelllaw02.VecTells", spec := "vecTells", unfollowed := true, recurses := true, named := ["math/bits.divideError", "math/bits.overflowError"], apart := false }
def VecTellsSaid : Prop := vecTellsRow.holds Try.pinned (OpenSpec.ofChange vecTellsSpec)

/-- ITS FALSE NEIGHBOUR: 'it returns false'. Refute it at one input. -/
def vecTellsWrong : ChangeSpec := { name := "vecTells", fn := fun _ => fun
  | [d1, d2, d3] => { results := [.lit (.bool false)], args := [d1, d2, d3] }
  | _ => none }
def VecTellsWrongFalsely : Prop := vecTellsRow.holds Try.pinned (OpenSpec.ofChange vecTellsWrong)

/-- 'lightwelllaw02.VecTurns': WHATEVER THE INPUT: true; the input reads as it did. -/
def vecTurnsSpec : ChangeSpec := { name := "vecTurns", fn := fun _ => fun
  | [d1, d2] => { results := [.lit (.bool true)], args := [d1, d2] }
  | _ => none }
def vecTurnsRow : OpenClaim := { program := "ytgoplbfeocimaaa", sum := "381a97b4af2a233653480251a4d3cf3e71bfde831cc49c26739c982826283279", func := "lightwell/lightwelllaw02.VecTurns", spec := "vecTurns", unfollowed := true, recurses := true, named := ["math/bits.divideError", "math/bits.overflowError"], apart := false }
def VecTurnsSaid : Prop := vecTurnsRow.holds Try.pinned (OpenSpec.ofChange vecTurnsSpec)

/-- ITS FALSE NEIGHBOUR: 'it returns false'. Refute it at one input. -/
def vecTurnsWrong : ChangeSpec := { name := "vecTurns", fn := fun _ => fun
  | [d1, d2] => { results := [.lit (.bool false)], args := [d1, d2] }
  | _ => none }
def VecTurnsWrongFalsely : Prop := vecTurnsRow.holds Try.pinned (OpenSpec.ofChange vecTurnsWrong)

/-- 'lightwelllaw21.LightPixels': WHATEVER THE INPUT: true; the input reads as it did. -/
def lightPixelsSpec : ChangeSpec := { name := "lightPixels", fn := fun _ => fun
  | [d1, d2, d3] => { results := [.lit (.bool true)], args := [d1, d2, d3] }
  | _ => none }
def lightPixelsRow : OpenClaim := { program := "ytgoplbfeocimaaa", sum := "381a97b4af2a233653480251a4d3cf3e71bfde831cc49c26739c982826283279", func := "lightwell/lightwelllaw21.LightPixels", spec := "lightPixels", unfollowed := true, recurses := true, named := ["math/bits.divideError", "math/bits.overflowError"], apart := false }
def LightPixelsSaid : Prop := lightPixelsRow.holds Try.pinned (OpenSpec.ofChange lightPixelsSpec)

/-- ITS FALSE NEIGHBOUR: 'it returns false'. Refute it at one input. -/
def lightPixelsWrong : ChangeSpec := { name := "lightPixels", fn := fun _ => fun
  | [d1, d2, d3] => { results := [.lit (.bool false)], args := [d1, d2, d3] }
  | _ => none }
def LightPixelsWrongFalsely : Prop := lightPixelsRow.holds Try.pinned (OpenSpec.ofChange lightPixelsWrong)

/-- 'lightwelllaw21.LightTells': WHATEVER THE INPUT: true; the input reads as it did. -/
def lightTellsSpec : ChangeSpec := { name := "lightTells", fn := fun _ => fun
  | [d1, d2] => { results := [.lit (.bool true)], args := [d1, d2] }
  | _ => none }
def lightTellsRow : OpenClaim := { program := "ytgoplbfeocimaaa", sum := "381a97b4af2a233653480251a4d3cf3e71bfde831cc49c26739c982826283279", func := "lightwell/lightwelllaw21.LightTells", spec := "lightTells", unfollowed := true, recurses := true, named := ["math/bits.divideError", "math/bits.overflowError"], apart := false }
def LightTellsSaid : Prop := lightTellsRow.holds Try.pinned (OpenSpec.ofChange lightTellsSpec)

/-- ITS FALSE NEIGHBOUR: 'it returns false'. Refute it at one input. -/
def lightTellsWrong : ChangeSpec := { name := "lightTells", fn := fun _ => fun
  | [d1, d2] => { results := [.lit (.bool false)], args := [d1, d2] }
  | _ => none }
def LightTellsWrongFalsely : Prop := lightTellsRow.holds Try.pinned (OpenSpec.ofChange lightTellsWrong)

/-- 'lightwelllaw13.HitNumbers': WHATEVER THE INPUT: true; the input reads as it did. -/
def hitNumbersSpec : ChangeSpec := { name := "hitNumbers", fn := fun _ => fun
  | [] => { results := [.lit (.bool true)], args := [] }
  | _ => none }
def hitNumbersRow : OpenClaim := { program := "ytgoplbfeocimaaa", sum := "381a97b4af2a233653480251a4d3cf3e71bfde831cc49c26739c982826283279", func := "lightwell/lightwelllaw13.HitNumbers", spec := "hitNumbers", unfollowed := true, recurses := true, named := ["math/bits.divideError", "math/bits.overflowError"], apart := false }
def HitNumbersSaid : Prop := hitNumbersRow.holds Try.pinned (OpenSpec.ofChange hitNumbersSpec)

/-- ITS FALSE NEIGHBOUR: 'it returns false'. Refute it at one input. -/
def hitNumbersWrong : ChangeSpec := { name := "hitNumbers", fn := fun _ => fun
  | [] => { results := [.lit (.bool false)], args := [] }
  | _ => none }
def HitNumbersWrongFalsely : Prop := hitNumbersRow.holds Try.pinned (OpenSpec.ofChange hitNumbersWrong)

/-- 'lightwelllaw13.HitMeets': WHATEVER THE INPUT: true; the input reads as it did. -/
def hitMeetsSpec : ChangeSpec := { name := "hitMeets", fn := fun _ => fun
  | [d1, d2, d3, d4, d5, d6] => { results := [.lit (.bool true)], args := [d1, d2, d3, d4, d5, d6] }
  | _ => none }
def hitMeetsRow : OpenClaim := { program := "ytgoplbfeocimaaa", sum := "381a97b4af2a233653480251a4d3cf3e71bfde831cc49c26739c982826283279", func := "lightwell/lightwelllaw13.HitMeets", spec := "hitMeets", unfollowed := true, recurses := true, named := ["math/bits.divideError", "math/bits.overflowError"], apart := false }
def HitMeetsSaid : Prop := hitMeetsRow.holds Try.pinned (OpenSpec.ofChange hitMeetsSpec)

/-- ITS FALSE NEIGHBOUR: 'it returns false'. Refute it at one input. -/
def hitMeetsWrong : ChangeSpec := { name := "hitMeets", fn := fun _ => fun
  | [d1, d2, d3, d4, d5, d6] => { results := [.lit (.bool false)], args := [d1, d2, d3, d4, d5, d6] }
  | _ => none }
def HitMeetsWrongFalsely : Prop := hitMeetsRow.holds Try.pinned (OpenSpec.ofChange hitMeetsWrong)

/-- 'lightwelllaw13.HitTells': WHATEVER THE INPUT: true; the input reads as it did. -/
def hitTellsSpec : ChangeSpec := { name := "hitTells", fn := fun _ => fun
  | [d1, d2, d3, d4] => { results := [.lit (.bool true)], args := [d1, d2, d3, d4] }
  | _ => none }
def hitTellsRow : OpenClaim := { program := "ytgoplbfeocimaaa", sum := "381a97b4af2a233653480251a4d3cf3e71bfde831cc49c26739c982826283279", func := "lightwell/lightwelllaw13.HitTells", spec := "hitTells", unfollowed := true, recurses := true, named := ["math/bits.divideError", "math/bits.overflowError"], apart := false }
def HitTellsSaid : Prop := hitTellsRow.holds Try.pinned (OpenSpec.ofChange hitTellsSpec)

/-- ITS FALSE NEIGHBOUR: 'it returns false'. Refute it at one input. -/
def hitTellsWrong : ChangeSpec := { name := "hitTells", fn := fun _ => fun
  | [d1, d2, d3, d4] => { results := [.lit (.bool false)], args := [d1, d2, d3, d4] }
  | _ => none }
def HitTellsWrongFalsely : Prop := hitTellsRow.holds Try.pinned (OpenSpec.ofChange hitTellsWrong)

/-- 'lightwelllaw13.HitAround': WHATEVER THE INPUT: true; the input reads as it did. -/
def hitAroundSpec : ChangeSpec := { name := "hitAround", fn := fun _ => fun
  | [d1, d2, d3] => { results := [.lit (.bool true)], args := [d1, d2, d3] }
  | _ => none }
def hitAroundRow : OpenClaim := { program := "ytgoplbfeocimaaa", sum := "381a97b4af2a233653480251a4d3cf3e71bfde831cc49c26739c982826283279", func := "lightwell/lightwelllaw13.HitAround", spec := "hitAround", unfollowed := true, recurses := true, named := ["math/bits.divideError", "math/bits.overflowError"], apart := false }
def HitAroundSaid : Prop := hitAroundRow.holds Try.pinned (OpenSpec.ofChange hitAroundSpec)

/-- ITS FALSE NEIGHBOUR: 'it returns false'. Refute it at one input. -/
def hitAroundWrong : ChangeSpec := { name := "hitAround", fn := fun _ => fun
  | [d1, d2, d3] => { results := [.lit (.bool false)], args := [d1, d2, d3] }
  | _ => none }
def HitAroundWrongFalsely : Prop := hitAroundRow.holds Try.pinned (OpenSpec.ofChange hitAroundWrong)

/-- 'lightwelllaw13.HitNearest': WHATEVER THE INPUT: true; the input reads as it did. -/
def hitNearestSpec : ChangeSpec := { name := "hitNearest", fn := fun _ => fun
  | [d1, d2, d3, d4] => { results := [.lit (.bool true)], args := [d1, d2, d3, d4] }
  | _ => none }
def hitNearestRow : OpenClaim := { program := "ytgoplbfeocimaaa", sum := "381a97b4af2a233653480251a4d3cf3e71bfde831cc49c26739c982826283279", func := "lightwell/lightwelllaw13.HitNearest", spec := "hitNearest", unfollowed := true, recurses := true, named := ["math/bits.divideError", "math/bits.overflowError"], apart := false }
def HitNearestSaid : Prop := hitNearestRow.holds Try.pinned (OpenSpec.ofChange hitNearestSpec)

/-- ITS FALSE NEIGHBOUR: 'it returns false'. Refute it at one input. -/
def hitNearestWrong : ChangeSpec := { name := "hitNearest", fn := fun _ => fun
  | [d1, d2, d3, d4] => { results := [.lit (.bool false)], args := [d1, d2, d3, d4] }
  | _ => none }
def HitNearestWrongFalsely : Prop := hitNearestRow.holds Try.pinned (OpenSpec.ofChange hitNearestWrong)

/- THE SECOND FORM. 'bulk': how many values and letters a reading holds, each counted each time it is reached (what is shared counts as often as it is met; a slice's spare places count too). A statement '..UptoSaid' is the law's where the arguments, and the package variables that the reading takes, are together of bulk at most 1048576: NARROWER than '..Said'. Prove '..Said' where nothing that the law and all that it calls make is longer than what came in: it says more and counts as full. Else prove '..UptoSaid'. A law counts once. -/
mutual
def uptoBulk {H : Type} : DataW H → Nat
  | .lit (.string bytes) => bytes.length + 1
  | .lit _ => 1
  | .nil => 1
  | .ptr d => uptoBulk d + 1
  | .slice elems spare => uptoBulkAll elems + uptoBulkAll spare + 1
  | .agg parts => uptoBulkAll parts + 1
  | .iface _ d => uptoBulk d + 1
  | .map entries => uptoBulkEntries entries + 1
  | .held _ => 1
def uptoBulkAll {H : Type} : List (DataW H) → Nat
  | [] => 0
  | d :: r => uptoBulk d + uptoBulkAll r
def uptoBulkEntries {H : Type} : List (Lit × DataW H) → Nat
  | [] => 0
  | x :: r => uptoBulkEntry x + uptoBulkEntries r
def uptoBulkEntry {H : Type} : Lit × DataW H → Nat
  | (.string bytes, d) => bytes.length + uptoBulk d + 1
  | (_, d) => uptoBulk d + 1
 end
def uptoSmall : (H : Type) → List (DataW H) → Bool := fun _ ds => decide (uptoBulkAll ds ≤ 1048576)
def OpenSpec.upto (s : _root_.Go.ChangeSpec) : _root_.Go.OpenSpec := { _root_.Go.OpenSpec.ofChange s with cond := some uptoSmall }

/-- 'lightwelllaw12.MeshNumbers', WHERE WHAT IT READS IS OF BULK AT MOST 1048576: true; the input reads as it did. -/
def meshNumbersUptoRow : OpenClaim := { program := "ytgoplbfeocimaaa", sum := "381a97b4af2a233653480251a4d3cf3e71bfde831cc49c26739c982826283279", func := "lightwell/lightwelllaw12.MeshNumbers", spec := "meshNumbers", unfollowed := true, recurses := true, apart := false, narrowed := true }
def MeshNumbersUptoSaid : Prop := meshNumbersUptoRow.holds Try.pinned (OpenSpec.upto meshNumbersSpec)

/-- 'lightwelllaw12.MeshTells', WHERE WHAT IT READS IS OF BULK AT MOST 1048576: true; the input reads as it did. -/
def meshTellsUptoRow : OpenClaim := { program := "ytgoplbfeocimaaa", sum := "381a97b4af2a233653480251a4d3cf3e71bfde831cc49c26739c982826283279", func := "lightwell/lightwelllaw12.MeshTells", spec := "meshTells", unfollowed := true, recurses := true, apart := false, narrowed := true }
def MeshTellsUptoSaid : Prop := meshTellsUptoRow.holds Try.pinned (OpenSpec.upto meshTellsSpec)

/-- 'lightwelllaw12.MeshBack', WHERE WHAT IT READS IS OF BULK AT MOST 1048576: true; the input reads as it did. -/
def meshBackUptoRow : OpenClaim := { program := "ytgoplbfeocimaaa", sum := "381a97b4af2a233653480251a4d3cf3e71bfde831cc49c26739c982826283279", func := "lightwell/lightwelllaw12.MeshBack", spec := "meshBack", unfollowed := true, recurses := true, apart := false, narrowed := true }
def MeshBackUptoSaid : Prop := meshBackUptoRow.holds Try.pinned (OpenSpec.upto meshBackSpec)

/-- 'lightwelllaw01.FixRounds', WHERE WHAT IT READS IS OF BULK AT MOST 1048576: true; the input reads as it did. -/
def fixRoundsUptoRow : OpenClaim := { program := "ytgoplbfeocimaaa", sum := "381a97b4af2a233653480251a4d3cf3e71bfde831cc49c26739c982826283279", func := "lightwell/lightwelllaw01.FixRounds", spec := "fixRounds", unfollowed := true, recurses := true, named := ["math/bits.divideError", "math/bits.overflowError"], apart := false, narrowed := true }
def FixRoundsUptoSaid : Prop := fixRoundsUptoRow.holds Try.pinned (OpenSpec.upto fixRoundsSpec)

/-- 'lightwelllaw01.FixOrder', WHERE WHAT IT READS IS OF BULK AT MOST 1048576: true; the input reads as it did. -/
def fixOrderUptoRow : OpenClaim := { program := "ytgoplbfeocimaaa", sum := "381a97b4af2a233653480251a4d3cf3e71bfde831cc49c26739c982826283279", func := "lightwell/lightwelllaw01.FixOrder", spec := "fixOrder", unfollowed := true, recurses := true, named := ["math/bits.divideError", "math/bits.overflowError"], apart := false, narrowed := true }
def FixOrderUptoSaid : Prop := fixOrderUptoRow.holds Try.pinned (OpenSpec.upto fixOrderSpec)

/-- 'lightwelllaw01.FixNumbers', WHERE WHAT IT READS IS OF BULK AT MOST 1048576: true; the input reads as it did. -/
def fixNumbersUptoRow : OpenClaim := { program := "ytgoplbfeocimaaa", sum := "381a97b4af2a233653480251a4d3cf3e71bfde831cc49c26739c982826283279", func := "lightwell/lightwelllaw01.FixNumbers", spec := "fixNumbers", unfollowed := true, recurses := true, named := ["math/bits.divideError", "math/bits.overflowError"], apart := false, narrowed := true }
def FixNumbersUptoSaid : Prop := fixNumbersUptoRow.holds Try.pinned (OpenSpec.upto fixNumbersSpec)

/-- 'lightwelllaw01.FixTells', WHERE WHAT IT READS IS OF BULK AT MOST 1048576: true; the input reads as it did. -/
def fixTellsUptoRow : OpenClaim := { program := "ytgoplbfeocimaaa", sum := "381a97b4af2a233653480251a4d3cf3e71bfde831cc49c26739c982826283279", func := "lightwell/lightwelllaw01.FixTells", spec := "fixTells", unfollowed := true, recurses := true, named := ["math/bits.divideError", "math/bits.overflowError"], apart := false, narrowed := true }
def FixTellsUptoSaid : Prop := fixTellsUptoRow.holds Try.pinned (OpenSpec.upto fixTellsSpec)

/-- 'lightwelllaw02.VecNumbers', WHERE WHAT IT READS IS OF BULK AT MOST 1048576: true; the input reads as it did. -/
def vecNumbersUptoRow : OpenClaim := { program := "ytgoplbfeocimaaa", sum := "381a97b4af2a233653480251a4d3cf3e71bfde831cc49c26739c982826283279", func := "lightwell/lightwelllaw02.VecNumbers", spec := "vecNumbers", unfollowed := true, recurses := true, named := ["math/bits.divideError", "math/bits.overflowError"], apart := false, narrowed := true }
def VecNumbersUptoSaid : Prop := vecNumbersUptoRow.holds Try.pinned (OpenSpec.upto vecNumbersSpec)

/-- 'lightwelllaw02.VecTells', WHERE WHAT IT READS IS OF BULK AT MOST 1048576: true; the input reads as it did. -/
def vecTellsUptoRow : OpenClaim := { program := "ytgoplbfeocimaaa", sum := "381a97b4af2a233653480251a4d3cf3e71bfde831cc49c26739c982826283279", func := "lightwell/lightwelllaw02.VecTells", spec := "vecTells", unfollowed := true, recurses := true, named := ["math/bits.divideError", "math/bits.overflowError"], apart := false, narrowed := true }
def VecTellsUptoSaid : Prop := vecTellsUptoRow.holds Try.pinned (OpenSpec.upto vecTellsSpec)

/-- 'lightwelllaw02.VecTurns', WHERE WHAT IT READS IS OF BULK AT MOST 1048576: true; the input reads as it did. -/
def vecTurnsUptoRow : OpenClaim := { program := "ytgoplbfeocimaaa", sum := "381a97b4af2a233653480251a4d3cf3e71bfde831cc49c26739c982826283279", func := "lightwell/lightwelllaw02.VecTurns", spec := "vecTurns", unfollowed := true, recurses := true, named := ["math/bits.divideError", "math/bits.overflowError"], apart := false, narrowed := true }
def VecTurnsUptoSaid : Prop := vecTurnsUptoRow.holds Try.pinned (OpenSpec.upto vecTurnsSpec)

/-- 'lightwelllaw21.LightPixels', WHERE WHAT IT READS IS OF BULK AT MOST 1048576: true; the input reads as it did. -/
def lightPixelsUptoRow : OpenClaim := { program := "ytgoplbfeocimaaa", sum := "381a97b4af2a233653480251a4d3cf3e71bfde831cc49c26739c982826283279", func := "lightwell/lightwelllaw21.LightPixels", spec := "lightPixels", unfollowed := true, recurses := true, named := ["math/bits.divideError", "math/bits.overflowError"], apart := false, narrowed := true }
def LightPixelsUptoSaid : Prop := lightPixelsUptoRow.holds Try.pinned (OpenSpec.upto lightPixelsSpec)

/-- 'lightwelllaw21.LightTells', WHERE WHAT IT READS IS OF BULK AT MOST 1048576: true; the input reads as it did. -/
def lightTellsUptoRow : OpenClaim := { program := "ytgoplbfeocimaaa", sum := "381a97b4af2a233653480251a4d3cf3e71bfde831cc49c26739c982826283279", func := "lightwell/lightwelllaw21.LightTells", spec := "lightTells", unfollowed := true, recurses := true, named := ["math/bits.divideError", "math/bits.overflowError"], apart := false, narrowed := true }
def LightTellsUptoSaid : Prop := lightTellsUptoRow.holds Try.pinned (OpenSpec.upto lightTellsSpec)

/-- 'lightwelllaw13.HitNumbers', WHERE WHAT IT READS IS OF BULK AT MOST 1048576: true; the input reads as it did. -/
def hitNumbersUptoRow : OpenClaim := { program := "ytgoplbfeocimaaa", sum := "381a97b4af2a233653480251a4d3cf3e71bfde831cc49c26739c982826283279", func := "lightwell/lightwelllaw13.HitNumbers", spec := "hitNumbers", unfollowed := true, recurses := true, named := ["math/bits.divideError", "math/bits.overflowError"], apart := false, narrowed := true }
def HitNumbersUptoSaid : Prop := hitNumbersUptoRow.holds Try.pinned (OpenSpec.upto hitNumbersSpec)

/-- 'lightwelllaw13.HitMeets', WHERE WHAT IT READS IS OF BULK AT MOST 1048576: true; the input reads as it did. -/
def hitMeetsUptoRow : OpenClaim := { program := "ytgoplbfeocimaaa", sum := "381a97b4af2a233653480251a4d3cf3e71bfde831cc49c26739c982826283279", func := "lightwell/lightwelllaw13.HitMeets", spec := "hitMeets", unfollowed := true, recurses := true, named := ["math/bits.divideError", "math/bits.overflowError"], apart := false, narrowed := true }
def HitMeetsUptoSaid : Prop := hitMeetsUptoRow.holds Try.pinned (OpenSpec.upto hitMeetsSpec)

/-- 'lightwelllaw13.HitTells', WHERE WHAT IT READS IS OF BULK AT MOST 1048576: true; the input reads as it did. -/
def hitTellsUptoRow : OpenClaim := { program := "ytgoplbfeocimaaa", sum := "381a97b4af2a233653480251a4d3cf3e71bfde831cc49c26739c982826283279", func := "lightwell/lightwelllaw13.HitTells", spec := "hitTells", unfollowed := true, recurses := true, named := ["math/bits.divideError", "math/bits.overflowError"], apart := false, narrowed := true }
def HitTellsUptoSaid : Prop := hitTellsUptoRow.holds Try.pinned (OpenSpec.upto hitTellsSpec)

/-- 'lightwelllaw13.HitAround', WHERE WHAT IT READS IS OF BULK AT MOST 1048576: true; the input reads as it did. -/
def hitAroundUptoRow : OpenClaim := { program := "ytgoplbfeocimaaa", sum := "381a97b4af2a233653480251a4d3cf3e71bfde831cc49c26739c982826283279", func := "lightwell/lightwelllaw13.HitAround", spec := "hitAround", unfollowed := true, recurses := true, named := ["math/bits.divideError", "math/bits.overflowError"], apart := false, narrowed := true }
def HitAroundUptoSaid : Prop := hitAroundUptoRow.holds Try.pinned (OpenSpec.upto hitAroundSpec)

/-- 'lightwelllaw13.HitNearest', WHERE WHAT IT READS IS OF BULK AT MOST 1048576: true; the input reads as it did. -/
def hitNearestUptoRow : OpenClaim := { program := "ytgoplbfeocimaaa", sum := "381a97b4af2a233653480251a4d3cf3e71bfde831cc49c26739c982826283279", func := "lightwell/lightwelllaw13.HitNearest", spec := "hitNearest", unfollowed := true, recurses := true, named := ["math/bits.divideError", "math/bits.overflowError"], apart := false, narrowed := true }
def HitNearestUptoSaid : Prop := hitNearestUptoRow.holds Try.pinned (OpenSpec.upto hitNearestSpec)

end Rows
end Go.Proofs.Ytgoplbfeocimaaa
