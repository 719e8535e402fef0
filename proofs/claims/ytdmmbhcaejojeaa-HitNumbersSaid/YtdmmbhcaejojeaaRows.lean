/-
  No cell of these rows narrows 'for every input' (looked for: loops, veiled, ifaces, maps, wideKeys, modest, calm, conditions, laid).
  DERIVED. THE GIVEN ROWS OF THIS SEAT. 5 by the template 'for every input the law returns true; each argument reads behind the call as it read before'; 0 by the template 'total and deterministic' (their statements: YtdmmbhcaejojeaaTotals.lean).
  GIVEN WITH THE SEED: the statements are not yours to turn. If you find one false, say at which input.
  Laid BY PROGRAM, IN A SANDBOX (cutbox-rows.mjs): the forced cells as the released guide's own fill.sh prints them over the translation 26a915c5514b3bab… (all of the seat's roots in one cut). By AI agents, Wed Nov 11 2026. No macro, syntax, notation, axiom, sorry.
-/
import Derived.Test.YtdmmbhcaejojeaaChecked
import GoSem.Claim
import GoSem.ClaimJoined
import GoSem.ClaimMapViews
import Derived.JoinedTies
import Derived.KernelRfl
namespace Go.Proofs.Ytdmmbhcaejojeaa
/- THE CELL 'sum', in the pinned program and in every row, IS THE sha256 OF THE DUMP (.gsa) THAT YtdmmbhcaejojeaaProg.lean LOADS. Nothing in Lean hashes anything: it is a label: what it is worth is what the hold of that sum in a sandbox is worth. -/
noncomputable def Try.pinned : Pinned := { name := "ytdmmbhcaejojeaa", sum := "26a915c5514b3babb0224efcc604c315cf9a9a4738753671566f9392902e9a55", checked := Try.checked }
namespace Rows
def none {H : Type} : Left H := { results := [], args := [] }

/-- 'lightwelllaw13.HitNumbers': WHATEVER THE INPUT: true; the input reads as it did. -/
def hitNumbersSpec : ChangeSpec := { name := "hitNumbers", fn := fun _ => fun
  | [] => { results := [.lit (.bool true)], args := [] }
  | _ => none }
def hitNumbersRow : OpenClaim := { program := "ytdmmbhcaejojeaa", sum := "26a915c5514b3babb0224efcc604c315cf9a9a4738753671566f9392902e9a55", func := "lightwell/lightwelllaw13.HitNumbers", spec := "hitNumbers", unfollowed := true, recurses := true, named := ["math/bits.divideError", "math/bits.overflowError"], apart := false }
def HitNumbersSaid : Prop := hitNumbersRow.holds Try.pinned (OpenSpec.ofChange hitNumbersSpec)

/-- ITS FALSE NEIGHBOUR: 'it returns false'. Refute it at one input. -/
def hitNumbersWrong : ChangeSpec := { name := "hitNumbers", fn := fun _ => fun
  | [] => { results := [.lit (.bool false)], args := [] }
  | _ => none }
def HitNumbersWrongFalsely : Prop := hitNumbersRow.holds Try.pinned (OpenSpec.ofChange hitNumbersWrong)

/-- 'lightwelllaw13.HitMeets': WHATEVER THE INPUT: true; the input reads as it did. -/
def hitMeetsSpec : ChangeSpec := { name := "hitMeets", fn := fun _ => fun
  | [d1, d2, d3, d4, d5, d6] => { results := [.lit (.bool true)], args := [d1, d2, d3, d4, d5, d6] }
  | _ => none }
def hitMeetsRow : OpenClaim := { program := "ytdmmbhcaejojeaa", sum := "26a915c5514b3babb0224efcc604c315cf9a9a4738753671566f9392902e9a55", func := "lightwell/lightwelllaw13.HitMeets", spec := "hitMeets", unfollowed := true, recurses := true, named := ["math/bits.divideError", "math/bits.overflowError"], apart := false }
def HitMeetsSaid : Prop := hitMeetsRow.holds Try.pinned (OpenSpec.ofChange hitMeetsSpec)

/-- ITS FALSE NEIGHBOUR: 'it returns false'. Refute it at one input. -/
def hitMeetsWrong : ChangeSpec := { name := "hitMeets", fn := fun _ => fun
  | [d1, d2, d3, d4, d5, d6] => { results := [.lit (.bool false)], args := [d1, d2, d3, d4, d5, d6] }
  | _ => none }
def HitMeetsWrongFalsely : Prop := hitMeetsRow.holds Try.pinned (OpenSpec.ofChange hitMeetsWrong)

/-- 'lightwelllaw13.HitTells': WHATEVER THE INPUT: true; the input reads as it did. -/
def hitTellsSpec : ChangeSpec := { name := "hitTells", fn := fun _ => fun
  | [d1, d2, d3, d4] => { results := [.lit (.bool true)], args := [d1, d2, d3, d4] }
  | _ => none }
def hitTellsRow : OpenClaim := { program := "ytdmmbhcaejojeaa", sum := "26a915c5514b3babb0224efcc604c315cf9a9a4738753671566f9392902e9a55", func := "lightwell/lightwelllaw13.HitTells", spec := "hitTells", unfollowed := true, recurses := true, named := ["math/bits.divideError", "math/bits.overflowError"], apart := false }
def HitTellsSaid : Prop := hitTellsRow.holds Try.pinned (OpenSpec.ofChange hitTellsSpec)

/-- ITS FALSE NEIGHBOUR: 'it returns false'. Refute it at one input. -/
def hitTellsWrong : ChangeSpec := { name := "hitTells", fn := fun _ => fun
  | [d1, d2, d3, d4] => { results := [.lit (.bool false)], args := [d1, d2, d3, d4] }
  | _ => none }
def HitTellsWrongFalsely : Prop := hitTellsRow.holds Try.pinned (OpenSpec.ofChange hitTellsWrong)

/-- 'lightwelllaw13.HitAround': WHATEVER THE INPUT: true; the input reads as it did. -/
def hitAroundSpec : ChangeSpec := { name := "hitAround", fn := fun _ => fun
  | [d1, d2, d3] => { results := [.lit (.bool true)], args := [d1, d2, d3] }
  | _ => none }
def hitAroundRow : OpenClaim := { program := "ytdmmbhcaejojeaa", sum := "26a915c5514b3babb0224efcc604c315cf9a9a4738753671566f9392902e9a55", func := "lightwell/lightwelllaw13.HitAround", spec := "hitAround", unfollowed := true, recurses := true, named := ["math/bits.divideError", "math/bits.overflowError"], apart := false }
def HitAroundSaid : Prop := hitAroundRow.holds Try.pinned (OpenSpec.ofChange hitAroundSpec)

/-- ITS FALSE NEIGHBOUR: 'it returns false'. Refute it at one input. -/
def hitAroundWrong : ChangeSpec := { name := "hitAround", fn := fun _ => fun
  | [d1, d2, d3] => { results := [.lit (.bool false)], args := [d1, d2, d3] }
  | _ => none }
def HitAroundWrongFalsely : Prop := hitAroundRow.holds Try.pinned (OpenSpec.ofChange hitAroundWrong)

/-- 'lightwelllaw13.HitNearest': WHATEVER THE INPUT: true; the input reads as it did. -/
def hitNearestSpec : ChangeSpec := { name := "hitNearest", fn := fun _ => fun
  | [d1, d2, d3, d4] => { results := [.lit (.bool true)], args := [d1, d2, d3, d4] }
  | _ => none }
def hitNearestRow : OpenClaim := { program := "ytdmmbhcaejojeaa", sum := "26a915c5514b3babb0224efcc604c315cf9a9a4738753671566f9392902e9a55", func := "lightwell/lightwelllaw13.HitNearest", spec := "hitNearest", unfollowed := true, recurses := true, named := ["math/bits.divideError", "math/bits.overflowError"], apart := false }
def HitNearestSaid : Prop := hitNearestRow.holds Try.pinned (OpenSpec.ofChange hitNearestSpec)

/-- ITS FALSE NEIGHBOUR: 'it returns false'. Refute it at one input. -/
def hitNearestWrong : ChangeSpec := { name := "hitNearest", fn := fun _ => fun
  | [d1, d2, d3, d4] => { results := [.lit (.bool false)], args := [d1, d2, d3, d4] }
  | _ => none }
def HitNearestWrongFalsely : Prop := hitNearestRow.holds Try.pinned (OpenSpec.ofChange hitNearestWrong)

/- THE SECOND FORM. 'bulk': how many values and letters a reading holds, each counted each time it is reached (what is shared counts as often as it is met; a slice's spare places count too). A statement '..UptoSaid' is the law's where the arguments, and the package variables that the reading takes, are together of bulk at most 1048576: NARROWER than '..Said'. Prove '..Said' where nothing that the law and all that it calls make is longer than what came in: it says more and counts as full. Else prove '..UptoSaid'. A law counts once. -/
mutual
def uptoBulk {H : Type} : DataW H → Nat
  | .lit (.string bytes) => bytes.length + 1
  | .lit _ => 1
  | .nil => 1
  | .ptr d => uptoBulk d + 1
  | .slice elems spare => uptoBulkAll elems + uptoBulkAll spare + 1
  | .agg parts => uptoBulkAll parts + 1
  | .iface _ d => uptoBulk d + 1
  | .map entries => uptoBulkEntries entries + 1
  | .held _ => 1
def uptoBulkAll {H : Type} : List (DataW H) → Nat
  | [] => 0
  | d :: r => uptoBulk d + uptoBulkAll r
def uptoBulkEntries {H : Type} : List (Lit × DataW H) → Nat
  | [] => 0
  | x :: r => uptoBulkEntry x + uptoBulkEntries r
def uptoBulkEntry {H : Type} : Lit × DataW H → Nat
  | (.string bytes, d) => bytes.length + uptoBulk d + 1
  | (_, d) => uptoBulk d + 1
 end
def uptoSmall : (H : Type) → List (DataW H) → Bool := fun _ ds => decide (uptoBulkAll ds ≤ 1048576)
def OpenSpec.upto (s : _root_.Go.ChangeSpec) : _root_.Go.OpenSpec := { _root_.Go.OpenSpec.ofChange s with cond := some uptoSmall }

/-- 'lightwelllaw13.HitNumbers', WHERE WHAT IT READS IS OF BULK AT MOST 1048576: true; the input reads as it did. -/
def hitNumbersUptoRow : OpenClaim := { program := "ytdmmbhcaejojeaa", sum := "26a915c5514b3babb0224efcc604c315cf9a9a4738753671566f9392902e9a55", func := "lightwell/lightwelllaw13.HitNumbers", spec := "hitNumbers", unfollowed := true, recurses := true, named := ["math/bits.divideError", "math/bits.overflowError"], apart := false, narrowed := true }
def HitNumbersUptoSaid : Prop := hitNumbersUptoRow.holds Try.pinned (OpenSpec.upto hitNumbersSpec)

/-- 'lightwelllaw13.HitMeets', WHERE WHAT IT READS IS OF BULK AT MOST 1048576: true; the input reads as it did. -/
def hitMeetsUptoRow : OpenClaim := { program := "ytdmmbhcaejojeaa", sum := "26a915c5514b3babb0224efcc604c315cf9a9a4738753671566f9392902e9a55", func := "lightwell/lightwelllaw13.HitMeets", spec := "hitMeets", unfollowed := true, recurses := true, named := ["math/bits.divideError", "math/bits.overflowError"], apart := false, narrowed := true }
def HitMeetsUptoSaid : Prop := hitMeetsUptoRow.holds Try.pinned (OpenSpec.upto hitMeetsSpec)

/-- 'lightwelllaw13.HitTells', WHERE WHAT IT READS IS OF BULK AT MOST 1048576: true; the input reads as it did. -/
def hitTellsUptoRow : OpenClaim := { program := "ytdmmbhcaejojeaa", sum := "26a915c5514b3babb0224efcc604c315cf9a9a4738753671566f9392902e9a55", func := "lightwell/lightwelllaw13.HitTells", spec := "hitTells", unfollowed := true, recurses := true, named := ["math/bits.divideError", "math/bits.overflowError"], apart := false, narrowed := true }
def HitTellsUptoSaid : Prop := hitTellsUptoRow.holds Try.pinned (OpenSpec.upto hitTellsSpec)

/-- 'lightwelllaw13.HitAround', WHERE WHAT IT READS IS OF BULK AT MOST 1048576: true; the input reads as it did. -/
def hitAroundUptoRow : OpenClaim := { program := "ytdmmbhcaejojeaa", sum := "26a915c5514b3babb0224efcc604c315cf9a9a4738753671566f9392902e9a55", func := "lightwell/lightwelllaw13.HitAround", spec := "hitAround", unfollowed := true, recurses := true, named := ["math/bits.divideError", "math/bits.overflowError"], apart := false, narrowed := true }
def HitAroundUptoSaid : Prop := hitAroundUptoRow.holds Try.pinned (OpenSpec.upto hitAroundSpec)

/-- 'lightwelllaw13.HitNearest', WHERE WHAT IT READS IS OF BULK AT MOST 1048576: true; the input reads as it did. -/
def hitNearestUptoRow : OpenClaim := { program := "ytdmmbhcaejojeaa", sum := "26a915c5514b3babb0224efcc604c315cf9a9a4738753671566f9392902e9a55", func := "lightwell/lightwelllaw13.HitNearest", spec := "hitNearest", unfollowed := true, recurses := true, named := ["math/bits.divideError", "math/bits.overflowError"], apart := false, narrowed := true }
def HitNearestUptoSaid : Prop := hitNearestUptoRow.holds Try.pinned (OpenSpec.upto hitNearestSpec)

end Rows
end Go.Proofs.Ytdmmbhcaejojeaa
