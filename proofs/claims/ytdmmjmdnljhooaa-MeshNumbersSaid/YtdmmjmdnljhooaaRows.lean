/-
  No cell of these rows narrows 'for every input' (looked for: loops, veiled, ifaces, maps, wideKeys, modest, calm, conditions, laid).
  DERIVED. THE GIVEN ROWS OF THIS SEAT. 3 by the template 'for every input the law returns true; each argument reads behind the call as it read before'; 0 by the template 'total and deterministic' (their statements: YtdmmjmdnljhooaaTotals.lean).
  GIVEN WITH THE SEED: the statements are not yours to turn. If you find one false, say at which input.
  Laid BY PROGRAM, IN A SANDBOX (cutbox-rows.mjs): the forced cells as the released guide's own fill.sh prints them over the translation 5bccc1b388597847… (all of the seat's roots in one cut). By AI agents, Wed Nov 11 2026. No macro, syntax, notation, axiom, sorry.
-/
import Derived.Test.YtdmmjmdnljhooaaChecked
import GoSem.Claim
import GoSem.ClaimJoined
import GoSem.ClaimMapViews
import Derived.JoinedTies
import Derived.KernelRfl
namespace Go.Proofs.Ytdmmjmdnljhooaa
/- THE CELL 'sum', in the pinned program and in every row, IS THE sha256 OF THE DUMP (.gsa) THAT YtdmmjmdnljhooaaProg.lean LOADS. Nothing in Lean hashes anything: it is a label: what it is worth is what the hold of that sum in a sandbox is worth. -/
noncomputable def Try.pinned : Pinned := { name := "ytdmmjmdnljhooaa", sum := "5bccc1b3885978472ac3c6f04950e210a82bda68f80e2ff41c113e1e65a89b8d", checked := Try.checked }
namespace Rows
def none {H : Type} : Left H := { results := [], args := [] }

/-- 'lightwelllaw12.MeshNumbers': WHATEVER THE INPUT: true; the input reads as it did. -/
def meshNumbersSpec : ChangeSpec := { name := "meshNumbers", fn := fun _ => fun
  | [] => { results := [.lit (.bool true)], args := [] }
  | _ => none }
def meshNumbersRow : OpenClaim := { program := "ytdmmjmdnljhooaa", sum := "5bccc1b3885978472ac3c6f04950e210a82bda68f80e2ff41c113e1e65a89b8d", func := "lightwell/lightwelllaw12.MeshNumbers", spec := "meshNumbers", unfollowed := true, recurses := true, apart := false }
def MeshNumbersSaid : Prop := meshNumbersRow.holds Try.pinned (OpenSpec.ofChange meshNumbersSpec)

/-- ITS FALSE NEIGHBOUR: 'it returns false'. Refute it at one input. -/
def meshNumbersWrong : ChangeSpec := { name := "meshNumbers", fn := fun _ => fun
  | [] => { results := [.lit (.bool false)], args := [] }
  | _ => none }
def MeshNumbersWrongFalsely : Prop := meshNumbersRow.holds Try.pinned (OpenSpec.ofChange meshNumbersWrong)

/-- 'lightwelllaw12.MeshTells': WHATEVER THE INPUT: true; the input reads as it did. -/
def meshTellsSpec : ChangeSpec := { name := "meshTells", fn := fun _ => fun
  | [d1, d2, d3] => { results := [.lit (.bool true)], args := [d1, d2, d3] }
  | _ => none }
def meshTellsRow : OpenClaim := { program := "ytdmmjmdnljhooaa", sum := "5bccc1b3885978472ac3c6f04950e210a82bda68f80e2ff41c113e1e65a89b8d", func := "lightwell/lightwelllaw12.MeshTells", spec := "meshTells", unfollowed := true, recurses := true, apart := false }
def MeshTellsSaid : Prop := meshTellsRow.holds Try.pinned (OpenSpec.ofChange meshTellsSpec)

/-- ITS FALSE NEIGHBOUR: 'it returns false'. Refute it at one input. -/
def meshTellsWrong : ChangeSpec := { name := "meshTells", fn := fun _ => fun
  | [d1, d2, d3] => { results := [.lit (.bool false)], args := [d1, d2, d3] }
  | _ => none }
def MeshTellsWrongFalsely : Prop := meshTellsRow.holds Try.pinned (OpenSpec.ofChange meshTellsWrong)

/-- 'lightwelllaw12.MeshBack': WHATEVER THE INPUT: true; the input reads as it did. -/
def meshBackSpec : ChangeSpec := { name := "meshBack", fn := fun _ => fun
  | [d1, d2] => { results := [.lit (.bool true)], args := [d1, d2] }
  | _ => none }
def meshBackRow : OpenClaim := { program := "ytdmmjmdnljhooaa", sum := "5bccc1b3885978472ac3c6f04950e210a82bda68f80e2ff41c113e1e65a89b8d", func := "lightwell/lightwelllaw12.MeshBack", spec := "meshBack", unfollowed := true, recurses := true, apart := false }
def MeshBackSaid : Prop := meshBackRow.holds Try.pinned (OpenSpec.ofChange meshBackSpec)

/-- ITS FALSE NEIGHBOUR: 'it returns false'. Refute it at one input. -/
def meshBackWrong : ChangeSpec := { name := "meshBack", fn := fun _ => fun
  | [d1, d2] => { results := [.lit (.bool false)], args := [d1, d2] }
  | _ => none }
def MeshBackWrongFalsely : Prop := meshBackRow.holds Try.pinned (OpenSpec.ofChange meshBackWrong)

/- THE SECOND FORM. 'bulk': how many values and letters a reading holds, each counted each time it is reached (what is shared counts as often as it is met; a slice's spare places count too). A statement '..UptoSaid' is the law's where the arguments, and the package variables that the reading takes, are together of bulk at most 1048576: NARROWER than '..Said'. Prove '..Said' where nothing that the law and all that it calls make is longer than what came in: it says more and counts as full. Else prove '..UptoSaid'. A law counts once. -/
mutual
def uptoBulk {H : Type} : DataW H → Nat
  | .lit (.string bytes) => bytes.length + 1
  | .lit _ => 1
  | .nil => 1
  | .ptr d => uptoBulk d + 1
  | .slice elems spare => uptoBulkAll elems + uptoBulkAll spare + 1
  | .agg parts => uptoBulkAll parts + 1
  | .iface _ d => uptoBulk d + 1
  | .map entries => uptoBulkEntries entries + 1
  | .held _ => 1
def uptoBulkAll {H : Type} : List (DataW H) → Nat
  | [] => 0
  | d :: r => uptoBulk d + uptoBulkAll r
def uptoBulkEntries {H : Type} : List (Lit × DataW H) → Nat
  | [] => 0
  | x :: r => uptoBulkEntry x + uptoBulkEntries r
def uptoBulkEntry {H : Type} : Lit × DataW H → Nat
  | (.string bytes, d) => bytes.length + uptoBulk d + 1
  | (_, d) => uptoBulk d + 1
 end
def uptoSmall : (H : Type) → List (DataW H) → Bool := fun _ ds => decide (uptoBulkAll ds ≤ 1048576)
def OpenSpec.upto (s : _root_.Go.ChangeSpec) : _root_.Go.OpenSpec := { _root_.Go.OpenSpec.ofChange s with cond := some uptoSmall }

/-- 'lightwelllaw12.MeshNumbers', WHERE WHAT IT READS IS OF BULK AT MOST 1048576: true; the input reads as it did. -/
def meshNumbersUptoRow : OpenClaim := { program := "ytdmmjmdnljhooaa", sum := "5bccc1b3885978472ac3c6f04950e210a82bda68f80e2ff41c113e1e65a89b8d", func := "lightwell/lightwelllaw12.MeshNumbers", spec := "meshNumbers", unfollowed := true, recurses := true, apart := false, narrowed := true }
def MeshNumbersUptoSaid : Prop := meshNumbersUptoRow.holds Try.pinned (OpenSpec.upto meshNumbersSpec)

/-- 'lightwelllaw12.MeshTells', WHERE WHAT IT READS IS OF BULK AT MOST 1048576: true; the input reads as it did. -/
def meshTellsUptoRow : OpenClaim := { program := "ytdmmjmdnljhooaa", sum := "5bccc1b3885978472ac3c6f04950e210a82bda68f80e2ff41c113e1e65a89b8d", func := "lightwell/lightwelllaw12.MeshTells", spec := "meshTells", unfollowed := true, recurses := true, apart := false, narrowed := true }
def MeshTellsUptoSaid : Prop := meshTellsUptoRow.holds Try.pinned (OpenSpec.upto meshTellsSpec)

/-- 'lightwelllaw12.MeshBack', WHERE WHAT IT READS IS OF BULK AT MOST 1048576: true; the input reads as it did. -/
def meshBackUptoRow : OpenClaim := { program := "ytdmmjmdnljhooaa", sum := "5bccc1b3885978472ac3c6f04950e210a82bda68f80e2ff41c113e1e65a89b8d", func := "lightwell/lightwelllaw12.MeshBack", spec := "meshBack", unfollowed := true, recurses := true, apart := false, narrowed := true }
def MeshBackUptoSaid : Prop := meshBackUptoRow.holds Try.pinned (OpenSpec.upto meshBackSpec)

end Rows
end Go.Proofs.Ytdmmjmdnljhooaa
