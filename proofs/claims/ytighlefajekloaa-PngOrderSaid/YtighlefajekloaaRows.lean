/-
  No cell of these rows narrows 'for every input' (looked for: loops, veiled, ifaces, maps, wideKeys, modest, calm, conditions, laid).
  DERIVED. THE GIVEN ROWS OF THIS SEAT. 5 by the template 'for every input the law returns true; each argument reads behind the call as it read before'; 0 by the template 'total and deterministic' (their statements: YtighlefajekloaaTotals.lean).
  GIVEN WITH THE SEED: the statements are not yours to turn. If you find one false, say at which input.
  Laid BY PROGRAM, IN A SANDBOX (cutbox-rows.mjs): the forced cells as the released guide's own fill.sh prints them over the translation 72687e44d8c9ec58… (all of the seat's roots in one cut). By AI agents, Wed Nov 11 2026. No macro, syntax, notation, axiom, sorry.
-/
import Derived.Test.YtighlefajekloaaChecked
import GoSem.Claim
import GoSem.ClaimJoined
import GoSem.ClaimMapViews
import Derived.JoinedTies
import Derived.KernelRfl
namespace Go.Proofs.Ytighlefajekloaa
/- THE CELL 'sum', in the pinned program and in every row, IS THE sha256 OF THE DUMP (.gsa) THAT YtighlefajekloaaProg.lean LOADS. Nothing in Lean hashes anything: it is a label: what it is worth is what the hold of that sum in a sandbox is worth. -/
noncomputable def Try.pinned : Pinned := { name := "ytighlefajekloaa", sum := "72687e44d8c9ec58de944fbd7a0bca3779e7bbd77deb2d8969d37f7233965c92", checked := Try.checked }
namespace Rows
def none {H : Type} : Left H := { results := [], args := [] }

/-- 'lightwelllaw09.PngOrder': WHATEVER THE INPUT: true; the input reads as it did. -/
def pngOrderSpec : ChangeSpec := { name := "pngOrder", fn := fun _ => fun
  | [d1, d2] => { results := [.lit (.bool true)], args := [d1, d2] }
  | _ => none }
def pngOrderRow : OpenClaim := { program := "ytighlefajekloaa", sum := "72687e44d8c9ec58de944fbd7a0bca3779e7bbd77deb2d8969d37f7233965c92", func := "lightwell/lightwelllaw09.PngOrder", spec := "pngOrder", unfollowed := true, recurses := true, plainKeys := false, apart := false }
def PngOrderSaid : Prop := pngOrderRow.holds Try.pinned (OpenSpec.ofChange pngOrderSpec)

/-- ITS FALSE NEIGHBOUR: 'it returns false'. Refute it at one input. -/
def pngOrderWrong : ChangeSpec := { name := "pngOrder", fn := fun _ => fun
  | [d1, d2] => { results := [.lit (.bool false)], args := [d1, d2] }
  | _ => none }
def PngOrderWrongFalsely : Prop := pngOrderRow.holds Try.pinned (OpenSpec.ofChange pngOrderWrong)

/-- 'lightwelllaw09.PngChunks': WHATEVER THE INPUT: true; the input reads as it did. -/
def pngChunksSpec : ChangeSpec := { name := "pngChunks", fn := fun _ => fun
  | [d1, d2, d3] => { results := [.lit (.bool true)], args := [d1, d2, d3] }
  | _ => none }
def pngChunksRow : OpenClaim := { program := "ytighlefajekloaa", sum := "72687e44d8c9ec58de944fbd7a0bca3779e7bbd77deb2d8969d37f7233965c92", func := "lightwell/lightwelllaw09.PngChunks", spec := "pngChunks", unfollowed := true, recurses := true, plainKeys := false, apart := false }
def PngChunksSaid : Prop := pngChunksRow.holds Try.pinned (OpenSpec.ofChange pngChunksSpec)

/-- ITS FALSE NEIGHBOUR: 'it returns false'. Refute it at one input. -/
def pngChunksWrong : ChangeSpec := { name := "pngChunks", fn := fun _ => fun
  | [d1, d2, d3] => { results := [.lit (.bool false)], args := [d1, d2, d3] }
  | _ => none }
def PngChunksWrongFalsely : Prop := pngChunksRow.holds Try.pinned (OpenSpec.ofChange pngChunksWrong)

/-- 'lightwelllaw09.PngNumbers': WHATEVER THE INPUT: true; the input reads as it did. -/
def pngNumbersSpec : ChangeSpec := { name := "pngNumbers", fn := fun _ => fun
  | [] => { results := [.lit (.bool true)], args := [] }
  | _ => none }
def pngNumbersRow : OpenClaim := { program := "ytighlefajekloaa", sum := "72687e44d8c9ec58de944fbd7a0bca3779e7bbd77deb2d8969d37f7233965c92", func := "lightwell/lightwelllaw09.PngNumbers", spec := "pngNumbers", unfollowed := true, recurses := true, plainKeys := false, apart := false }
def PngNumbersSaid : Prop := pngNumbersRow.holds Try.pinned (OpenSpec.ofChange pngNumbersSpec)

/-- ITS FALSE NEIGHBOUR: 'it returns false'. Refute it at one input. -/
def pngNumbersWrong : ChangeSpec := { name := "pngNumbers", fn := fun _ => fun
  | [] => { results := [.lit (.bool false)], args := [] }
  | _ => none }
def PngNumbersWrongFalsely : Prop := pngNumbersRow.holds Try.pinned (OpenSpec.ofChange pngNumbersWrong)

/-- 'lightwelllaw09.PngTells': WHATEVER THE INPUT: true; the input reads as it did. -/
def pngTellsSpec : ChangeSpec := { name := "pngTells", fn := fun _ => fun
  | [d1, d2, d3] => { results := [.lit (.bool true)], args := [d1, d2, d3] }
  | _ => none }
def pngTellsRow : OpenClaim := { program := "ytighlefajekloaa", sum := "72687e44d8c9ec58de944fbd7a0bca3779e7bbd77deb2d8969d37f7233965c92", func := "lightwell/lightwelllaw09.PngTells", spec := "pngTells", unfollowed := true, recurses := true, plainKeys := false, apart := false }
def PngTellsSaid : Prop := pngTellsRow.holds Try.pinned (OpenSpec.ofChange pngTellsSpec)

/-- ITS FALSE NEIGHBOUR: 'it returns false'. Refute it at one input. -/
def pngTellsWrong : ChangeSpec := { name := "pngTells", fn := fun _ => fun
  | [d1, d2, d3] => { results := [.lit (.bool false)], args := [d1, d2, d3] }
  | _ => none }
def PngTellsWrongFalsely : Prop := pngTellsRow.holds Try.pinned (OpenSpec.ofChange pngTellsWrong)

/-- 'lightwelllaw09.PngNone': WHATEVER THE INPUT: true; the input reads as it did. -/
def pngNoneSpec : ChangeSpec := { name := "pngNone", fn := fun _ => fun
  | [d] => { results := [.lit (.bool true)], args := [d] }
  | _ => none }
def pngNoneRow : OpenClaim := { program := "ytighlefajekloaa", sum := "72687e44d8c9ec58de944fbd7a0bca3779e7bbd77deb2d8969d37f7233965c92", func := "lightwell/lightwelllaw09.PngNone", spec := "pngNone", unfollowed := true, recurses := true, plainKeys := false, apart := false }
def PngNoneSaid : Prop := pngNoneRow.holds Try.pinned (OpenSpec.ofChange pngNoneSpec)

/-- ITS FALSE NEIGHBOUR: 'it returns false'. Refute it at one input. -/
def pngNoneWrong : ChangeSpec := { name := "pngNone", fn := fun _ => fun
  | [d] => { results := [.lit (.bool false)], args := [d] }
  | _ => none }
def PngNoneWrongFalsely : Prop := pngNoneRow.holds Try.pinned (OpenSpec.ofChange pngNoneWrong)

/- THE SECOND FORM. 'bulk': how many values and letters a reading holds, each counted each time it is reached (what is shared counts as often as it is met; a slice's spare places count too). A statement '..UptoSaid' is the law's where the arguments, and the package variables that the reading takes, are together of bulk at most 1048576: NARROWER than '..Said'. Prove '..Said' where nothing that the law and all that it calls make is longer than what came in: it says more and counts as full. Else prove '..UptoSaid'. A law counts once. -/
mutual
def uptoBulk {H : Type} : DataW H → Nat
  | .lit (.string bytes) => bytes.length + 1
  | .lit _ => 1
  | .nil => 1
  | .ptr d => uptoBulk d + 1
  | .slice elems spare => uptoBulkAll elems + uptoBulkAll spare + 1
  | .agg parts => uptoBulkAll parts + 1
  | .iface _ d => uptoBulk d + 1
  | .map entries => uptoBulkEntries entries + 1
  | .held _ => 1
def uptoBulkAll {H : Type} : List (DataW H) → Nat
  | [] => 0
  | d :: r => uptoBulk d + uptoBulkAll r
def uptoBulkEntries {H : Type} : List (Lit × DataW H) → Nat
  | [] => 0
  | x :: r => uptoBulkEntry x + uptoBulkEntries r
def uptoBulkEntry {H : Type} : Lit × DataW H → Nat
  | (.string bytes, d) => bytes.length + uptoBulk d + 1
  | (_, d) => uptoBulk d + 1
 end
def uptoSmall : (H : Type) → List (DataW H) → Bool := fun _ ds => decide (uptoBulkAll ds ≤ 1048576)
def OpenSpec.upto (s : _root_.Go.ChangeSpec) : _root_.Go.OpenSpec := { _root_.Go.OpenSpec.ofChange s with cond := some uptoSmall }

/-- 'lightwelllaw09.PngOrder', WHERE WHAT IT READS IS OF BULK AT MOST 1048576: true; the input reads as it did. -/
def pngOrderUptoRow : OpenClaim := { program := "ytighlefajekloaa", sum := "72687e44d8c9ec58de944fbd7a0bca3779e7bbd77deb2d8969d37f7233965c92", func := "lightwell/lightwelllaw09.PngOrder", spec := "pngOrder", unfollowed := true, recurses := true, plainKeys := false, apart := false, narrowed := true }
def PngOrderUptoSaid : Prop := pngOrderUptoRow.holds Try.pinned (OpenSpec.upto pngOrderSpec)

/-- 'lightwelllaw09.PngChunks', WHERE WHAT IT READS IS OF BULK AT MOST 1048576: true; the input reads as it did. -/
def pngChunksUptoRow : OpenClaim := { program := "ytighlefajekloaa", sum := "72687e44d8c9ec58de944fbd7a0bca3779e7bbd77deb2d8969d37f7233965c92", func := "lightwell/lightwelllaw09.PngChunks", spec := "pngChunks", unfollowed := true, recurses := true, plainKeys := false, apart := false, narrowed := true }
def PngChunksUptoSaid : Prop := pngChunksUptoRow.holds Try.pinned (OpenSpec.upto pngChunksSpec)

/-- 'lightwelllaw09.PngNumbers', WHERE WHAT IT READS IS OF BULK AT MOST 1048576: true; the input reads as it did. -/
def pngNumbersUptoRow : OpenClaim := { program := "ytighlefajekloaa", sum := "72687e44d8c9ec58de944fbd7a0bca3779e7bbd77deb2d8969d37f7233965c92", func := "lightwell/lightwelllaw09.PngNumbers", spec := "pngNumbers", unfollowed := true, recurses := true, plainKeys := false, apart := false, narrowed := true }
def PngNumbersUptoSaid : Prop := pngNumbersUptoRow.holds Try.pinned (OpenSpec.upto pngNumbersSpec)

/-- 'lightwelllaw09.PngTells', WHERE WHAT IT READS IS OF BULK AT MOST 1048576: true; the input reads as it did. -/
def pngTellsUptoRow : OpenClaim := { program := "ytighlefajekloaa", sum := "72687e44d8c9ec58de944fbd7a0bca3779e7bbd77deb2d8969d37f7233965c92", func := "lightwell/lightwelllaw09.PngTells", spec := "pngTells", unfollowed := true, recurses := true, plainKeys := false, apart := false, narrowed := true }
def PngTellsUptoSaid : Prop := pngTellsUptoRow.holds Try.pinned (OpenSpec.upto pngTellsSpec)

/-- 'lightwelllaw09.PngNone', WHERE WHAT IT READS IS OF BULK AT MOST 1048576: true; the input reads as it did. -/
def pngNoneUptoRow : OpenClaim := { program := "ytighlefajekloaa", sum := "72687e44d8c9ec58de944fbd7a0bca3779e7bbd77deb2d8969d37f7233965c92", func := "lightwell/lightwelllaw09.PngNone", spec := "pngNone", unfollowed := true, recurses := true, plainKeys := false, apart := false, narrowed := true }
def PngNoneUptoSaid : Prop := pngNoneUptoRow.holds Try.pinned (OpenSpec.upto pngNoneSpec)

end Rows
end Go.Proofs.Ytighlefajekloaa
