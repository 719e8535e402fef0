/-
  No cell of these rows narrows 'for every input' (looked for: loops, veiled, ifaces, maps, wideKeys, modest, calm, conditions, laid).
  DERIVED. THE GIVEN ROWS OF THIS SEAT. 4 by the template 'for every input the law returns true; each argument reads behind the call as it read before'; 0 by the template 'total and deterministic' (their statements: YtcchekkedgajpaaTotals.lean).
  GIVEN WITH THE SEED: the statements are not yours to turn. If you find one false, say at which input.
  Laid BY PROGRAM, IN A SANDBOX (cutbox-rows.mjs): the forced cells as the released guide's own fill.sh prints them over the translation 63795cc3fb42e644… (all of the seat's roots in one cut). By AI agents, Wed Nov 11 2026. No macro, syntax, notation, axiom, sorry.
-/
import Derived.Test.YtcchekkedgajpaaChecked
import GoSem.Claim
import GoSem.ClaimJoined
import GoSem.ClaimMapViews
import Derived.JoinedTies
import Derived.KernelRfl
namespace Go.Proofs.Ytcchekkedgajpaa
/- THE CELL 'sum', in the pinned program and in every row, IS THE sha256 OF THE DUMP (.gsa) THAT YtcchekkedgajpaaProg.lean LOADS. Nothing in Lean hashes anything: it is a label: what it is worth is what the hold of that sum in a sandbox is worth. -/
noncomputable def Try.pinned : Pinned := { name := "ytcchekkedgajpaa", sum := "63795cc3fb42e644a21d398a9e4e882c875805a8f7b8ca8ee8d2237581332fc1", checked := Try.checked }
namespace Rows
def none {H : Type} : Left H := { results := [], args := [] }

/-- 'lightwelllaw06.DeflateTells': WHATEVER THE INPUT: true; the input reads as it did. -/
def deflateTellsSpec : ChangeSpec := { name := "deflateTells", fn := fun _ => fun
  | [d] => { results := [.lit (.bool true)], args := [d] }
  | _ => none }
def deflateTellsRow : OpenClaim := { program := "ytcchekkedgajpaa", sum := "63795cc3fb42e644a21d398a9e4e882c875805a8f7b8ca8ee8d2237581332fc1", func := "lightwell/lightwelllaw06.DeflateTells", spec := "deflateTells", unfollowed := true, recurses := true, plainKeys := false, apart := false }
def DeflateTellsSaid : Prop := deflateTellsRow.holds Try.pinned (OpenSpec.ofChange deflateTellsSpec)

/-- ITS FALSE NEIGHBOUR: 'it returns false'. Refute it at one input. -/
def deflateTellsWrong : ChangeSpec := { name := "deflateTells", fn := fun _ => fun
  | [d] => { results := [.lit (.bool false)], args := [d] }
  | _ => none }
def DeflateTellsWrongFalsely : Prop := deflateTellsRow.holds Try.pinned (OpenSpec.ofChange deflateTellsWrong)

/-- 'lightwelllaw06.DeflateNone': WHATEVER THE INPUT: true; the input reads as it did. -/
def deflateNoneSpec : ChangeSpec := { name := "deflateNone", fn := fun _ => fun
  | [d] => { results := [.lit (.bool true)], args := [d] }
  | _ => none }
def deflateNoneRow : OpenClaim := { program := "ytcchekkedgajpaa", sum := "63795cc3fb42e644a21d398a9e4e882c875805a8f7b8ca8ee8d2237581332fc1", func := "lightwell/lightwelllaw06.DeflateNone", spec := "deflateNone", unfollowed := true, recurses := true, plainKeys := false, apart := false }
def DeflateNoneSaid : Prop := deflateNoneRow.holds Try.pinned (OpenSpec.ofChange deflateNoneSpec)

/-- ITS FALSE NEIGHBOUR: 'it returns false'. Refute it at one input. -/
def deflateNoneWrong : ChangeSpec := { name := "deflateNone", fn := fun _ => fun
  | [d] => { results := [.lit (.bool false)], args := [d] }
  | _ => none }
def DeflateNoneWrongFalsely : Prop := deflateNoneRow.holds Try.pinned (OpenSpec.ofChange deflateNoneWrong)

/-- 'lightwelllaw06.DeflatePieces': WHATEVER THE INPUT: true; the input reads as it did. -/
def deflatePiecesSpec : ChangeSpec := { name := "deflatePieces", fn := fun _ => fun
  | [d1, d2] => { results := [.lit (.bool true)], args := [d1, d2] }
  | _ => none }
def deflatePiecesRow : OpenClaim := { program := "ytcchekkedgajpaa", sum := "63795cc3fb42e644a21d398a9e4e882c875805a8f7b8ca8ee8d2237581332fc1", func := "lightwell/lightwelllaw06.DeflatePieces", spec := "deflatePieces", unfollowed := true, recurses := true, plainKeys := false, apart := false }
def DeflatePiecesSaid : Prop := deflatePiecesRow.holds Try.pinned (OpenSpec.ofChange deflatePiecesSpec)

/-- ITS FALSE NEIGHBOUR: 'it returns false'. Refute it at one input. -/
def deflatePiecesWrong : ChangeSpec := { name := "deflatePieces", fn := fun _ => fun
  | [d1, d2] => { results := [.lit (.bool false)], args := [d1, d2] }
  | _ => none }
def DeflatePiecesWrongFalsely : Prop := deflatePiecesRow.holds Try.pinned (OpenSpec.ofChange deflatePiecesWrong)

/-- 'lightwelllaw06.DeflateNumbers': WHATEVER THE INPUT: true; the input reads as it did. -/
def deflateNumbersSpec : ChangeSpec := { name := "deflateNumbers", fn := fun _ => fun
  | [] => { results := [.lit (.bool true)], args := [] }
  | _ => none }
def deflateNumbersRow : OpenClaim := { program := "ytcchekkedgajpaa", sum := "63795cc3fb42e644a21d398a9e4e882c875805a8f7b8ca8ee8d2237581332fc1", func := "lightwell/lightwelllaw06.DeflateNumbers", spec := "deflateNumbers", inPlace := ["internal/abi.NoEscape", "internal/bytealg.MakeNoZero"], unfollowed := true, recurses := true, plainKeys := false, apart := false }
def DeflateNumbersSaid : Prop := deflateNumbersRow.holds Try.pinned (OpenSpec.ofChange deflateNumbersSpec)

/-- ITS FALSE NEIGHBOUR: 'it returns false'. Refute it at one input. -/
def deflateNumbersWrong : ChangeSpec := { name := "deflateNumbers", fn := fun _ => fun
  | [] => { results := [.lit (.bool false)], args := [] }
  | _ => none }
def DeflateNumbersWrongFalsely : Prop := deflateNumbersRow.holds Try.pinned (OpenSpec.ofChange deflateNumbersWrong)

/- THE SECOND FORM. 'bulk': how many values and letters a reading holds, each counted each time it is reached (what is shared counts as often as it is met; a slice's spare places count too). A statement '..UptoSaid' is the law's where the arguments, and the package variables that the reading takes, are together of bulk at most 1048576: NARROWER than '..Said'. Prove '..Said' where nothing that the law and all that it calls make is longer than what came in: it says more and counts as full. Else prove '..UptoSaid'. A law counts once. -/
mutual
def uptoBulk {H : Type} : DataW H → Nat
  | .lit (.string bytes) => bytes.length + 1
  | .lit _ => 1
  | .nil => 1
  | .ptr d => uptoBulk d + 1
  | .slice elems spare => uptoBulkAll elems + uptoBulkAll spare + 1
  | .agg parts => uptoBulkAll parts + 1
  | .iface _ d => uptoBulk d + 1
  | .map entries => uptoBulkEntries entries + 1
  | .held _ => 1
def uptoBulkAll {H : Type} : List (DataW H) → Nat
  | [] => 0
  | d :: r => uptoBulk d + uptoBulkAll r
def uptoBulkEntries {H : Type} : List (Lit × DataW H) → Nat
  | [] => 0
  | x :: r => uptoBulkEntry x + uptoBulkEntries r
def uptoBulkEntry {H : Type} : Lit × DataW H → Nat
  | (.string bytes, d) => bytes.length + uptoBulk d + 1
  | (_, d) => uptoBulk d + 1
 end
def uptoSmall : (H : Type) → List (DataW H) → Bool := fun _ ds => decide (uptoBulkAll ds ≤ 1048576)
def OpenSpec.upto (s : _root_.Go.ChangeSpec) : _root_.Go.OpenSpec := { _root_.Go.OpenSpec.ofChange s with cond := some uptoSmall }

/-- 'lightwelllaw06.DeflateTells', WHERE WHAT IT READS IS OF BULK AT MOST 1048576: true; the input reads as it did. -/
def deflateTellsUptoRow : OpenClaim := { program := "ytcchekkedgajpaa", sum := "63795cc3fb42e644a21d398a9e4e882c875805a8f7b8ca8ee8d2237581332fc1", func := "lightwell/lightwelllaw06.DeflateTells", spec := "deflateTells", unfollowed := true, recurses := true, plainKeys := false, apart := false, narrowed := true }
def DeflateTellsUptoSaid : Prop := deflateTellsUptoRow.holds Try.pinned (OpenSpec.upto deflateTellsSpec)

/-- 'lightwelllaw06.DeflateNone', WHERE WHAT IT READS IS OF BULK AT MOST 1048576: true; the input reads as it did. -/
def deflateNoneUptoRow : OpenClaim := { program := "ytcchekkedgajpaa", sum := "63795cc3fb42e644a21d398a9e4e882c875805a8f7b8ca8ee8d2237581332fc1", func := "lightwell/lightwelllaw06.DeflateNone", spec := "deflateNone", unfollowed := true, recurses := true, plainKeys := false, apart := false, narrowed := true }
def DeflateNoneUptoSaid : Prop := deflateNoneUptoRow.holds Try.pinned (OpenSpec.upto deflateNoneSpec)

/-- 'lightwelllaw06.DeflatePieces', WHERE WHAT IT READS IS OF BULK AT MOST 1048576: true; the input reads as it did. -/
def deflatePiecesUptoRow : OpenClaim := { program := "ytcchekkedgajpaa", sum := "63795cc3fb42e644a21d398a9e4e882c875805a8f7b8ca8ee8d2237581332fc1", func := "lightwell/lightwelllaw06.DeflatePieces", spec := "deflatePieces", unfollowed := true, recurses := true, plainKeys := false, apart := false, narrowed := true }
def DeflatePiecesUptoSaid : Prop := deflatePiecesUptoRow.holds Try.pinned (OpenSpec.upto deflatePiecesSpec)

/-- 'lightwelllaw06.DeflateNumbers', WHERE WHAT IT READS IS OF BULK AT MOST 1048576: true; the input reads as it did. -/
def deflateNumbersUptoRow : OpenClaim := { program := "ytcchekkedgajpaa", sum := "63795cc3fb42e644a21d398a9e4e882c875805a8f7b8ca8ee8d2237581332fc1", func := "lightwell/lightwelllaw06.DeflateNumbers", spec := "deflateNumbers", inPlace := ["internal/abi.NoEscape", "internal/bytealg.MakeNoZero"], unfollowed := true, recurses := true, plainKeys := false, apart := false, narrowed := true }
def DeflateNumbersUptoSaid : Prop := deflateNumbersUptoRow.holds Try.pinned (OpenSpec.upto deflateNumbersSpec)

end Rows
end Go.Proofs.Ytcchekkedgajpaa
