/-
  No cell of these rows narrows 'for every input' (looked for: loops, veiled, ifaces, maps, wideKeys, modest, calm, conditions, laid).
  DERIVED. THE GIVEN ROWS OF THIS SEAT. 12 by the template 'for every input the law returns true; each argument reads behind the call as it read before'; 0 by the template 'total and deterministic' (their statements: YtadnikpbmjflaaaTotals.lean).
  GIVEN WITH THE SEED: the statements are not yours to turn. If you find one false, say at which input.
  Laid BY PROGRAM, IN A SANDBOX (cutbox-rows.mjs): the forced cells as the released guide's own fill.sh prints them over the translation 64ddc0ebc07fdeb5… (all of the seat's roots in one cut). By AI agents, Wed Nov 11 2026. No macro, syntax, notation, axiom, sorry.
-/
import Derived.Test.YtadnikpbmjflaaaChecked
import GoSem.Claim
import GoSem.ClaimJoined
import GoSem.ClaimMapViews
import Derived.JoinedTies
import Derived.KernelRfl
namespace Go.Proofs.Ytadnikpbmjflaaa
/- THE CELL 'sum', in the pinned program and in every row, IS THE sha256 OF THE DUMP (.gsa) THAT YtadnikpbmjflaaaProg.lean LOADS. Nothing in Lean hashes anything: it is a label: what it is worth is what the hold of that sum in a sandbox is worth. -/
noncomputable def Try.pinned : Pinned := { name := "ytadnikpbmjflaaa", sum := "64ddc0ebc07fdeb56a1258afcdb4ded5ff23eaee0d23d3c3fe6a5f1a8b293fa5", checked := Try.checked }
namespace Rows
def none {H : Type} : Left H := { results := [], args := [] }

/-- 'lightwelllaw04.SumsNumbers': WHATEVER THE INPUT: true; the input reads as it did. -/
def sumsNumbersSpec : ChangeSpec := { name := "sumsNumbers", fn := fun _ => fun
  | [] => { results := [.lit (.bool true)], args := [] }
  | _ => none }
def sumsNumbersRow : OpenClaim := { program := "ytadnikpbmjflaaa", sum := "64ddc0ebc07fdeb56a1258afcdb4ded5ff23eaee0d23d3c3fe6a5f1a8b293fa5", func := "lightwell/lightwelllaw04.SumsNumbers", spec := "sumsNumbers", plainKeys := false, apart := false }
def SumsNumbersSaid : Prop := sumsNumbersRow.holds Try.pinned (OpenSpec.ofChange sumsNumbersSpec)

/-- ITS FALSE NEIGHBOUR: 'it returns false'. Refute it at one input. -/
def sumsNumbersWrong : ChangeSpec := { name := "sumsNumbers", fn := fun _ => fun
  | [] => { results := [.lit (.bool false)], args := [] }
  | _ => none }
def SumsNumbersWrongFalsely : Prop := sumsNumbersRow.holds Try.pinned (OpenSpec.ofChange sumsNumbersWrong)

/-- 'lightwelllaw04.SumsTells': WHATEVER THE INPUT: true; the input reads as it did. -/
def sumsTellsSpec : ChangeSpec := { name := "sumsTells", fn := fun _ => fun
  | [d1, d2] => { results := [.lit (.bool true)], args := [d1, d2] }
  | _ => none }
def sumsTellsRow : OpenClaim := { program := "ytadnikpbmjflaaa", sum := "64ddc0ebc07fdeb56a1258afcdb4ded5ff23eaee0d23d3c3fe6a5f1a8b293fa5", func := "lightwell/lightwelllaw04.SumsTells", spec := "sumsTells", plainKeys := false, apart := false }
def SumsTellsSaid : Prop := sumsTellsRow.holds Try.pinned (OpenSpec.ofChange sumsTellsSpec)

/-- ITS FALSE NEIGHBOUR: 'it returns false'. Refute it at one input. -/
def sumsTellsWrong : ChangeSpec := { name := "sumsTells", fn := fun _ => fun
  | [d1, d2] => { results := [.lit (.bool false)], args := [d1, d2] }
  | _ => none }
def SumsTellsWrongFalsely : Prop := sumsTellsRow.holds Try.pinned (OpenSpec.ofChange sumsTellsWrong)

/-- 'lightwelllaw04.SumsPieces': WHATEVER THE INPUT: true; the input reads as it did. -/
def sumsPiecesSpec : ChangeSpec := { name := "sumsPieces", fn := fun _ => fun
  | [d1, d2, d3, d4, d5] => { results := [.lit (.bool true)], args := [d1, d2, d3, d4, d5] }
  | _ => none }
def sumsPiecesRow : OpenClaim := { program := "ytadnikpbmjflaaa", sum := "64ddc0ebc07fdeb56a1258afcdb4ded5ff23eaee0d23d3c3fe6a5f1a8b293fa5", func := "lightwell/lightwelllaw04.SumsPieces", spec := "sumsPieces", plainKeys := false, apart := false }
def SumsPiecesSaid : Prop := sumsPiecesRow.holds Try.pinned (OpenSpec.ofChange sumsPiecesSpec)

/-- ITS FALSE NEIGHBOUR: 'it returns false'. Refute it at one input. -/
def sumsPiecesWrong : ChangeSpec := { name := "sumsPieces", fn := fun _ => fun
  | [d1, d2, d3, d4, d5] => { results := [.lit (.bool false)], args := [d1, d2, d3, d4, d5] }
  | _ => none }
def SumsPiecesWrongFalsely : Prop := sumsPiecesRow.holds Try.pinned (OpenSpec.ofChange sumsPiecesWrong)

/-- 'lightwelllaw05.BitsWrites': WHATEVER THE INPUT: true; the input reads as it did. -/
def bitsWritesSpec : ChangeSpec := { name := "bitsWrites", fn := fun _ => fun
  | [d] => { results := [.lit (.bool true)], args := [d] }
  | _ => none }
def bitsWritesRow : OpenClaim := { program := "ytadnikpbmjflaaa", sum := "64ddc0ebc07fdeb56a1258afcdb4ded5ff23eaee0d23d3c3fe6a5f1a8b293fa5", func := "lightwell/lightwelllaw05.BitsWrites", spec := "bitsWrites", plainKeys := false, apart := false }
def BitsWritesSaid : Prop := bitsWritesRow.holds Try.pinned (OpenSpec.ofChange bitsWritesSpec)

/-- ITS FALSE NEIGHBOUR: 'it returns false'. Refute it at one input. -/
def bitsWritesWrong : ChangeSpec := { name := "bitsWrites", fn := fun _ => fun
  | [d] => { results := [.lit (.bool false)], args := [d] }
  | _ => none }
def BitsWritesWrongFalsely : Prop := bitsWritesRow.holds Try.pinned (OpenSpec.ofChange bitsWritesWrong)

/-- 'lightwelllaw05.BitsNumbers': WHATEVER THE INPUT: true; the input reads as it did. -/
def bitsNumbersSpec : ChangeSpec := { name := "bitsNumbers", fn := fun _ => fun
  | [] => { results := [.lit (.bool true)], args := [] }
  | _ => none }
def bitsNumbersRow : OpenClaim := { program := "ytadnikpbmjflaaa", sum := "64ddc0ebc07fdeb56a1258afcdb4ded5ff23eaee0d23d3c3fe6a5f1a8b293fa5", func := "lightwell/lightwelllaw05.BitsNumbers", spec := "bitsNumbers", plainKeys := false, apart := false }
def BitsNumbersSaid : Prop := bitsNumbersRow.holds Try.pinned (OpenSpec.ofChange bitsNumbersSpec)

/-- ITS FALSE NEIGHBOUR: 'it returns false'. Refute it at one input. -/
def bitsNumbersWrong : ChangeSpec := { name := "bitsNumbers", fn := fun _ => fun
  | [] => { results := [.lit (.bool false)], args := [] }
  | _ => none }
def BitsNumbersWrongFalsely : Prop := bitsNumbersRow.holds Try.pinned (OpenSpec.ofChange bitsNumbersWrong)

/-- 'lightwelllaw05.BitsReads': WHATEVER THE INPUT: true; the input reads as it did. -/
def bitsReadsSpec : ChangeSpec := { name := "bitsReads", fn := fun _ => fun
  | [d1, d2] => { results := [.lit (.bool true)], args := [d1, d2] }
  | _ => none }
def bitsReadsRow : OpenClaim := { program := "ytadnikpbmjflaaa", sum := "64ddc0ebc07fdeb56a1258afcdb4ded5ff23eaee0d23d3c3fe6a5f1a8b293fa5", func := "lightwell/lightwelllaw05.BitsReads", spec := "bitsReads", plainKeys := false, apart := false }
def BitsReadsSaid : Prop := bitsReadsRow.holds Try.pinned (OpenSpec.ofChange bitsReadsSpec)

/-- ITS FALSE NEIGHBOUR: 'it returns false'. Refute it at one input. -/
def bitsReadsWrong : ChangeSpec := { name := "bitsReads", fn := fun _ => fun
  | [d1, d2] => { results := [.lit (.bool false)], args := [d1, d2] }
  | _ => none }
def BitsReadsWrongFalsely : Prop := bitsReadsRow.holds Try.pinned (OpenSpec.ofChange bitsReadsWrong)

/-- 'lightwelllaw05.BitsNone': WHATEVER THE INPUT: true; the input reads as it did. -/
def bitsNoneSpec : ChangeSpec := { name := "bitsNone", fn := fun _ => fun
  | [d1, d2] => { results := [.lit (.bool true)], args := [d1, d2] }
  | _ => none }
def bitsNoneRow : OpenClaim := { program := "ytadnikpbmjflaaa", sum := "64ddc0ebc07fdeb56a1258afcdb4ded5ff23eaee0d23d3c3fe6a5f1a8b293fa5", func := "lightwell/lightwelllaw05.BitsNone", spec := "bitsNone", plainKeys := false, apart := false }
def BitsNoneSaid : Prop := bitsNoneRow.holds Try.pinned (OpenSpec.ofChange bitsNoneSpec)

/-- ITS FALSE NEIGHBOUR: 'it returns false'. Refute it at one input. -/
def bitsNoneWrong : ChangeSpec := { name := "bitsNone", fn := fun _ => fun
  | [d1, d2] => { results := [.lit (.bool false)], args := [d1, d2] }
  | _ => none }
def BitsNoneWrongFalsely : Prop := bitsNoneRow.holds Try.pinned (OpenSpec.ofChange bitsNoneWrong)

/-- 'lightwelllaw05.BitsBack': WHATEVER THE INPUT: true; the input reads as it did. -/
def bitsBackSpec : ChangeSpec := { name := "bitsBack", fn := fun _ => fun
  | [d] => { results := [.lit (.bool true)], args := [d] }
  | _ => none }
def bitsBackRow : OpenClaim := { program := "ytadnikpbmjflaaa", sum := "64ddc0ebc07fdeb56a1258afcdb4ded5ff23eaee0d23d3c3fe6a5f1a8b293fa5", func := "lightwell/lightwelllaw05.BitsBack", spec := "bitsBack", plainKeys := false, apart := false }
def BitsBackSaid : Prop := bitsBackRow.holds Try.pinned (OpenSpec.ofChange bitsBackSpec)

/-- ITS FALSE NEIGHBOUR: 'it returns false'. Refute it at one input. -/
def bitsBackWrong : ChangeSpec := { name := "bitsBack", fn := fun _ => fun
  | [d] => { results := [.lit (.bool false)], args := [d] }
  | _ => none }
def BitsBackWrongFalsely : Prop := bitsBackRow.holds Try.pinned (OpenSpec.ofChange bitsBackWrong)

/-- 'lightwelllaw06.DeflateTells': WHATEVER THE INPUT: true; the input reads as it did. -/
def deflateTellsSpec : ChangeSpec := { name := "deflateTells", fn := fun _ => fun
  | [d] => { results := [.lit (.bool true)], args := [d] }
  | _ => none }
def deflateTellsRow : OpenClaim := { program := "ytadnikpbmjflaaa", sum := "64ddc0ebc07fdeb56a1258afcdb4ded5ff23eaee0d23d3c3fe6a5f1a8b293fa5", func := "lightwell/lightwelllaw06.DeflateTells", spec := "deflateTells", unfollowed := true, recurses := true, plainKeys := false, apart := false }
def DeflateTellsSaid : Prop := deflateTellsRow.holds Try.pinned (OpenSpec.ofChange deflateTellsSpec)

/-- ITS FALSE NEIGHBOUR: 'it returns false'. Refute it at one input. -/
def deflateTellsWrong : ChangeSpec := { name := "deflateTells", fn := fun _ => fun
  | [d] => { results := [.lit (.bool false)], args := [d] }
  | _ => none }
def DeflateTellsWrongFalsely : Prop := deflateTellsRow.holds Try.pinned (OpenSpec.ofChange deflateTellsWrong)

/-- 'lightwelllaw06.DeflateNone': WHATEVER THE INPUT: true; the input reads as it did. -/
def deflateNoneSpec : ChangeSpec := { name := "deflateNone", fn := fun _ => fun
  | [d] => { results := [.lit (.bool true)], args := [d] }
  | _ => none }
def deflateNoneRow : OpenClaim := { program := "ytadnikpbmjflaaa", sum := "64ddc0ebc07fdeb56a1258afcdb4ded5ff23eaee0d23d3c3fe6a5f1a8b293fa5", func := "lightwell/lightwelllaw06.DeflateNone", spec := "deflateNone", unfollowed := true, recurses := true, plainKeys := false, apart := false }
def DeflateNoneSaid : Prop := deflateNoneRow.holds Try.pinned (OpenSpec.ofChange deflateNoneSpec)

/-- ITS FALSE NEIGHBOUR: 'it returns false'. Refute it at one input. -/
def deflateNoneWrong : ChangeSpec := { name := "deflateNone", fn := fun _ => fun
  | [d] => { results := [.lit (.bool false)], args := [d] }
  | _ => none }
def DeflateNoneWrongFalsely : Prop := deflateNoneRow.holds Try.pinned (OpenSpec.ofChange deflateNoneWrong)

/-- 'lightwelllaw06.DeflatePieces': WHATEVER THE INPUT: true; the input reads as it did. -/
def deflatePiecesSpec : ChangeSpec := { name := "deflatePieces", fn := fun _ => fun
  | [d1, d2] => { results := [.lit (.bool true)], args := [d1, d2] }
  | _ => none }
def deflatePiecesRow : OpenClaim := { program := "ytadnikpbmjflaaa", sum := "64ddc0ebc07fdeb56a1258afcdb4ded5ff23eaee0d23d3c3fe6a5f1a8b293fa5", func := "lightwell/lightwelllaw06.DeflatePieces", spec := "deflatePieces", unfollowed := true, recurses := true, plainKeys := false, apart := false }
def DeflatePiecesSaid : Prop := deflatePiecesRow.holds Try.pinned (OpenSpec.ofChange deflatePiecesSpec)

/-- ITS FALSE NEIGHBOUR: 'it returns false'. Refute it at one input. -/
def deflatePiecesWrong : ChangeSpec := { name := "deflatePieces", fn := fun _ => fun
  | [d1, d2] => { results := [.lit (.bool false)], args := [d1, d2] }
  | _ => none }
def DeflatePiecesWrongFalsely : Prop := deflatePiecesRow.holds Try.pinned (OpenSpec.ofChange deflatePiecesWrong)

/-- 'lightwelllaw06.DeflateNumbers': WHATEVER THE INPUT: true; the input reads as it did. -/
def deflateNumbersSpec : ChangeSpec := { name := "deflateNumbers", fn := fun _ => fun
  | [] => { results := [.lit (.bool true)], args := [] }
  | _ => none }
def deflateNumbersRow : OpenClaim := { program := "ytadnikpbmjflaaa", sum := "64ddc0ebc07fdeb56a1258afcdb4ded5ff23eaee0d23d3c3fe6a5f1a8b293fa5", func := "lightwell/lightwelllaw06.DeflateNumbers", spec := "deflateNumbers", inPlace := ["internal/abi.NoEscape", "internal/bytealg.MakeNoZero"], unfollowed := true, recurses := true, plainKeys := false, apart := false }
def DeflateNumbersSaid : Prop := deflateNumbersRow.holds Try.pinned (OpenSpec.ofChange deflateNumbersSpec)

/-- ITS FALSE NEIGHBOUR: 'it returns false'. Refute it at one input. -/
def deflateNumbersWrong : ChangeSpec := { name := "deflateNumbers", fn := fun _ => fun
  | [] => { results := [.lit (.bool false)], args := [] }
  | _ => none }
def DeflateNumbersWrongFalsely : Prop := deflateNumbersRow.holds Try.pinned (OpenSpec.ofChange deflateNumbersWrong)

/- THE SECOND FORM. 'bulk': how many values and letters a reading holds, each counted each time it is reached (what is shared counts as often as it is met; a slice's spare places count too). A statement '..UptoSaid' is the law's where the arguments, and the package variables that the reading takes, are together of bulk at most 1048576: NARROWER than '..Said'. Prove '..Said' where nothing that the law and all that it calls make is longer than what came in: it says more and counts as full. Else prove '..UptoSaid'. A law counts once. -/
mutual
def uptoBulk {H : Type} : DataW H → Nat
  | .lit (.string bytes) => bytes.length + 1
  | .lit _ => 1
  | .nil => 1
  | .ptr d => uptoBulk d + 1
  | .slice elems spare => uptoBulkAll elems + uptoBulkAll spare + 1
  | .agg parts => uptoBulkAll parts + 1
  | .iface _ d => uptoBulk d + 1
  | .map entries => uptoBulkEntries entries + 1
  | .held _ => 1
def uptoBulkAll {H : Type} : List (DataW H) → Nat
  | [] => 0
  | d :: r => uptoBulk d + uptoBulkAll r
def uptoBulkEntries {H : Type} : List (Lit × DataW H) → Nat
  | [] => 0
  | x :: r => uptoBulkEntry x + uptoBulkEntries r
def uptoBulkEntry {H : Type} : Lit × DataW H → Nat
  | (.string bytes, d) => bytes.length + uptoBulk d + 1
  | (_, d) => uptoBulk d + 1
 end
def uptoSmall : (H : Type) → List (DataW H) → Bool := fun _ ds => decide (uptoBulkAll ds ≤ 1048576)
def OpenSpec.upto (s : _root_.Go.ChangeSpec) : _root_.Go.OpenSpec := { _root_.Go.OpenSpec.ofChange s with cond := some uptoSmall }

/-- 'lightwelllaw04.SumsNumbers', WHERE WHAT IT READS IS OF BULK AT MOST 1048576: true; the input reads as it did. -/
def sumsNumbersUptoRow : OpenClaim := { program := "ytadnikpbmjflaaa", sum := "64ddc0ebc07fdeb56a1258afcdb4ded5ff23eaee0d23d3c3fe6a5f1a8b293fa5", func := "lightwell/lightwelllaw04.SumsNumbers", spec := "sumsNumbers", plainKeys := false, apart := false, narrowed := true }
def SumsNumbersUptoSaid : Prop := sumsNumbersUptoRow.holds Try.pinned (OpenSpec.upto sumsNumbersSpec)

/-- 'lightwelllaw04.SumsTells', WHERE WHAT IT READS IS OF BULK AT MOST 1048576: true; the input reads as it did. -/
def sumsTellsUptoRow : OpenClaim := { program := "ytadnikpbmjflaaa", sum := "64ddc0ebc07fdeb56a1258afcdb4ded5ff23eaee0d23d3c3fe6a5f1a8b293fa5", func := "lightwell/lightwelllaw04.SumsTells", spec := "sumsTells", plainKeys := false, apart := false, narrowed := true }
def SumsTellsUptoSaid : Prop := sumsTellsUptoRow.holds Try.pinned (OpenSpec.upto sumsTellsSpec)

/-- 'lightwelllaw04.SumsPieces', WHERE WHAT IT READS IS OF BULK AT MOST 1048576: true; the input reads as it did. -/
def sumsPiecesUptoRow : OpenClaim := { program := "ytadnikpbmjflaaa", sum := "64ddc0ebc07fdeb56a1258afcdb4ded5ff23eaee0d23d3c3fe6a5f1a8b293fa5", func := "lightwell/lightwelllaw04.SumsPieces", spec := "sumsPieces", plainKeys := false, apart := false, narrowed := true }
def SumsPiecesUptoSaid : Prop := sumsPiecesUptoRow.holds Try.pinned (OpenSpec.upto sumsPiecesSpec)

/-- 'lightwelllaw05.BitsWrites', WHERE WHAT IT READS IS OF BULK AT MOST 1048576: true; the input reads as it did. -/
def bitsWritesUptoRow : OpenClaim := { program := "ytadnikpbmjflaaa", sum := "64ddc0ebc07fdeb56a1258afcdb4ded5ff23eaee0d23d3c3fe6a5f1a8b293fa5", func := "lightwell/lightwelllaw05.BitsWrites", spec := "bitsWrites", plainKeys := false, apart := false, narrowed := true }
def BitsWritesUptoSaid : Prop := bitsWritesUptoRow.holds Try.pinned (OpenSpec.upto bitsWritesSpec)

/-- 'lightwelllaw05.BitsNumbers', WHERE WHAT IT READS IS OF BULK AT MOST 1048576: true; the input reads as it did. -/
def bitsNumbersUptoRow : OpenClaim := { program := "ytadnikpbmjflaaa", sum := "64ddc0ebc07fdeb56a1258afcdb4ded5ff23eaee0d23d3c3fe6a5f1a8b293fa5", func := "lightwell/lightwelllaw05.BitsNumbers", spec := "bitsNumbers", plainKeys := false, apart := false, narrowed := true }
def BitsNumbersUptoSaid : Prop := bitsNumbersUptoRow.holds Try.pinned (OpenSpec.upto bitsNumbersSpec)

/-- 'lightwelllaw05.BitsReads', WHERE WHAT IT READS IS OF BULK AT MOST 1048576: true; the input reads as it did. -/
def bitsReadsUptoRow : OpenClaim := { program := "ytadnikpbmjflaaa", sum := "64ddc0ebc07fdeb56a1258afcdb4ded5ff23eaee0d23d3c3fe6a5f1a8b293fa5", func := "lightwell/lightwelllaw05.BitsReads", spec := "bitsReads", plainKeys := false, apart := false, narrowed := true }
def BitsReadsUptoSaid : Prop := bitsReadsUptoRow.holds Try.pinned (OpenSpec.upto bitsReadsSpec)

/-- 'lightwelllaw05.BitsNone', WHERE WHAT IT READS IS OF BULK AT MOST 1048576: true; the input reads as it did. -/
def bitsNoneUptoRow : OpenClaim := { program := "ytadnikpbmjflaaa", sum := "64ddc0ebc07fdeb56a1258afcdb4ded5ff23eaee0d23d3c3fe6a5f1a8b293fa5", func := "lightwell/lightwelllaw05.BitsNone", spec := "bitsNone", plainKeys := false, apart := false, narrowed := true }
def BitsNoneUptoSaid : Prop := bitsNoneUptoRow.holds Try.pinned (OpenSpec.upto bitsNoneSpec)

/-- 'lightwelllaw05.BitsBack', WHERE WHAT IT READS IS OF BULK AT MOST 1048576: true; the input reads as it did. -/
def bitsBackUptoRow : OpenClaim := { program := "ytadnikpbmjflaaa", sum := "64ddc0ebc07fdeb56a1258afcdb4ded5ff23eaee0d23d3c3fe6a5f1a8b293fa5", func := "lightwell/lightwelllaw05.BitsBack", spec := "bitsBack", plainKeys := false, apart := false, narrowed := true }
def BitsBackUptoSaid : Prop := bitsBackUptoRow.holds Try.pinned (OpenSpec.upto bitsBackSpec)

/-- 'lightwelllaw06.DeflateTells', WHERE WHAT IT READS IS OF BULK AT MOST 1048576: true; the input reads as it did. -/
def deflateTellsUptoRow : OpenClaim := { program := "ytadnikpbmjflaaa", sum := "64ddc0ebc07fdeb56a1258afcdb4ded5ff23eaee0d23d3c3fe6a5f1a8b293fa5", func := "lightwell/lightwelllaw06.DeflateTells", spec := "deflateTells", unfollowed := true, recurses := true, plainKeys := false, apart := false, narrowed := true }
def DeflateTellsUptoSaid : Prop := deflateTellsUptoRow.holds Try.pinned (OpenSpec.upto deflateTellsSpec)

/-- 'lightwelllaw06.DeflateNone', WHERE WHAT IT READS IS OF BULK AT MOST 1048576: true; the input reads as it did. -/
def deflateNoneUptoRow : OpenClaim := { program := "ytadnikpbmjflaaa", sum := "64ddc0ebc07fdeb56a1258afcdb4ded5ff23eaee0d23d3c3fe6a5f1a8b293fa5", func := "lightwell/lightwelllaw06.DeflateNone", spec := "deflateNone", unfollowed := true, recurses := true, plainKeys := false, apart := false, narrowed := true }
def DeflateNoneUptoSaid : Prop := deflateNoneUptoRow.holds Try.pinned (OpenSpec.upto deflateNoneSpec)

/-- 'lightwelllaw06.DeflatePieces', WHERE WHAT IT READS IS OF BULK AT MOST 1048576: true; the input reads as it did. -/
def deflatePiecesUptoRow : OpenClaim := { program := "ytadnikpbmjflaaa", sum := "64ddc0ebc07fdeb56a1258afcdb4ded5ff23eaee0d23d3c3fe6a5f1a8b293fa5", func := "lightwell/lightwelllaw06.DeflatePieces", spec := "deflatePieces", unfollowed := true, recurses := true, plainKeys := false, apart := false, narrowed := true }
def DeflatePiecesUptoSaid : Prop := deflatePiecesUptoRow.holds Try.pinned (OpenSpec.upto deflatePiecesSpec)

/-- 'lightwelllaw06.DeflateNumbers', WHERE WHAT IT READS IS OF BULK AT MOST 1048576: true; the input reads as it did. -/
def deflateNumbersUptoRow : OpenClaim := { program := "ytadnikpbmjflaaa", sum := "64ddc0ebc07fdeb56a1258afcdb4ded5ff23eaee0d23d3c3fe6a5f1a8b293fa5", func := "lightwell/lightwelllaw06.DeflateNumbers", spec := "deflateNumbers", inPlace := ["internal/abi.NoEscape", "internal/bytealg.MakeNoZero"], unfollowed := true, recurses := true, plainKeys := false, apart := false, narrowed := true }
def DeflateNumbersUptoSaid : Prop := deflateNumbersUptoRow.holds Try.pinned (OpenSpec.upto deflateNumbersSpec)

end Rows
end Go.Proofs.Ytadnikpbmjflaaa
