/- That a great region's operations may be walked in the order of the text, shown one by one: each in a lemma of its own, so the kernel lets go of its memory between them. No program is named here. -/
import Derived.Lib.QuietBelow
set_option linter.unusedVariables false
namespace Go.Proofs.Ytdmmbhcaejojeaa.Lex
open Go

theorem lexB_of {md : Region.Mode} {ops : Array Oper} (N : Nat) (h1 : Region.noSelect ops = true) (h2 : ops.size = N) (h3 : Region.lexFrom md ops N 0 (Array.replicate N false) = true) : Region.lexB md ops = true := by
  unfold Region.lexB; rw [h1, h2, h3]; rfl
theorem step {md : Region.Mode} {ops : Array Oper} {n k : Nat} {listed : Array Bool} (h1 : (Region.ready md ops listed).contains k = true) (h2 : Region.free md ops listed k = true) (h3 : Region.lexFrom md ops n (k + 1) (listed.setIfInBounds k true) = true) : Region.lexFrom md ops (n + 1) k listed = true := by
  unfold Region.lexFrom; rw [h1, h2, h3]; rfl
end Go.Proofs.Ytdmmbhcaejojeaa.Lex
