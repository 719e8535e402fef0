/- The walks of chapter 05's reference: its reader. -/
import Derived.Test.YtighlefajekloaaBits6
set_option linter.unusedVariables false
set_option linter.unusedSimpArgs false
namespace Go.Proofs.Ytighlefajekloaa.Bits8
open Go.RowKit BitsM Base Low Bits5 Bits6

theorem bitsB_snoc (B : List Nat) (x : Nat) (hb : ∀ y ∈ B, y < 256) (hx : x < 256) : bitsB (B ++ [x]) = bitsB B ++ bitsOf x 8 := by
  have hbx : ∀ y ∈ B ++ [x], y < 256 := by
    intro y hy; rcases List.mem_append.1 hy with h | h
    · exact hb y h
    · simp at h; omega
  refine num_inj _ _ (by simp [bitsB_length, bitsOf_length]; omega) ?_
  rw [num_bitsB _ hbx, num_append, num_bitsB _ hb, num_bitsOf x 8 (by omega), bitsB_length, valB_append]
  simp [valB]

def RGet (w : World) (v : Value) (p n : Nat) (e : Ending) (w' : World) : Prop := e = .returned (.tuple #[.agg #[v, .int .i64 (p : Int)], .int .u32 (n : Int), .int .i64 0]) ∧ Below w.heap.size w w'
def RAlignR (w : World) (v : Value) (p : Nat) (e : Ending) (w' : World) : Prop := e = .returned (.agg #[v, .int .i64 (p : Int)]) ∧ Below w.heap.size w w'
theorem rput_lit (v : Value) (L : List Bool) (t : Int) (w : World) (hv : Seq Value.bool w v L) (n k : Nat) (hk : k ≤ 32) (hn : n < 2 ^ k) (hL : L.length ≤ 1000000) (n' k' : Int) (en : n' = (n : Int)) (ek : k' = (k : Int)) :
    Calls Try.prog 69 #[.agg #[v, .int .i64 t], .int .u32 n', .int .i64 k'] w (RPut w (L ++ bitsOf n k) t) := by
  subst en ek; exact rput_any v L t w hv n k hk hn hL
def RNew (w : World) (B : List Nat) (e : Ending) (w' : World) : Prop := ∃ v', e = .returned (.agg #[v', .int .i64 0]) ∧ Sq w' v' (bitsB B) ∧ Below w.heap.size w w' ∧ ∀ b, v'.ownBlock = some b → w.heap.size ≤ b
end Go.Proofs.Ytighlefajekloaa.Bits8
