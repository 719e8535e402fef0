/- The walks of chapter 05's reference (bit by bit). -/
import Derived.Test.YtdjnpgkgiofnnaaBitsN
import Derived.Test.YtdjnpgkgiofnnaaLow
import Derived.Test.YtdjnpgkgiofnnaaBase2
set_option linter.unusedVariables false
set_option linter.unusedSimpArgs false
namespace Go.Proofs.Ytdjnpgkgiofnnaa.Bits5
open Go.RowKit BitsM Base Low

theorem u64_pow (k : Nat) (hk : k ≤ 32) : IntKind.u64.wrap ((2 : Int) ^ k) = ((2 ^ k : Nat) : Int) := by
  have h2 : 2 ^ k ≤ 2 ^ 32 := Nat.pow_le_pow_right (by omega) hk
  have e : ((2 : Int) ^ k) = ((2 ^ k : Nat) : Int) := by simp
  rw [e, IntKind.wrap_u64]; generalize 2 ^ k = q at *; omega
theorem u64_nat (n : Nat) (hn : n ≤ 4294967295) : IntKind.u64.wrap (n : Int) = (n : Int) := by rw [IntKind.wrap_u64]; omega

/-- what the reference's Put leaves -/
def RPut (w : World) (L : List Bool) (t : Int) (e : Ending) (w' : World) : Prop :=
  ∃ v', e = .returned (.tuple #[.agg #[v', .int .i64 t], .int .i64 0]) ∧ SeqOwn Value.bool 4 w.heap.size w' v' L ∧ Below w.heap.size w w'

/-- a row of bits that lies in the world -/
structure Sq (w : World) (v : Value) (L : List Bool) : Prop where
  sq : Seq Value.bool w v L
  lt : ∀ b, v.ownBlock = some b → b < w.heap.size
theorem Sq.of_own {base : Nat} {w : World} {v : Value} {L : List Bool} (h : SeqOwn Value.bool 4 base w v L) : Sq w v L := ⟨h.seq, fun b hb => (h.lt b hb).2⟩
theorem Sq.nil (w : World) : Sq w (.slice none 0 0) [] := ⟨Seq.nil w, fun b h => by simp [Value.ownBlock] at h⟩
theorem Sq.below {w w' : World} {B : Nat} {v : Value} {L : List Bool} (h : Sq w v L) (hb : Below B w w') (hB : w.heap.size ≤ B) : Sq w' v L :=
  ⟨h.sq.below hb hB, fun b hb' => Nat.lt_of_lt_of_le (h.lt b hb') hb.size⟩
def up8 (n : Nat) : Nat := (n + 7) / 8 * 8
def RAlign (w : World) (v : Value) (L : List Bool) (t : Int) (e : Ending) (w' : World) : Prop :=
  ∃ v', e = .returned (.agg #[v', .int .i64 t]) ∧ (Sq w' v' (L ++ List.replicate (up8 L.length - L.length) false) ∧ ∀ b, v'.ownBlock = some b → v.ownBlock = some b ∨ w.heap.size ≤ b) ∧ Below w.heap.size w w'
end Go.Proofs.Ytdjnpgkgiofnnaa.Bits5
