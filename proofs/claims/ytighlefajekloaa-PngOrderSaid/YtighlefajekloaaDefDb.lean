/- Package lightwelllaw06: is, each, awake. -/
import Derived.Test.YtighlefajekloaaDefDa
import Derived.Test.YtighlefajekloaaDm
import Derived.Lib.ConvBytes
set_option linter.unusedVariables false
set_option linter.unusedSimpArgs false
namespace Go.Proofs.Ytighlefajekloaa.DefDb
open Go.RowKit Go.Sort BitsM Base Low BitsW BitsX BitsS MapA DefM DefN DefO DefP DefS DefT DefR DefU DefV DefW DefX DefY DefZ DefBa DefBb DefBc DefCa DefCb DefDa Qb Qt Qp Qy Rec
def bts (s : ByteArray) : List Nat := s.data.toList.map UInt8.toNat
theorem bts_len (s : ByteArray) : (bts s).length = s.size := by unfold bts; rw [List.length_map, Array.length_toList]; rfl
theorem nums_bytesWorld (w : World) (E : TypeId) (s : ByteArray) (hs : s.size ≤ maxLen) : Nums .u8 256 (Lib.bytesWorld w E s) (.slice (some ⟨w.heap.size, 0, none⟩) s.size (grownCap w s.size 0 E)) (bts s) ∧ Below w.heap.size w (Lib.bytesWorld w E s) := by
  refine ⟨⟨⟨_, _, by rw [bts_len], ?_, ?_, fun e => by simp at e⟩, ?_, fun _ => ⟨_, _, _, by rw [bts_len], ?_, ?_⟩⟩, ⟨?_, ?_, ?_, ?_, ?_⟩⟩
  · rw [bts_len]; exact grownCap_ge _ _ _ _
  · exact grownCap_le_maxLen _ _ _ _ hs
  · intro x hx
    unfold bts at hx
    rw [List.mem_map] at hx
    obtain ⟨y, -, rfl⟩ := hx
    exact y.toNat_lt
  · rw [Lib.bytesWorld_size]; omega
  · intro i hi
    rw [bts_len] at hi
    rw [Nat.zero_add, Lib.bytesWorld_cell w E s i hi]
    have h2 : i < s.data.toList.length := by rw [Array.length_toList]; exact hi
    have h3 : (bts s)[i]'(by rw [bts_len]; exact hi) = (s.data.toList[i]).toNat := List.getElem_map ..
    rw [h3, List.getD_eq_getElem?_getD, List.getElem?_eq_getElem h2]
    rfl
  · simp [Lib.bytesWorld, World.freeze, World.alloc, World.drew, -World.alloc_eq, -World.drew_eq]
  · simp [Lib.bytesWorld, World.freeze, World.alloc, World.drew, -World.alloc_eq, -World.drew_eq]
  · simp [Lib.bytesWorld, World.freeze, World.alloc, World.drew, -World.alloc_eq, -World.drew_eq]
  · rw [Lib.bytesWorld_size]; omega
  · exact fun k hk => Lib.bytesWorld_at_old w E s k hk
/-- a string's bytes, laid -/
theorem wpList_toBytes {P : Program} {w : World} {ops : Array Oper} {rest : List Oper} {o : Oper} {a : Act} {Q : Exit → Act → World → Prop} (hgd : o.guard = none) (S T E : TypeId) (x : Operand)
    (ho : o.op = .convert S T x) (hS : P.underlying S = some .string) (hT : P.underlying T = some (.slice E)) (hE : P.underlying E = some (.int .u8)) (s : ByteArray) (hs : s.size ≤ maxLen) (hx : a.eval x = .string s)
    (h : ∀ v w', Nums .u8 256 w' v (bts s) → Below w.heap.size w w' → wpList P ops Q rest (a.put o.dst v) w') : wpList P ops Q (o :: rest) a w := by
  refine wpList_plain hgd fun K hK => ?_
  have hrun := Lib.run_convert_string_bytes (P := P) w S T E s hS hT hE
  obtain ⟨h1, h2⟩ := nums_bytesWorld w E s hs
  unfold Oper.wp
  simp only [execOp, ho, hx]
  simp [hrun, Result.andThen]
  exact hK _ _ (h _ _ h1 h2)
theorem each_snoc (i : Nat) : List.range (i + 1) = List.range i ++ [i] := List.range_succ
theorem build2 (w : World) : (Instr.buildSlice 33 2 #[(0, .int .u8 3), (1, .int .u8 0)]).run Try.prog w = .ok (.slice (some ⟨w.heap.size, 0, none⟩) 2 2) (w.alloc (.cells #[.int .u8 3, .int .u8 0] 5)) := by kernel_rfl
theorem build3 (w : World) : (Instr.buildSlice 33 3 #[(0, .int .u8 75), (1, .int .u8 4), (2, .int .u8 0)]).run Try.prog w = .ok (.slice (some ⟨w.heap.size, 0, none⟩) 3 3) (w.alloc (.cells #[.int .u8 75, .int .u8 4, .int .u8 0] 5)) := by kernel_rfl
theorem build4 (w : World) : (Instr.buildSlice 33 4 #[(0, .int .u8 75), (1, .int .u8 132), (2, .int .u8 3), (3, .int .u8 0)]).run Try.prog w = .ok (.slice (some ⟨w.heap.size, 0, none⟩) 4 4) (w.alloc (.cells #[.int .u8 75, .int .u8 132, .int .u8 3, .int .u8 0] 5)) := by kernel_rfl
theorem build5 (w : World) : (Instr.buildSlice 33 5 #[(0, .int .u8 1), (1, .int .u8 0), (2, .int .u8 1), (3, .int .u8 255), (4, .int .u8 254)]).run Try.prog w = .ok (.slice (some ⟨w.heap.size, 0, none⟩) 5 5) (w.alloc (.cells #[.int .u8 1, .int .u8 0, .int .u8 1, .int .u8 255, .int .u8 254] 5)) := by kernel_rfl

/-- what stands in one slot -/
def AD (W : World) (x : Value) (l : List Nat) (σ : Value × List Nat) (w9 : World) : Prop := Below W.heap.size W w9 ∧ Nums .u8 256 w9 x l ∧ Nums .u8 256 w9 σ.1 σ.2
theorem AD.step {W : World} {x : Value} {l : List Nat} {σ : Value × List Nat} {w9 w' : World} (h : AD W x l σ w9) (hb : Below w9.heap.size w9 w') : AD W x l σ w' := ⟨h.1.trans (hb.mono h.1.size), h.2.1.below hb (Nat.le_refl _), h.2.2.below hb (Nat.le_refl _)⟩
end Go.Proofs.Ytighlefajekloaa.DefDb
