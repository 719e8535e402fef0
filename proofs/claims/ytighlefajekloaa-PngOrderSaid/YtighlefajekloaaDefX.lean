/- Package deflate: rows of fields; what an append to them leaves. -/
import Derived.Test.YtighlefajekloaaDefW
import Derived.Test.YtighlefajekloaaRec
set_option linter.unusedVariables false
set_option linter.unusedSimpArgs false
namespace Go.Proofs.Ytighlefajekloaa.DefX
open Go.RowKit Go.Sort BitsM Base DefM DefN DefV DefW Qb Rec
def encF (f : Nat × Nat) : List Value := [.int .u32 (f.1 : Int), .int .i64 (f.2 : Int)]
theorem fields : RecSlice Try.prog 107 106 2 encF (.agg #[.int .u32 0, .int .i64 0]) 16 :=
  recSlice Try.underlying107 (by kernel_rfl) rfl (fun x u hu => by unfold encF at hu; simp at hu; rcases hu with rfl | rfl <;> rfl) (fun _ => rfl) (by omega)
/-- an append, as it runs -/
theorem run_append_recs {P : Program} {α : Type} {c : Nat} {enc : α → List Value} {w : World} (T ty E : TypeId) (z : Value) (bytes base : Nat) (hT : RecSlice P T E c enc z bytes)
    (v : Value) (l : List α) (hown : RecsOwn c enc E base w v l) (ad : Addr) (cap : Nat) (m : List α) (hu : Recs c enc w (.slice (some ad) m.length cap) m)
    (hb : (l.length + m.length) * bytes ≤ 140737488355328) (hl : l.length + m.length ≤ 140737488355328) (hbase : base ≤ w.heap.size) :
    ∃ v' w', (Builtin.append_ #[T, T] ty #[v, .slice (some ad) m.length cap]).run P w = .ok v' w' ∧ RecsOwn c enc E base w' v' (l ++ m) ∧ w.grownBy w' v.ownBlock ∧ (v'.ownBlock = v.ownBlock ∨ v'.ownBlock = some w.heap.size) := by
  obtain ⟨i, hi, hz, h1, h2⟩ := hT.info
  have hone : ∀ y ∈ m.flatMap enc, y.oneCell' = true := by intro y hy; simp only [List.mem_flatMap] at hy; obtain ⟨n, _, hn⟩ := hy; exact hT.one n y hn
  have hap : (l ++ m).flatMap enc = l.flatMap enc ++ m.flatMap enc := List.flatMap_append
  have hml : (m.flatMap enc).length = m.length * c := flat_len hT.len m
  have hnews : ∀ j (y : Value), (m.flatMap enc)[j]? = some y → w.cell? (ad.add j) = some y := by
    intro j y hj
    have hjl : j < m.length * c := by
      rcases Nat.lt_or_ge j (m.length * c) with h | h
      · exact h
      · rw [List.getElem?_eq_none (by rw [hml]; exact h)] at hj; simp at hj
    have hi' : j / c < m.length := Nat.div_lt_of_lt_mul (by rw [Nat.mul_comm]; exact hjl)
    obtain ⟨b, off, cap', e, _, hc⟩ := hu.cells (by intro h0; subst h0; simp at hi')
    simp only [Value.slice.injEq, Option.some.injEq] at e
    obtain ⟨rfl, _, _⟩ := e
    have hjj : j = j / c * c + j % c := by rw [Nat.mul_comm]; exact (Nat.div_add_mod j c).symm
    have hmod : j % c < c := Nat.mod_lt _ hT.pos
    have := hc (j / c) hi' (j % c) y (by rw [← flat_at hT.len m (j / c) (j % c) hi' hmod, ← hjj]; exact hj)
    rw [show ((⟨b, off, none⟩ : Addr).add j) = ⟨b, off + j / c * c + j % c, none⟩ from by
      rw [Nat.add_assoc, ← hjj]; exact add_flat b off j]
    exact this
  obtain ⟨v', w', hrun, r1, r2, _, r3⟩ := run_append_own_at (P := P) (w := w) base T ty E i z c bytes hT.und hi hz h1 h2 hT.zone hT.pos v l.length (l.flatMap enc) hown.row ad m.length cap (m.flatMap enc) hml hnews hone (by unfold maxLen; omega) hb hbase
  exact ⟨v', w', hrun, ⟨by rw [List.length_append, hap]; exact r1⟩, r2, r3⟩
/-- the rows that a call of append lays for what is appended -/
theorem build_one (w : World) (a b : Int) : (Instr.buildSlice 107 1 #[(0, .agg #[.int .u32 a, .int .i64 b])]).run Try.prog w = .ok (.slice (some ⟨w.heap.size, 0, none⟩) 1 1) (w.alloc (.cells #[.int .u32 a, .int .i64 b] 106)) := by kernel_rfl
theorem build_two (w : World) (a b c d : Int) : (Instr.buildSlice 107 2 #[(0, .agg #[.int .u32 a, .int .i64 b]), (1, .agg #[.int .u32 c, .int .i64 d])]).run Try.prog w = .ok (.slice (some ⟨w.heap.size, 0, none⟩) 2 2) (w.alloc (.cells #[.int .u32 a, .int .i64 b, .int .u32 c, .int .i64 d] 106)) := by kernel_rfl
end Go.Proofs.Ytighlefajekloaa.DefX
