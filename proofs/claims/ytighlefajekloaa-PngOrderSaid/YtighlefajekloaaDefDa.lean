/- Package deflate: Whole. -/
import Derived.Test.YtighlefajekloaaDefCb
import Derived.Deep.Upon
set_option linter.unusedVariables false
set_option linter.unusedSimpArgs false
namespace Go.Proofs.Ytighlefajekloaa.DefDa
open Go.RowKit Go.Sort BitsM Base Low BitsW BitsX BitsS MapA DefM DefN DefO DefS DefT DefR DefU DefV DefW DefX DefY DefZ DefBa DefBb DefBc DefCa DefCb Qb Qt Qp Qy Rec
/-- append to a row without room behind it: in a new row, unless nothing is appended -/
theorem wpList_append_full {P : Program} {w : World} {ops : Array Oper} {rest : List Oper} {o : Oper} {a : Act} {Q : Exit → Act → World → Prop} (hgd : o.guard = none) (s x : Operand) (T E : TypeId)
    (ho : o.op = .call { callee := .builtin .append, args := #[s, x], argTypes := #[T, T] }) (k : IntKind) (N bytes : Nat) (hT : NumSlice P T E k bytes)
    (ad : Option Addr) (n : Nat) (l : List Nat) (hs : a.eval s = .slice ad n n) (hv : Nums k N w (.slice ad n n) l) (u : Value) (m : List Nat) (hx : a.eval x = u) (hu : Nums k N w u m)
    (hb : (l.length + m.length) * bytes ≤ 140737488355328) (hl : l.length + m.length ≤ 140737488355328)
    (h : ∀ v' w', Nums k N w' v' (l ++ m) → w.grownBy w' none → (∃ a n c, v' = .slice a n c) → wpList P ops Q rest (a.put o.dst v') w') : wpList P ops Q (o :: rest) a w := by
  obtain ⟨i, hi, hz, h1, h2⟩ := hT.info
  obtain ⟨ad2, cap, rfl, hc1, hc2, hnone⟩ := hu.shape
  obtain ⟨ad3, cap3, e3, hd1, hd2, hdnone⟩ := hv.shape
  simp only [Value.slice.injEq] at e3
  obtain ⟨rfl, rfl, -⟩ := e3
  have src : ∀ b', ad2 = some b' → ∀ j (y : Value), (numCells k m)[j]? = some y → w.cell? (b'.add j) = some y := by
    intro b' hb' j y hj
    have hjl : j < m.length := by
      rcases Nat.lt_or_ge j m.length with h | h
      · exact h
      · rw [List.getElem?_eq_none (by rw [numCells_length]; exact h)] at hj; simp at hj
    obtain ⟨b, off, cap', e, _, hc⟩ := hu.cells (by intro h0; subst h0; simp at hjl)
    subst hb'
    simp only [Value.slice.injEq, Option.some.injEq] at e
    obtain ⟨rfl, _, _⟩ := e
    rw [numCells_at k m j hjl] at hj
    have := hc j hjl
    rw [show ((⟨b, off, none⟩ : Addr).add j) = ⟨b, off + j, none⟩ from by unfold Addr.add; split <;> simp_all]
    rw [this]; exact hj
  by_cases hm : m = []
  · subst hm
    refine wpList_plain hgd fun K hK => ?_
    have hsrc : Src P i.size T (.slice ad2 0 cap) 0 [] w := by
      cases ad2 with
      | none => exact Src.ofNil w hT.und cap
      | some b => exact Src.ofSlice w hT.und b 0 cap [] (by simp) (fun j y hj => by simp at hj) (by simp)
    have hrun := run_append_nothing (P := P) w T T o.type E i hT.und hi ad l.length l.length (Nat.le_refl _) _ hsrc
    unfold Oper.wp
    simp only [List.length_nil] at hx
    simp [execOp, ho, resolve, invoke, builtin, hs, hx, hrun, Result.andThen]
    exact hK _ _ (h _ w (by simpa using hv) ⟨rfl, rfl, rfl, Nat.le_refl _, fun _ _ _ => rfl⟩ ⟨_, _, _, rfl⟩)
  · have hml : 0 < m.length := by cases m with
      | nil => exact absurd rfl hm
      | cons => simp
    cases ad2 with
    | none => have := hnone rfl; omega
    | some ad2 =>
      refine wpList_append_grows w hgd s x T ho E i (.int k 0) 1 bytes hT.und hi hz h1 h2 rfl (by omega) ad l.length l.length (numCells k l) hs (fun e => ⟨(hdnone e).1, (hdnone e).1⟩) (by rw [numCells_length]; omega)
        (by
          intro b hb' j y hj
          have hjl : j < l.length := by
            rcases Nat.lt_or_ge j l.length with h | h
            · exact h
            · rw [List.getElem?_eq_none (by rw [numCells_length]; exact h)] at hj; simp at hj
          obtain ⟨b1, off, cap', e, _, hc⟩ := hv.cells (by intro h0; subst h0; simp at hjl)
          subst hb'
          simp only [Value.slice.injEq, Option.some.injEq] at e
          obtain ⟨rfl, _, _⟩ := e
          rw [numCells_at k l j hjl] at hj
          have := hc j hjl
          rw [show ((⟨b1, off, none⟩ : Addr).add j) = ⟨b1, off + j, none⟩ from by unfold Addr.add; split <;> simp_all]
          rw [this]; exact hj) ad2 m.length cap (numCells k m) hx (by rw [numCells_length]; omega) (src ad2 rfl) (numCells_one k m) (by omega) (by unfold maxLen; omega) hb ?_
      intro v' w' ho' hg'
      have hO : Own k N E w.heap.size w' v' (l ++ m) := ⟨by rw [List.length_append, numCells_append]; exact ho', fun y hy => by rcases List.mem_append.1 hy with hy | hy; exact hv.bound y hy; exact hu.bound y hy⟩
      exact h v' w' hO.nums hg' hO.slice_
theorem bitsW_nil : (bitsW []).length / 8 = 0 := by decide +kernel
end Go.Proofs.Ytighlefajekloaa.DefDa
