/- append of numbers at a step of a region that draws its order: and where the new slice lies. -/
import Derived.Test.YtdmmjmdnljhooaaBase
import Derived.Deep.RegionLaw
import Derived.Deep.AppendLies
set_option linter.unusedVariables false
set_option linter.unusedSimpArgs false
namespace Go.Proofs.Ytdmmjmdnljhooaa.Num
open Go.RowKit Base

theorem step_append_at {P : Program} {ops : Array Oper} {o : Oper} {a : Act} {w : World} {K : Act → World → Prop} {Q : Exit → Act → World → Prop} {X : Prop}
    (hg : o.guard = none) (s x : Operand) (T E : TypeId) (hop : o.op = Op.call { callee := Callee.builtin Builtin.append, args := #[s, x], argTypes := #[T, T] })
    (k : IntKind) (N bytes base : Nat) (hT : NumSlice P T E k bytes) (v : Value) (l : List Nat) (hs : a.eval s = v) (hown : Own k N E base w v l)
    (ad : Addr) (m c : Nat) (news : List Nat) (hx : a.eval x = .slice (some ad) m c) (hn : Nums k N w (.slice (some ad) m c) news) (hm : 0 < m)
    (hb : (l.length + m) * bytes ≤ 140737488355328) (hl : l.length + m ≤ 140737488355328) (hbase : base ≤ w.heap.size)
    (H : Nat) (hH : w.heap.size = H) (hK : ∀ g cap w', Own k N E base w' (.slice (some ⟨g, 0, none⟩) (l.length + m) cap) (l ++ news) → w.grownBy w' v.ownBlock → (v.ownBlock = some g ∨ g = H) → K (a.put o.dst (.slice (some ⟨g, 0, none⟩) (l.length + m) cap)) w') :
    if Region.wanted o (yielded ops a.tmps) = true then Oper.wp P o a w K Q else X := by
  have hw : Region.wanted o (yielded ops a.tmps) = true := by simp [Region.wanted, hg]
  rw [if_pos hw]
  obtain ⟨i, hi, hz, h1, h2⟩ := hT.info
  obtain ⟨ad', cap', e, hc1, hc2, _⟩ := hn.shape
  simp only [Value.slice.injEq] at e
  obtain ⟨rfl, hml, rfl⟩ := e
  have hnews : ∀ j (y : Value), (numCells k news)[j]? = some y → w.cell? (ad.add j) = some y := by
    intro j y hj
    have hjl : j < news.length := by
      rcases Nat.lt_or_ge j news.length with h | h
      · exact h
      · rw [List.getElem?_eq_none (by rw [numCells_length]; exact h)] at hj; simp at hj
    obtain ⟨b, off, cap', e, _, hc⟩ := hn.cells (by intro h0; subst h0; simp at hjl)
    simp only [Value.slice.injEq, Option.some.injEq] at e
    obtain ⟨rfl, _, _⟩ := e
    rw [numCells_at k news j hjl] at hj
    have := hc j hjl
    rw [show ((⟨b, off, none⟩ : Addr).add j) = ⟨b, off + j, none⟩ from by unfold Addr.add; split <;> simp_all]
    rw [this]; exact hj
  refine wp_append_lies w s x T hop base E i (.int k 0) 1 bytes hT.und hi hz h1 h2 rfl (by omega) v l.length (numCells k l) hs hown.row ad m c (numCells k news) hx (by rw [numCells_length]; omega) hnews (numCells_one k news) hm (by unfold maxLen; omega) hb hbase H hH ?_
  intro g cap w' ho hgr hwh _
  refine hK g cap w' ⟨?_, ?_⟩ hgr hwh
  · rw [List.length_append, numCells_append, ← hml]; exact ho
  · intro y hy
    rcases List.mem_append.1 hy with h | h
    · exact hown.bound y h
    · exact hn.bound y h
end Go.Proofs.Ytdmmjmdnljhooaa.Num
