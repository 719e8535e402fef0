/- More on rows of numbers: copied into, read as slices. -/
import Derived.Test.YtmdhekpfkligiaaNum
import Derived.Test.YtmdhekpfkligiaaBase
set_option linter.unusedVariables false
set_option linter.unusedSimpArgs false
namespace Go.Proofs.Ytmdhekpfkligiaa.Num
open Go.RowKit Base

theorem wpList_copy_arr {P : Program} {w : World} {ops : Array Oper} {rest : List Oper} {o : Oper} {a : Act} {Q : Exit → Act → World → Prop} (hgd : o.guard = none) (d s : Operand) (dT sT : TypeId)
    (ho : o.op = .call { callee := .builtin .copy, args := #[d, s], argTypes := #[dT, sT] }) (elem : TypeId) (hu : P.underlying dT = some (.slice elem)) (hsz : (P.info? elem).map (·.size) = some 1)
    (g dLen dCap : Nat) (hd : a.eval d = .slice (some ⟨g, 0, none⟩) dLen dCap) (k : IntKind) (N M : Nat) (f : Nat → Nat) (t : TypeId) (hg : w.heap[g]? = some (.cells (arr k N f) t (0, 0)))
    (v : Value) (l : List Nat) (hs : a.eval s = v) (hv : Nums k M w v l) (hl : l.length ≤ dLen) (hN : l.length ≤ N)
    (h : ∀ w', w'.heap[g]? = some (.cells (arr k N (fun j => if j < l.length then l.getD j 0 else f j)) t (0, 0)) → Below g w w' → wpList P ops Q rest (a.put o.dst (goInt l.length)) w') :
    wpList P ops Q (o :: rest) a w := by
  obtain ⟨ad, cap, rfl, h1, h2, h3⟩ := hv.shape
  have hlen : (numCells k l).length = l.length := numCells_length k l
  have hg' : w.heap[g]? = some (.cells (arr k N f).toList.toArray t (0, 0)) := by simpa using hg
  refine wpList_copy_splice hgd d s dT sT ho elem hu hsz (some ⟨g, 0, none⟩) ad dLen dCap l.length cap hd hs g 0 (arr k N f).toList t hg' (numCells k l) (by rw [hlen]; exact (Nat.min_eq_left hl).symm) ?_ (by rw [hlen]; simp [arr_size]; exact hN) (numCells_one k l) g w (Below.refl _ _) (Nat.le_refl _) ?_
  · intro hp
    rw [hlen] at hp
    refine ⟨rfl, ?_⟩
    obtain ⟨b, off, cap', e, hb, hc⟩ := hv.cells (by intro h0; subst h0; simp at hp)
    simp only [Value.slice.injEq] at e
    refine ⟨_, e.1, ?_⟩
    intro j x hj
    have hjl : j < l.length := by
      rcases Nat.lt_or_ge j l.length with h | h
      · exact h
      · rw [List.getElem?_eq_none (by rw [hlen]; exact h)] at hj; simp at hj
    rw [numCells_at k l j hjl] at hj
    rw [show ((⟨b, off, none⟩ : Addr).add j) = ⟨b, off + j, none⟩ from by unfold Addr.add; split <;> simp_all, hc j hjl]; exact hj
  · intro w' hw' hb'
    rw [hlen]
    refine h w' ?_ hb'
    rw [hw'.out]
    congr 2
    apply Array.ext_getElem?
    intro j
    simp only [splice, List.take_zero, List.nil_append, Nat.zero_add, hlen, List.getElem?_toArray]
    by_cases hjN : j < N
    · rw [arr_at _ _ _ _ hjN]
      by_cases hjl : j < l.length
      · rw [List.getElem?_append_left (by rw [hlen]; exact hjl), numCells_at k l j hjl, if_pos hjl, List.getD_eq_getElem?_getD, List.getElem?_eq_getElem hjl]; rfl
      · rw [List.getElem?_append_right (by rw [hlen]; omega), hlen, if_neg hjl, List.getElem?_drop, show l.length + (j - l.length) = j from by omega, arr_toList]
        simp [hjN]
    · rw [Array.getElem?_eq_none (by rw [arr_size]; omega)]
      exact List.getElem?_eq_none (by rw [List.length_append, hlen, List.length_drop, arr_toList]; simp; omega)

/-- a part of a row of numbers, read as a slice -/
theorem nums_arr (k : IntKind) (M : Nat) {w : World} {g : Nat} {N : Nat} {f : Nat → Nat} {t : TypeId} {fr : Nat × Nat} (hg : w.heap[g]? = some (.cells (arr k N f) t fr)) (off n cap : Nat) (hn : off + n ≤ N) (hc : n ≤ cap) (hcm : cap ≤ maxLen) (hx : ∀ i, f i < M) :
    Nums k M w (.slice (some ⟨g, off, none⟩) n cap) ((List.range n).map fun i => f (off + i)) where
  shape := ⟨some ⟨g, off, none⟩, cap, by simp, by simpa using hc, hcm, fun e => by simp at e⟩
  bound := by intro x hx'; simp only [List.mem_map] at hx'; obtain ⟨i, _, rfl⟩ := hx'; exact hx _
  cells := fun hne => ⟨g, off, cap, by simp, lt_of_heap hg, fun i hi => by
    rw [cell_of_row w g _ _ _ _ hg]
    simp only [List.length_map, List.length_range] at hi
    rw [arr_at _ _ _ _ (by omega)]
    simp⟩
end Go.Proofs.Ytmdhekpfkligiaa.Num
