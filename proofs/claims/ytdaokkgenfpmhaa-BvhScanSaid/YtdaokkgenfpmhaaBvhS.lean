/- slices.SortFunc over a part of the order, by the kit's contract. -/
import Derived.Test.YtdaokkgenfpmhaaBvhP
import Derived.Test.YtdaokkgenfpmhaaSortP
set_option linter.unusedVariables false
set_option linter.unusedSimpArgs false
namespace Go.Proofs.Ytdaokkgenfpmhaa.BvhS
open Go Go.RowKit Go.Sort Go.Lib FixM Base Num VecW MeshM Rec MeshA MeshP HitM BvhM BvhA BvhB
section
variable {n : Nat}
/-- the comparison of shapes -/
def cfN (ax : Nat) (bs : List Bx) (x y : Fin (n + 1)) : Int := cfB ax bs x.val y.val
def kN (ax : Nat) (bs : List Bx) (x : Fin (n + 1)) : Int := keyB ax (bs.getD x.val zeroB)
theorem lt_iff (ax : Nat) (bs : List Bx) (x y : Fin (n + 1)) : ltOf (cfN ax bs) x y = true ↔ (kN ax bs x < kN ax bs y ∨ (kN ax bs x = kN ax bs y ∧ x.val < y.val)) := by
  unfold ltOf cfN cfB orF cmpF kN
  rw [decide_eq_true_iff]
  generalize keyB ax (bs.getD x.val zeroB) = a
  generalize keyB ax (bs.getD y.val zeroB) = b
  by_cases h1 : a < b
  · simp [h1]
  · by_cases h2 : b < a
    · simp [h1, h2]; omega
    · have e : a = b := by omega
      subst e
      by_cases h3 : x.val < y.val
      · simp [h3]
      · by_cases h4 : y.val < x.val
        · simp [h3, h4]
        · simp [h3, h4]
theorem lt_not (ax : Nat) (bs : List Bx) (x y : Fin (n + 1)) : ltOf (cfN ax bs) x y = false ↔ ¬ (kN ax bs x < kN ax bs y ∨ (kN ax bs x = kN ax bs y ∧ x.val < y.val)) := by
  rw [← lt_iff, Bool.not_eq_true]
theorem swoN (ax : Nat) (bs : List Bx) : SWO (ltOf (cfN (n := n) ax bs)) where
  irrefl x := by rw [lt_not]; omega
  trans x y z h1 h2 := by rw [lt_iff] at *; omega
  ntrans x y z h1 h2 := by rw [lt_not] at *; omega
theorem totN (ax : Nat) (bs : List Bx) (x y : Fin (n + 1)) (h1 : ltOf (cfN ax bs) x y = false) (h2 : ltOf (cfN ax bs) y x = false) : x = y := by
  rw [lt_not] at *
  exact Fin.ext (by omega)
theorem ge_le (ax : Nat) (bs : List Bx) (x y : Fin (n + 1)) : (!(ltOf (cfN ax bs) y x)) = leN ax bs x.val y.val := by
  cases h : ltOf (cfN ax bs) y x with
  | true =>
    rw [lt_iff] at h
    unfold kN at h
    unfold leN
    simp only [Bool.not_true]
    symm
    rw [Bool.or_eq_false_iff, Bool.and_eq_false_iff]
    simp only [decide_eq_false_iff_not]
    omega
  | false =>
    rw [lt_not] at h
    unfold kN at h
    unfold leN
    simp only [Bool.not_false]
    symm
    rw [Bool.or_eq_true, Bool.and_eq_true]
    simp only [decide_eq_true_eq]
    omega
theorem sorted_val (ax : Nat) (bs : List Bx) (d : List (Fin (n + 1))) : ((d.mergeSort fun x y => !(ltOf (cfN ax bs)) y x).map Fin.val) = (d.map Fin.val).mergeSort (leN ax bs) :=
  List.map_mergeSort (fun a _ b _ => ge_le ax bs a b)
abbrev encFin (x : Fin (n + 1)) : Value := .int .i64 ((x.val : Nat) : Int)
theorem one_encFin : OneCell (encFin (n := n)) := fun _ => rfl
/-- the world that a sort leaves: one block alone has turned -/
theorem sort_keeps (w : World) (blk off m : Nat) (dk : Array (Fin (n + 1))) (os : Array Obj) : Keeps (fun k => k = blk) w (sortWorld encFin w blk off m dk os) where
  os := rfl
  tape := rfl
  output := rfl
  size := by unfold sortWorld; simp only [size_grow]; show _ ≤ (w.heap.modify blk _).size + _; rw [Array.size_modify]; omega
  block := fun k hk hn => by
    unfold sortWorld
    have e : (putRow encFin (Sort.ahead w m) blk off dk).heap[k]? = w.heap[k]? := by
      show (w.heap.modify blk _)[k]? = _
      rw [Array.getElem?_modify, if_neg (fun e => hn e.symm)]
    rw [heap_grow_old _ _ (by show k < (w.heap.modify blk _).size; rw [Array.size_modify]; exact hk), e]
theorem sort_row {w : World} {blk : Nat} {cur : Array Value} {E : TypeId} {fr : Nat × Nat} (h : w.heap[blk]? = some (.cells cur E fr)) (off m : Nat) (dk : Array (Fin (n + 1))) (os : Array Obj) : (sortWorld encFin w blk off m dk os).heap[blk]? = some (.cells (putCells encFin off dk cur) E fr) := by
  have hk := Base.lt_of_heap h
  unfold sortWorld
  rw [heap_grow_old _ _ (by show blk < (w.heap.modify blk _).size; rw [Array.size_modify]; exact hk)]
  show (w.heap.modify blk _)[blk]? = _
  rw [Array.getElem?_modify, if_pos rfl, h]
  rfl
end
theorem own_seg {n N E base : Nat} {w w' : World} {v : Value} {l : List Nat} (h : Own .i64 N E base w v l) (blk cap : Nat) (hv : v = .slice (some ⟨blk, 0, none⟩) l.length cap) (f : Nat) (dk : Array (Fin (n + 1))) (hf : f + dk.size ≤ l.length) (hN : n < N)
    (m : Nat) (os : Array Obj) (hw : w' = sortWorld encFin w blk f m dk os) : Own .i64 N E base w' v (putSeg l f (dk.toList.map Fin.val)) := by
  have hsl : (dk.toList.map Fin.val).length = dk.size := by simp
  refine ⟨⟨?_, ?_⟩, ?_⟩
  · rw [putSeg_length _ _ _ (by rw [hsl]; exact hf)]; simp [numCells, putSeg_length _ _ _ (show f + (dk.toList.map Fin.val).length ≤ l.length by rw [hsl]; exact hf)]
  · rcases h.row.2 with ⟨e, h0⟩ | ⟨g, cp, cur, e, hbg, hg, h1, h2, h3, h4⟩
    · rw [e] at hv; simp at hv
    · rw [e] at hv
      simp only [Value.slice.injEq, Option.some.injEq, Addr.mk.injEq, and_true] at hv
      obtain ⟨rfl, -, rfl⟩ := hv
      refine .inr ⟨g, cp, putCells encFin f dk cur, by rw [putSeg_length _ _ _ (by rw [hsl]; exact hf)]; exact e, hbg, by rw [hw]; exact sort_row hg f m dk os, by rw [putSeg_length _ _ _ (by rw [hsl]; exact hf)]; exact h1, h2, by unfold putCells; rw [Array.size_mapIdx]; exact h3, ?_⟩
      rw [putSeg_length _ _ _ (by rw [hsl]; exact hf)]
      apply List.ext_getElem?
      intro k
      have hcell : ∀ k, k < l.length → cur[k]? = some (.int .i64 ((l.getD k 0 : Nat) : Int)) := by
        intro k hk
        have : (cur.toList.take (l.length * 1))[k]? = (numCells .i64 l)[k]? := by rw [h4]
        rw [List.getElem?_take_of_lt (by omega), numCells_at .i64 l k hk] at this
        rw [← Array.getElem?_toList, this]
        simp [hk]
      by_cases hk : k < l.length
      · rw [List.getElem?_take_of_lt (by omega)]
        have hr : (numCells .i64 (putSeg l f (dk.toList.map Fin.val)))[k]? = ((putSeg l f (dk.toList.map Fin.val))[k]?).map (fun (x : Nat) => Value.int .i64 (x : Int)) := by unfold numCells; rw [List.getElem?_map]
        rw [hr, putSeg_at _ _ _ (by rw [hsl]; exact hf), hsl, Array.getElem?_toList]
        unfold putCells
        rw [Array.getElem?_mapIdx, hcell k hk]
        by_cases hb : f ≤ k ∧ k < f + dk.size
        · rw [if_pos hb, Option.map_some, if_pos hb]
          have hlt : k - f < dk.size := by omega
          rw [List.getElem?_map, Array.getElem?_toList, Array.getElem?_eq_getElem hlt, getElem!_pos dk (k - f) hlt]
          rfl
        · rw [if_neg hb, Option.map_some, if_neg hb, List.getElem?_eq_getElem hk]
          simp [hk]
      · rw [List.getElem?_eq_none (by simp; omega), List.getElem?_eq_none (by simp [numCells, putSeg_length _ _ _ (show f + (dk.toList.map Fin.val).length ≤ l.length by rw [hsl]; exact hf)]; omega)]
  · intro x hx
    unfold putSeg at hx
    simp only [List.mem_append] at hx
    rcases hx with (hx | hx) | hx
    · exact h.bound x (List.mem_of_mem_take hx)
    · obtain ⟨y, -, rfl⟩ := List.mem_map.1 hx; have := y.isLt; omega
    · exact h.bound x (List.mem_of_mem_drop hx)
end Go.Proofs.Ytdaokkgenfpmhaa.BvhS
