/- slices.SortFunc over a part of the order: what layer 14's sort calls. -/
import Derived.Test.YtdaokkgenfpmhaaBvhS
set_option linter.unusedVariables false
set_option linter.unusedSimpArgs false
namespace Go.Proofs.Ytdaokkgenfpmhaa.BvhT
open Go Go.RowKit Go.Sort Go.Lib FixM Base Num VecW MeshM Rec MeshA MeshP HitM BvhM BvhA BvhB BvhS
theorem _root_.Go.Proofs.Ytdaokkgenfpmhaa.BvhB.KeyAt.frame {W W' : World} {F : FuncId} {gK gP gM : Nat} {vb : Value} {bs : List Bx} {S : Nat → Prop} (h : KeyAt W F gK gP gM vb bs) (hk : Keeps S W W') (nK : ¬ S gK) (nP : ¬ S gP) (nM : ¬ S gM) (nb : ∀ b, vb.ownBlock = some b → ¬ S b) : KeyAt W' F gK gP gM vb bs :=
  ⟨(World.cell?_of_block (a := ⟨gK, 0, none⟩) (hk.block gK h.lk nK)).trans h.k, (World.cell?_of_block (a := ⟨gP, 0, none⟩) (hk.block gP h.lp nP)).trans h.p, (World.cell?_of_block (a := ⟨gM, 1, none⟩) (hk.block gM h.lm nM)).trans h.m, h.b.frame hk nb,
   Nat.lt_of_lt_of_le h.lk hk.size, Nat.lt_of_lt_of_le h.lp hk.size, Nat.lt_of_lt_of_le h.lm hk.size⟩
/-- the numbers of a part, as numbers below n + 1 -/
def finL (n : Nat) (l : List Nat) : List (Fin (n + 1)) := l.map fun i => Fin.ofNat (n + 1) i
theorem finL_val (n : Nat) (l : List Nat) (h : ∀ i ∈ l, i < n + 1) : (finL n l).map Fin.val = l := by
  unfold finL
  rw [List.map_map]
  conv => rhs; rw [← List.map_id l]
  apply List.map_congr_left
  intro i hi
  show i % (n + 1) = i
  exact Nat.mod_eq_of_lt (h i hi)
theorem holds_seg {N E base : Nat} {w : World} {blk cap : Nat} {l : List Nat} (h : Own .i64 N E base w (.slice (some ⟨blk, 0, none⟩) l.length cap) l) (f t n : Nat) (hft : f < t) (ht : t ≤ l.length) (hn : ∀ i ∈ l, i < n + 1) :
    Holds encFin w blk f (finL n ((l.drop f).take (t - f))).toArray := by
  obtain ⟨g, cp, e, _, _, _, hc, hf, _⟩ := h.at_ (by omega)
  simp only [Value.slice.injEq, Option.some.injEq, Addr.mk.injEq, and_true, true_and] at e
  obtain ⟨rfl, -⟩ := e
  intro j hj
  refine ⟨?_, hf _⟩
  have hj2 : j < t - f := by simp [finL] at hj; omega
  rw [hc (f + j) (by omega)]
  have hsz : j < (finL n ((l.drop f).take (t - f))).toArray.size := hj
  rw [getElem!_pos _ j hsz]
  have hv : ((finL n ((l.drop f).take (t - f))).toArray[j]).val = l[f + j]'(by omega) := by
    simp only [finL, List.getElem_toArray, List.getElem_map, List.getElem_take, List.getElem_drop]
    show l[f + j] % (n + 1) = l[f + j]
    exact Nat.mod_eq_of_lt (hn _ (List.getElem_mem _))
  unfold encFin
  rw [hv]

set_option maxRecDepth 100000 in
set_option maxHeartbeats 4000000 in
theorem sortFunc0_any (base gK gP gM blk cap : Nat) (vb : Value) (bs : List Bx) (l : List Nat) (w : World) (h : KeyAt w 49 gK gP gM vb bs) (ok : ∀ b ∈ bs, HitM.Bx.ok b) (ho : Own .i64 9223372036854775808 3 base w (.slice (some ⟨blk, 0, none⟩) l.length cap) l)
    (hl : ∀ i ∈ l, i < bs.length) (hb : bs.length ≤ 4611686018427387903) (hll : l.length ≤ 4611686018427387903) (f t c : Nat) (hft : f < t) (ht : t ≤ l.length) (nK : gK ≠ blk) (nP : gP ≠ blk) (nM : gM ≠ blk) (nb : vb.ownBlock ≠ some blk) :
    Calls Try.prog 52 #[.slice (some ⟨blk, f, none⟩) (t - f) c, .func (.func 53) #[] #[.pointer (some ⟨gK, 0, none⟩)]] w (fun e w' => e = .returned (.tuple #[]) ∧ Own .i64 9223372036854775808 3 base w' (.slice (some ⟨blk, 0, none⟩) l.length cap) (putSeg l f (((l.drop f).take (t - f)).mergeSort (leN 0 bs))) ∧ Keeps (fun k => k = blk) w w') := by
  obtain ⟨n, hn⟩ : ∃ n, bs.length = n + 1 := ⟨bs.length - 1, by have := hl l[f] (List.getElem_mem (by omega)); omega⟩
  have hl2 : ∀ i ∈ l, i < n + 1 := fun i hi => by have := hl i hi; omega
  have hseg : ∀ i ∈ (l.drop f).take (t - f), i < n + 1 := fun i hi => hl2 i (List.mem_of_mem_drop (List.mem_of_mem_take hi))
  have hH := holds_seg ho f t n hft ht hl2
  have hsz : (finL n ((l.drop f).take (t - f))).toArray.size = t - f := by simp [finL]; omega
  have hblk : blk < w.heap.size := (ho.lt blk rfl).2
  have eg : ∀ args w, (callFunc 53 args).run Try.prog w = .ok (.enter 53 args) w := enters_of Try.func53 (by kernel_rfl) rfl
  have hcmp : CmpLays1 Try.prog 53 #[.pointer (some ⟨gK, 0, none⟩)] encFin (cfN (n := n) 0 bs) blk f (finL n ((l.drop f).take (t - f))).toArray.size w := by
    intro m os dk hs x y
    have hk := h.frame (sort_keeps w blk f m dk os) nK nP nM (fun b hb e => nb (e ▸ hb))
    exact cmp0_any gK gP gM vb bs _ hk ok x.val y.val (by rw [hn]; exact x.isLt) (by rw [hn]; exact y.isLt)
  have hS := Any.slices_SortFunc_total Try.sortL (encFin (n := n)) one_encFin (cfN 0 bs) (swoN 0 bs) 53 #[.pointer (some ⟨gK, 0, none⟩)] blk f c (finL n ((l.drop f).take (t - f))).toArray w eg hcmp hH hblk (by rw [hsz]; omega) (totN 0 bs)
  rw [hsz] at hS
  change Calls Try.prog 52 _ _ _ at hS
  refine hS.mono ?_
  rintro e w' ⟨rfl, m, os, hw⟩
  have hv : (((finL n ((l.drop f).take (t - f))).toArray.toList.mergeSort fun x y => !(ltOf (cfN 0 bs)) y x).toArray.toList.map Fin.val) = ((l.drop f).take (t - f)).mergeSort (leN 0 bs) := by
    rw [List.toList_toArray, List.toList_toArray, sorted_val, finL_val n _ hseg]
  have hz2 : ((finL n ((l.drop f).take (t - f))).toArray.toList.mergeSort fun x y => !(ltOf (cfN 0 bs)) y x).toArray.size = t - f := by
    rw [List.size_toArray, List.length_mergeSort, ← Array.size_eq_length_toList, hsz]
  have := own_seg ho blk cap rfl f _ (by rw [hz2]; omega) (by omega) m os hw
  rw [hv] at this
  exact ⟨rfl, this, by rw [hw]; exact sort_keeps w blk f m _ os⟩

set_option maxRecDepth 100000 in
set_option maxHeartbeats 4000000 in
theorem sortFunc1_any (base gK gP gM blk cap : Nat) (vb : Value) (bs : List Bx) (l : List Nat) (w : World) (h : KeyAt w 50 gK gP gM vb bs) (ok : ∀ b ∈ bs, HitM.Bx.ok b) (ho : Own .i64 9223372036854775808 3 base w (.slice (some ⟨blk, 0, none⟩) l.length cap) l)
    (hl : ∀ i ∈ l, i < bs.length) (hb : bs.length ≤ 4611686018427387903) (hll : l.length ≤ 4611686018427387903) (f t c : Nat) (hft : f < t) (ht : t ≤ l.length) (nK : gK ≠ blk) (nP : gP ≠ blk) (nM : gM ≠ blk) (nb : vb.ownBlock ≠ some blk) :
    Calls Try.prog 52 #[.slice (some ⟨blk, f, none⟩) (t - f) c, .func (.func 53) #[] #[.pointer (some ⟨gK, 0, none⟩)]] w (fun e w' => e = .returned (.tuple #[]) ∧ Own .i64 9223372036854775808 3 base w' (.slice (some ⟨blk, 0, none⟩) l.length cap) (putSeg l f (((l.drop f).take (t - f)).mergeSort (leN 1 bs))) ∧ Keeps (fun k => k = blk) w w') := by
  obtain ⟨n, hn⟩ : ∃ n, bs.length = n + 1 := ⟨bs.length - 1, by have := hl l[f] (List.getElem_mem (by omega)); omega⟩
  have hl2 : ∀ i ∈ l, i < n + 1 := fun i hi => by have := hl i hi; omega
  have hseg : ∀ i ∈ (l.drop f).take (t - f), i < n + 1 := fun i hi => hl2 i (List.mem_of_mem_drop (List.mem_of_mem_take hi))
  have hH := holds_seg ho f t n hft ht hl2
  have hsz : (finL n ((l.drop f).take (t - f))).toArray.size = t - f := by simp [finL]; omega
  have hblk : blk < w.heap.size := (ho.lt blk rfl).2
  have eg : ∀ args w, (callFunc 53 args).run Try.prog w = .ok (.enter 53 args) w := enters_of Try.func53 (by kernel_rfl) rfl
  have hcmp : CmpLays1 Try.prog 53 #[.pointer (some ⟨gK, 0, none⟩)] encFin (cfN (n := n) 1 bs) blk f (finL n ((l.drop f).take (t - f))).toArray.size w := by
    intro m os dk hs x y
    have hk := h.frame (sort_keeps w blk f m dk os) nK nP nM (fun b hb e => nb (e ▸ hb))
    exact cmp1_any gK gP gM vb bs _ hk ok x.val y.val (by rw [hn]; exact x.isLt) (by rw [hn]; exact y.isLt)
  have hS := Any.slices_SortFunc_total Try.sortL (encFin (n := n)) one_encFin (cfN 1 bs) (swoN 1 bs) 53 #[.pointer (some ⟨gK, 0, none⟩)] blk f c (finL n ((l.drop f).take (t - f))).toArray w eg hcmp hH hblk (by rw [hsz]; omega) (totN 1 bs)
  rw [hsz] at hS
  change Calls Try.prog 52 _ _ _ at hS
  refine hS.mono ?_
  rintro e w' ⟨rfl, m, os, hw⟩
  have hv : (((finL n ((l.drop f).take (t - f))).toArray.toList.mergeSort fun x y => !(ltOf (cfN 1 bs)) y x).toArray.toList.map Fin.val) = ((l.drop f).take (t - f)).mergeSort (leN 1 bs) := by
    rw [List.toList_toArray, List.toList_toArray, sorted_val, finL_val n _ hseg]
  have hz2 : ((finL n ((l.drop f).take (t - f))).toArray.toList.mergeSort fun x y => !(ltOf (cfN 1 bs)) y x).toArray.size = t - f := by
    rw [List.size_toArray, List.length_mergeSort, ← Array.size_eq_length_toList, hsz]
  have := own_seg ho blk cap rfl f _ (by rw [hz2]; omega) (by omega) m os hw
  rw [hv] at this
  exact ⟨rfl, this, by rw [hw]; exact sort_keeps w blk f m _ os⟩

set_option maxRecDepth 100000 in
set_option maxHeartbeats 4000000 in
theorem sortFunc2_any (base gK gP gM blk cap : Nat) (vb : Value) (bs : List Bx) (l : List Nat) (w : World) (h : KeyAt w 51 gK gP gM vb bs) (ok : ∀ b ∈ bs, HitM.Bx.ok b) (ho : Own .i64 9223372036854775808 3 base w (.slice (some ⟨blk, 0, none⟩) l.length cap) l)
    (hl : ∀ i ∈ l, i < bs.length) (hb : bs.length ≤ 4611686018427387903) (hll : l.length ≤ 4611686018427387903) (f t c : Nat) (hft : f < t) (ht : t ≤ l.length) (nK : gK ≠ blk) (nP : gP ≠ blk) (nM : gM ≠ blk) (nb : vb.ownBlock ≠ some blk) :
    Calls Try.prog 52 #[.slice (some ⟨blk, f, none⟩) (t - f) c, .func (.func 53) #[] #[.pointer (some ⟨gK, 0, none⟩)]] w (fun e w' => e = .returned (.tuple #[]) ∧ Own .i64 9223372036854775808 3 base w' (.slice (some ⟨blk, 0, none⟩) l.length cap) (putSeg l f (((l.drop f).take (t - f)).mergeSort (leN 2 bs))) ∧ Keeps (fun k => k = blk) w w') := by
  obtain ⟨n, hn⟩ : ∃ n, bs.length = n + 1 := ⟨bs.length - 1, by have := hl l[f] (List.getElem_mem (by omega)); omega⟩
  have hl2 : ∀ i ∈ l, i < n + 1 := fun i hi => by have := hl i hi; omega
  have hseg : ∀ i ∈ (l.drop f).take (t - f), i < n + 1 := fun i hi => hl2 i (List.mem_of_mem_drop (List.mem_of_mem_take hi))
  have hH := holds_seg ho f t n hft ht hl2
  have hsz : (finL n ((l.drop f).take (t - f))).toArray.size = t - f := by simp [finL]; omega
  have hblk : blk < w.heap.size := (ho.lt blk rfl).2
  have eg : ∀ args w, (callFunc 53 args).run Try.prog w = .ok (.enter 53 args) w := enters_of Try.func53 (by kernel_rfl) rfl
  have hcmp : CmpLays1 Try.prog 53 #[.pointer (some ⟨gK, 0, none⟩)] encFin (cfN (n := n) 2 bs) blk f (finL n ((l.drop f).take (t - f))).toArray.size w := by
    intro m os dk hs x y
    have hk := h.frame (sort_keeps w blk f m dk os) nK nP nM (fun b hb e => nb (e ▸ hb))
    exact cmp2_any gK gP gM vb bs _ hk ok x.val y.val (by rw [hn]; exact x.isLt) (by rw [hn]; exact y.isLt)
  have hS := Any.slices_SortFunc_total Try.sortL (encFin (n := n)) one_encFin (cfN 2 bs) (swoN 2 bs) 53 #[.pointer (some ⟨gK, 0, none⟩)] blk f c (finL n ((l.drop f).take (t - f))).toArray w eg hcmp hH hblk (by rw [hsz]; omega) (totN 2 bs)
  rw [hsz] at hS
  change Calls Try.prog 52 _ _ _ at hS
  refine hS.mono ?_
  rintro e w' ⟨rfl, m, os, hw⟩
  have hv : (((finL n ((l.drop f).take (t - f))).toArray.toList.mergeSort fun x y => !(ltOf (cfN 2 bs)) y x).toArray.toList.map Fin.val) = ((l.drop f).take (t - f)).mergeSort (leN 2 bs) := by
    rw [List.toList_toArray, List.toList_toArray, sorted_val, finL_val n _ hseg]
  have hz2 : ((finL n ((l.drop f).take (t - f))).toArray.toList.mergeSort fun x y => !(ltOf (cfN 2 bs)) y x).toArray.size = t - f := by
    rw [List.size_toArray, List.length_mergeSort, ← Array.size_eq_length_toList, hsz]
  have := own_seg ho blk cap rfl f _ (by rw [hz2]; omega) (by omega) m os hw
  rw [hv] at this
  exact ⟨rfl, this, by rw [hw]; exact sort_keeps w blk f m _ os⟩

end Go.Proofs.Ytdaokkgenfpmhaa.BvhT
