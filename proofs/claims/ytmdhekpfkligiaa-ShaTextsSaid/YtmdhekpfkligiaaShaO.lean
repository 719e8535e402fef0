/- The walk of package sha: Of. -/
import Derived.Test.YtmdhekpfkligiaaShaB
import Derived.Test.YtmdhekpfkligiaaArrB
set_option linter.unusedVariables false
set_option linter.unusedSimpArgs false
namespace Go.Proofs.Ytmdhekpfkligiaa.ShaO
open Go.RowKit ShaM Base Num ShaW ShaP ShaK ShaB

def h0 : S8 := ⟨hT 0, hT 1, hT 2, hT 3, hT 4, hT 5, hT 6, hT 7⟩
theorem h0_at : arr .u32 8 hT = arr .u32 8 h0.at := by
  apply arr_congr
  intro i hi
  rcases (show i = 0 ∨ i = 1 ∨ i = 2 ∨ i = 3 ∨ i = 4 ∨ i = 5 ∨ i = 6 ∨ i = 7 from by omega) with rfl | rfl | rfl | rfl | rfl | rfl | rfl | rfl <;> rfl
theorem hT_lt (i : Nat) : hT i < 4294967296 := Nat.mod_lt _ (by omega)
theorem kT_lt (i : Nat) : kT i < 4294967296 := Nat.mod_lt _ (by omega)
theorem h0_ok : h0.ok := ⟨hT_lt _, hT_lt _, hT_lt _, hT_lt _, hT_lt _, hT_lt _, hT_lt _, hT_lt _⟩
/-- the hash of bytes -/
def hash (l : List Nat) : List Nat := hashBytes (blocks kT (padded l) h0 ((l.length + 9 + 63) / 64))

theorem getD_append_left' (l m : List Nat) (i : Nat) (h : i < l.length) : (l ++ m).getD i 0 = l.getD i 0 := by
  rw [List.getD_eq_getElem?_getD, List.getD_eq_getElem?_getD, List.getElem?_append_left h]
theorem getD_append_right' (l m : List Nat) (i : Nat) (h : l.length ≤ i) : (l ++ m).getD i 0 = m.getD (i - l.length) 0 := by
  rw [List.getD_eq_getElem?_getD, List.getD_eq_getElem?_getD, List.getElem?_append_right h]
theorem padded_first (l : List Nat) (i : Nat) (h : i < l.length) : (padded l).getD i 0 = l.getD i 0 := by
  unfold padded
  rw [getD_append_left' _ _ _ (by simp; omega), getD_append_left' _ _ _ (by simp; omega), getD_append_left' _ _ _ h]
theorem padded_mark (l : List Nat) : (padded l).getD l.length 0 = 128 := by
  unfold padded
  rw [getD_append_left' _ _ _ (by simp), getD_append_left' _ _ _ (by simp), getD_append_right' _ _ _ (Nat.le_refl _), Nat.sub_self]; rfl
theorem padded_zero (l : List Nat) (i : Nat) (h : l.length < i) (h2 : i < l.length + 1 + zerosOf l.length) : (padded l).getD i 0 = 0 := by
  unfold padded
  rw [getD_append_left' _ _ _ (by simp; omega), getD_append_right' _ _ _ (by simp; omega), List.getD_eq_getElem?_getD, List.getElem?_replicate]
  split <;> rfl
theorem padded_size (l : List Nat) (i : Nat) (h : l.length + 1 + zerosOf l.length ≤ i) (h2 : i < l.length + 9 + zerosOf l.length) (hl : l.length ≤ 140737488355328) : (padded l).getD i 0 = l.length * 8 / 2 ^ (8 * (l.length + 8 + zerosOf l.length - i)) % 256 := by
  unfold padded
  rw [getD_append_right' _ _ _ (by simp; omega), List.getD_eq_getElem?_getD]
  have e : i - (l ++ [128] ++ List.replicate (zerosOf l.length) 0).length < 8 := by simp; omega
  unfold sizeBytes
  rw [List.getElem?_map, List.getElem?_range e]
  simp only [Option.map_some, Option.getD_some, List.length_append, List.length_singleton, List.length_replicate]
  rw [Nat.mod_eq_of_lt (a := 8 * l.length) (by omega), Nat.mul_comm 8 l.length]
  congr 3
  omega
/-- the rest and the padding: how many bytes, and which -/
theorem padded_len (l : List Nat) (q : Nat) (hq : q = l.length / 64) : l.length + 9 + zerosOf l.length = 64 * q + (if 64 < l.length - 64 * q + 9 then 128 else 64) ∧ (l.length + 9 + 63) / 64 = q + (if 64 < l.length - 64 * q + 9 then 2 else 1) := by
  unfold zerosOf
  split <;> constructor <;> omega
theorem zero128 (w : World) : (zeroValue 41).run Try.prog w = .ok (.agg (arr .u8 128 (fun _ => 0))) w := by kernel_rfl
theorem size_u8 : (Try.prog.info? 5).map (·.size) = some 1 := by kernel_rfl
def tailF (l : List Nat) (q size i j : Nat) : Nat := if j < size ∧ (j < size - 8 ∨ size - i ≤ j) then (padded l).getD (64 * q + j) 0 else 0
theorem tail_start (l : List Nat) (q size m : Nat) (hm : m = l.length - 64 * q) (hq : q = l.length / 64) (hsz : l.length + 9 + zerosOf l.length = 64 * q + size) (j : Nat) (h8 : 8 ≤ size) :
    (if j = m then 128 else if j < (l.drop (64 * q)).length then (l.drop (64 * q)).getD j 0 else 0) = tailF l q size 0 j := by
  unfold tailF
  rw [List.length_drop, List.getD_eq_getElem?_getD, List.getElem?_drop, ← List.getD_eq_getElem?_getD]
  by_cases h1 : j = m
  · rw [if_pos h1, if_pos (by omega), show 64 * q + j = l.length from by omega, padded_mark]
  · rw [if_neg h1]
    by_cases h2 : j < l.length - 64 * q
    · rw [if_pos h2, if_pos (by omega), padded_first l _ (by omega)]
    · rw [if_neg h2]
      split
      · rw [padded_zero l _ (by omega) (by omega)]
      · rfl
theorem tail_next (l : List Nat) (q size i : Nat) (hi : i < 8) (hsz : l.length + 9 + zerosOf l.length = 64 * q + size) (h8 : 8 ≤ size) (hl : l.length ≤ 140737488355328) (j : Nat) :
    (if j = size - 1 - i then l.length * 8 / 2 ^ (8 * i) % 256 else tailF l q size i j) = tailF l q size (i + 1) j := by
  unfold tailF
  by_cases h1 : j = size - 1 - i
  · rw [if_pos h1, if_pos (by omega), padded_size l _ (by omega) (by omega) hl]
    congr 3; omega
  · rw [if_neg h1]
    by_cases h2 : j < size ∧ (j < size - 8 ∨ size - i ≤ j)
    · rw [if_pos h2, if_pos (by omega)]
    · rw [if_neg h2, if_neg (by omega)]
theorem tail_end (l : List Nat) (q size j : Nat) (h : j < size) : tailF l q size 8 j = (padded l).getD (64 * q + j) 0 := by
  unfold tailF; rw [if_pos (by omega)]
theorem padded_lt (l : List Nat) (hl : ∀ x ∈ l, x < 256) (i : Nat) : (padded l).getD i 0 < 256 := by
  have h : ∀ x ∈ padded l, x < 256 := by
    intro x hx
    simp only [padded, List.mem_append, List.mem_singleton, List.mem_replicate, sizeBytes, List.mem_map] at hx
    rcases hx with ((hx | rfl) | ⟨-, rfl⟩) | ⟨i, -, rfl⟩
    · exact hl x hx
    · omega
    · omega
    · exact Nat.mod_lt _ (by omega)
  rw [List.getD_eq_getElem?_getD]
  by_cases hj : i < (padded l).length
  · rw [List.getElem?_eq_getElem hj]; exact h _ (List.getElem_mem hj)
  · rw [List.getElem?_eq_none (by omega)]; simp
theorem tailF_lt (l : List Nat) (hl : ∀ x ∈ l, x < 256) (q size i j : Nat) : tailF l q size i j < 256 := by
  unfold tailF; split
  · exact padded_lt l hl _
  · omega

/-- what stands while bytes are gone through: the answer's place, K, the numbers H -/
structure Of (w wr : World) (kk gh : Nat) (s : S8) : Prop where
  hz : wr.heap[w.heap.size]? = some (.cells (arr .u8 32 (fun _ => 0)) 23 (0, 0))
  hk : wr.heap[kk]? = some (.cells (arr .u32 64 kT) 34 (0, 0))
  hh : wr.heap[gh]? = some (.cells (arr .u32 8 s.at) 37 (0, 0))
  ok : s.ok
  lk : w.heap.size + 1 ≤ kk
  lh : kk + 1 ≤ gh
  below : Below w.heap.size w wr
theorem Of.step {w wr w1 : World} {kk gh : Nat} {s s2 : S8} (h : Of w wr kk gh s) (h2 : s2.ok) (hb : Below wr.heap.size wr w1) : Of w (w1.setRow gh (arr .u32 8 s2.at)) kk gh s2 := by
  have l1 := h.lk; have l2 := h.lh
  have e1 := lt_of_heap h.hz; have e2 := lt_of_heap h.hk; have e3 := lt_of_heap h.hh
  refine ⟨?_, ?_, setRow_heap _ _ _ _ _ _ ((hb.block _ e3).trans h.hh), h2, l1, l2, below_setRow_new (h.below.trans (hb.mono h.below.size)) (by omega) _⟩
  · rw [setRow_other _ _ _ _ (by omega)]; exact (hb.block _ e1).trans h.hz
  · rw [setRow_other _ _ _ _ (by omega)]; exact (hb.block _ e2).trans h.hk
theorem arr8 (s : S8) : arr .u32 8 s.at = #[.int .u32 (s.a : Int), .int .u32 (s.b : Int), .int .u32 (s.c : Int), .int .u32 (s.d : Int), .int .u32 (s.e : Int), .int .u32 (s.f : Int), .int .u32 (s.g : Int), .int .u32 (s.h : Int)] := by unfold arr; rfl
theorem block_lit (s : S8) (hs : s.ok) (K : Nat → Nat) (hK : ∀ i, i < 64 → K i < 4294967296) (kk : Nat) (w : World) (hk : w.heap[kk]? = some (.cells (arr .u32 64 K) 34 (0, 0))) (l : List Nat) (hlen : l.length = 64) (bb off cap : Nat)
    (hb : Nums .u8 256 w (.slice (some ⟨bb, off, none⟩) 64 cap) l) :
    Calls Try.prog 16 #[.agg #[.int .u32 (s.a : Int), .int .u32 (s.b : Int), .int .u32 (s.c : Int), .int .u32 (s.d : Int), .int .u32 (s.e : Int), .int .u32 (s.f : Int), .int .u32 (s.g : Int), .int .u32 (s.h : Int)], .pointer (some ⟨kk, 0, none⟩), .slice (some ⟨bb, off, none⟩) 64 cap] w (BlockTo w (block K l 0 s)) := by
  rw [← arr8]; exact block_any s hs K hK kk w hk l hlen bb off cap hb
/-- beside it the last blocks' bytes -/
structure Ta (w wr : World) (kk gh gt : Nat) (s : S8) (F : Nat → Nat) : Prop where
  of : Of w wr kk gh s
  tail : wr.heap[gt]? = some (.cells (arr .u8 128 F) 41 (0, 0))
  lt : gh + 1 ≤ gt
theorem Ta.start {w wr w5 : World} {kk gh : Nat} {s : S8} {F : Nat → Nat} {o : Obj} (h : Of w wr kk gh s) (h5 : w5.heap[wr.heap.size]? = some (.cells (arr .u8 128 F) 41 (0, 0))) (hb : Below wr.heap.size (wr.alloc o) w5) : Ta w w5 kk gh wr.heap.size s F := by
  have e1 := lt_of_heap h.hz; have e2 := lt_of_heap h.hk; have e3 := lt_of_heap h.hh
  have hk : ∀ k, k < wr.heap.size → w5.heap[k]? = wr.heap[k]? := fun k hk => (hb.block k hk).trans (heap_alloc_old wr o hk)
  refine ⟨⟨(hk _ e1).trans h.hz, (hk _ e2).trans h.hk, (hk _ e3).trans h.hh, h.ok, h.lk, h.lh, ?_⟩, h5, e3⟩
  exact (h.below.alloc h.below.size o).trans (hb.mono h.below.size)
theorem Ta.set {w wr : World} {kk gh gt : Nat} {s : S8} {F : Nat → Nat} (h : Ta w wr kk gh gt s F) (j x : Nat) : Ta w (wr.setCell ⟨gt, j, none⟩ (.int .u8 (x : Int))) kk gh gt s (fun i => if i = j then x else F i) := by
  have l1 := h.of.lk; have l2 := h.of.lh; have l3 := h.lt
  refine ⟨⟨?_, ?_, ?_, h.of.ok, l1, l2, h.of.below.setCell (by simp; omega) _⟩, ?_, l3⟩
  · rw [heap_setCell_other _ _ _ _ (by simp; omega)]; exact h.of.hz
  · rw [heap_setCell_other _ _ _ _ (by simp; omega)]; exact h.of.hk
  · rw [heap_setCell_other _ _ _ _ (by simp; omega)]; exact h.of.hh
  · rw [heap_setCell_same _ _ _ _ _ _ h.tail, arr_set]
theorem Ta.congr {w wr : World} {kk gh gt : Nat} {s : S8} {F G : Nat → Nat} (h : Ta w wr kk gh gt s F) (e : ∀ i, i < 128 → F i = G i) : Ta w wr kk gh gt s G := ⟨h.of, by rw [← arr_congr .u8 128 F G e]; exact h.tail, h.lt⟩
theorem Ta.step {w wr w1 : World} {kk gh gt : Nat} {s s2 : S8} {F : Nat → Nat} (h : Ta w wr kk gh gt s F) (h2 : s2.ok) (hb : Below wr.heap.size wr w1) : Ta w (w1.setRow gh (arr .u32 8 s2.at)) kk gh gt s2 F :=
  ⟨h.of.step h2 hb, by have := h.lt; rw [setRow_other _ _ _ _ (by omega)]; exact (hb.block _ (lt_of_heap h.tail)).trans h.tail, h.lt⟩
theorem shr_u8 (n i : Nat) : IntKind.u8.wrap ((n : Int) / 2 ^ i) = ((n / 2 ^ i % 256 : Nat) : Int) := by
  rw [show (n : Int) / 2 ^ i = ((n / 2 ^ i : Nat) : Int) from by simp, IntKind.wrap_u8]; omega
/-- what stands while the answer is laid -/
structure Ou (w wr : World) (gq : Nat) (F : Nat → Nat) : Prop where
  hz : wr.heap[w.heap.size]? = some (.cells (arr .u8 32 (fun _ => 0)) 23 (0, 0))
  out : wr.heap[gq]? = some (.cells (arr .u8 32 F) 23 (0, 0))
  low : w.heap.size + 1 ≤ gq
  below : Below w.heap.size w wr
theorem Ou.set {w wr : World} {gq : Nat} {F : Nat → Nat} (h : Ou w wr gq F) (j x : Nat) : Ou w (wr.setCell ⟨gq, j, none⟩ (.int .u8 (x : Int))) gq (fun i => if i = j then x else F i) := by
  have l := h.low
  refine ⟨?_, ?_, l, h.below.setCell (by simp; omega) _⟩
  · rw [heap_setCell_other _ _ _ _ (by simp; omega)]; exact h.hz
  · rw [heap_setCell_same _ _ _ _ _ _ h.out, arr_set]
theorem Ou.congr {w wr : World} {gq : Nat} {F G : Nat → Nat} (h : Ou w wr gq F) (e : ∀ i, i < 32 → F i = G i) : Ou w wr gq G := ⟨h.hz, by rw [← arr_congr .u8 32 F G e]; exact h.out, h.low, h.below⟩
def hbF (s : S8) (i j : Nat) : Nat := if j < 4 * i then s.at (j / 4) / 2 ^ (24 - 8 * (j % 4)) % 256 else 0
theorem hb_next (s : S8) (hs : s.ok) (i : Nat) (hi : i < 8) (j : Nat) :
    (if j = 4 * i + 3 then s.at i % 256 else if j = 4 * i + 2 then s.at i / 256 % 256 else if j = 4 * i + 1 then s.at i / 65536 % 256 else if j = 4 * i then s.at i / 16777216 % 256 else hbF s i j) = hbF s (i + 1) j := by
  unfold hbF
  by_cases h3 : j = 4 * i + 3
  · rw [if_pos h3, if_pos (by omega), show j / 4 = i from by omega, show j % 4 = 3 from by omega]; simp
  · rw [if_neg h3]
    by_cases h2 : j = 4 * i + 2
    · rw [if_pos h2, if_pos (by omega), show j / 4 = i from by omega, show j % 4 = 2 from by omega]
    · rw [if_neg h2]
      by_cases h1 : j = 4 * i + 1
      · rw [if_pos h1, if_pos (by omega), show j / 4 = i from by omega, show j % 4 = 1 from by omega]
      · rw [if_neg h1]
        by_cases h0 : j = 4 * i
        · rw [if_pos h0, if_pos (by omega), show j / 4 = i from by omega, show j % 4 = 0 from by omega]
        · rw [if_neg h0]
          by_cases h4 : j < 4 * i
          · rw [if_pos h4, if_pos (by omega)]
          · rw [if_neg h4, if_neg (by omega)]
theorem size_32 : (Try.prog.info? 23).map (·.size) = some 32 := by kernel_rfl
theorem size_u32 : (Try.prog.info? 33).map (·.size) = some 1 := by kernel_rfl
theorem slice_tail (gt j : Nat) (hj : j ≤ 1) (w : World) : (Instr.sliceAt 41 (.pointer (some ⟨gt, 0, none⟩)) (some (.int .i64 (64 * (j : Int)))) (some (.int .i64 (64 * (j : Int) + 64))) none).run Try.prog w = .ok (.slice (some ⟨gt, 64 * j, none⟩) 64 (128 - 64 * j)) w := by
  rcases (show j = 0 ∨ j = 1 from by omega) with rfl | rfl
  · kernel_rfl
  · kernel_rfl
def OfTo (w : World) (l : List Nat) (e : Ending) (w' : World) : Prop := e = .returned (.agg (arr .u8 32 (fun i => (hash l).getD i 0))) ∧ Below w.heap.size w w'
set_option maxRecDepth 100000 in
set_option maxHeartbeats 2000000 in
theorem of_any (v : Value) (l : List Nat) (w : World) (hv : Nums .u8 256 w v l) (hl : l.length ≤ 140737488355328) :
    Calls Try.prog 7 #[v] w (OfTo w l) := by
  obtain ⟨a0, cap0, rfl, hl1, hl2, hl3⟩ := hv.shape
  have hV := Lib.hid hv
  clear hv
  go_enter Try.func7, Try.ntmps7
  go_wp2_with fail
  refine (keys_any _).mono ?_
  rintro e w1 ⟨rfl, hb1⟩
  have hz1 : w1.heap[w.heap.size]? = some (.cells (arr .u8 32 (fun _ => 0)) 23 (0, 0)) := (hb1.block _ (by simp)).trans ((heap_alloc_new _ _).trans (by kernel_rfl))
  have hw1 : Below w.heap.size w w1 := ((Below.refl _ _).alloc (Nat.le_refl _) _).trans (hb1.mono (by simp))
  have hs1 := hb1.size
  simp at hs1
  have HZ := Lib.hid hz1
  have HW := Lib.hid hw1
  clear hz1 hw1 hb1
  have sk := Lib.hid (show (Try.prog.info? 34).map (·.size) = some (arr .u32 64 kT).size by rw [size_k, arr_size])
  go_wp2_with (((with_reducible refine wpList_store_arr rfl 34 (.tmp 3) (.tmp 14) rfl w1.heap.size (arr .u32 64 kT) rfl rfl 34 ?cur ?g1 sk.out ?g2 (arr_one _ _ _) rfl ?_); (case g1 => exact heap_alloc_new _ _); (case g2 => rw [arr_size]; rfl)))
  generalize hWW : (w1.alloc _).setRow _ _ = W1
  have hgk : W1.heap[w1.heap.size]? = some (.cells (arr .u32 64 kT) 34 (0, 0)) := by rw [← hWW]; exact setRow_heap _ _ _ _ _ _ (heap_alloc_new w1 _)
  have hgz : W1.heap[w.heap.size]? = some (.cells (arr .u8 32 (fun _ => 0)) 23 (0, 0)) := by rw [← hWW]; exact (setRow_other _ _ _ _ (by omega)).trans ((heap_alloc_old w1 _ (by omega)).trans HZ.out)
  have hgw : Below w.heap.size w W1 := by rw [← hWW]; exact below_setRow_new (HW.out.alloc (by omega) _) (by omega) _
  generalize w1.heap.size = kk at *
  clear HZ HW hWW
  have HK := Lib.hid hgk
  have HZ := Lib.hid hgz
  have HW := Lib.hid hgw
  clear hgk hgz hgw
  go_wp2_with fail
  refine (starts_any _).mono ?_
  rintro e w2 ⟨rfl, hb2⟩
  rw [h0_at]
  have hs2 := lt_of_heap HK.out
  have hs3 := hb2.size
  have h2k := (hb2.block _ (lt_of_heap HK.out)).trans HK.out
  have h2z := (hb2.block _ (lt_of_heap HZ.out)).trans HZ.out
  have h2w := HW.out.trans (hb2.mono HW.out.size)
  clear HK HZ HW hb2
  have HK := Lib.hid h2k
  have HZ := Lib.hid h2z
  have HW := Lib.hid h2w
  clear h2k h2z h2w
  have sh := Lib.hid (show (Try.prog.info? 37).map (·.size) = some (arr .u32 8 h0.at).size by rw [size_st, arr_size])
  go_wp2_with (((with_reducible refine wpList_store_arr rfl 37 (.tmp 4) (.tmp 15) rfl w2.heap.size (arr .u32 8 h0.at) rfl rfl 37 ?cur2 ?g3 sh.out ?g4 (arr_one _ _ _) rfl ?_); (case g3 => exact heap_alloc_new _ _); (case g4 => rw [arr_size]; rfl)))
  generalize hWW : (w2.alloc _).setRow _ _ = W2
  have hO : Of w W2 kk w2.heap.size (blocks kT l h0 0) := by
    rw [← hWW]
    refine ⟨?_, ?_, setRow_heap _ _ _ _ _ _ (heap_alloc_new w2 _), h0_ok, by omega, by omega, below_setRow_new (HW.out.alloc (by omega) _) (by omega) _⟩
    · exact (setRow_other _ _ _ _ (by omega)).trans ((heap_alloc_old w2 _ (by omega)).trans HZ.out)
    · exact (setRow_other _ _ _ _ (by omega)).trans ((heap_alloc_old w2 _ (by omega)).trans HK.out)
  generalize w2.heap.size = gh at *
  have HO := Lib.hid hO
  clear hO hWW HK HZ HW hs1 hs2 hs3
  go_loopg [5] (l.length / 64) (fun r v5 wr => ∃ (q : Nat) (a5 : Option Addr) (c5 : Nat), q + r = l.length / 64 ∧ v5 = .slice a5 (l.length - 64 * q) c5 ∧ Nums .u8 256 w v5 (l.drop (64 * q)) ∧ Of w wr kk gh (blocks kT l h0 q))
  case atStart => exact ⟨0, a0, cap0, by omega, rfl, hV.out, HO.out⟩
  case round =>
    obtain ⟨q, a5, c5, hqr, rfl, hn, hof⟩ := hrel
    obtain ⟨a6, c6, e, hc1, hc2, hc3⟩ := hn.shape
    simp only [Value.slice.injEq] at e
    obtain ⟨rfl, -, rfl⟩ := e
    rw [List.length_drop] at hc1 hc3
    clear HO
    have HO := Lib.hid hof
    have HN := Lib.hid (hn.below HO.out.below (Nat.le_refl _))
    have HN0 := Lib.hid hn
    clear hof hn
    by_cases hlt : 64 ≤ l.length - 64 * q
    · obtain ⟨bb, off, cap', e, hbb, hcell⟩ := HN.out.cells (by intro h0; have := congrArg List.length h0; simp at this; omega)
      simp only [Value.slice.injEq] at e
      obtain ⟨rfl, -, rfl⟩ := e
      clear hcell
      have hs0 : wr.cell? ⟨gh, 0, none⟩ = some (.int .u32 ((blocks kT l h0 q).a : Int)) := (cell_of_row _ _ 0 _ _ _ HO.out.hh).trans (arr_at _ _ _ _ (by omega))
      have hs1 : wr.cell? ⟨gh, 1, none⟩ = some (.int .u32 ((blocks kT l h0 q).b : Int)) := (cell_of_row _ _ 1 _ _ _ HO.out.hh).trans (arr_at _ _ _ _ (by omega))
      have hs2 : wr.cell? ⟨gh, 2, none⟩ = some (.int .u32 ((blocks kT l h0 q).c : Int)) := (cell_of_row _ _ 2 _ _ _ HO.out.hh).trans (arr_at _ _ _ _ (by omega))
      have hs3 : wr.cell? ⟨gh, 3, none⟩ = some (.int .u32 ((blocks kT l h0 q).d : Int)) := (cell_of_row _ _ 3 _ _ _ HO.out.hh).trans (arr_at _ _ _ _ (by omega))
      have hs4 : wr.cell? ⟨gh, 4, none⟩ = some (.int .u32 ((blocks kT l h0 q).e : Int)) := (cell_of_row _ _ 4 _ _ _ HO.out.hh).trans (arr_at _ _ _ _ (by omega))
      have hs5 : wr.cell? ⟨gh, 5, none⟩ = some (.int .u32 ((blocks kT l h0 q).f : Int)) := (cell_of_row _ _ 5 _ _ _ HO.out.hh).trans (arr_at _ _ _ _ (by omega))
      have hs6 : wr.cell? ⟨gh, 6, none⟩ = some (.int .u32 ((blocks kT l h0 q).g : Int)) := (cell_of_row _ _ 6 _ _ _ HO.out.hh).trans (arr_at _ _ _ _ (by omega))
      have hs7 : wr.cell? ⟨gh, 7, none⟩ = some (.int .u32 ((blocks kT l h0 q).h : Int)) := (cell_of_row _ _ 7 _ _ _ HO.out.hh).trans (arr_at _ _ _ _ (by omega))
      have hcap : 64 ≤ c5 := by omega
      obtain ⟨n, hn⟩ : ∃ n, n = l.length - 64 * q := ⟨_, rfl⟩
      rw [← hn] at hlt ⊢
      have HNN := Lib.hid hn
      clear hn
      unfold maxLen at hc2
      go_wp2_with fail
      have hcapI : (64 : Int) ≤ (c5 : Int) := by omega
      have hN64 := Lib.hid ((HN.out.drew).take 64 (by rw [← HNN.out]; exact hlt) (by rw [List.length_drop]) (by simp))
      have hl64 : ((l.drop (64 * q)).take 64).length = 64 := by rw [List.length_take, List.length_drop, ← HNN.out]; omega
      have hB1 : block kT ((l.drop (64 * q)).take 64) 0 (blocks kT l h0 q) = blocks kT l h0 (q + 1) := by
        rw [blocks]
        refine block_congr _ _ _ _ _ _ (fun i hi => ?_)
        rw [List.getD_eq_getElem?_getD, List.getD_eq_getElem?_getD, List.getElem?_take, if_pos (by omega), List.getElem?_drop, Nat.zero_add]
      have HB1 := Lib.hid hB1
      have HL64 := Lib.hid hl64
      clear hB1 hl64
      have HC := Lib.hid (block_lit (blocks kT l h0 q) HO.out.ok kT (fun i _ => kT_lt i) kk wr.drew HO.out.hk _ HL64.out bb off c5 hN64.out)
      rw [HB1.out] at HC
      have hok1 := Lib.hid (blocks_ok kT l h0 h0_ok (q + 1))
      go_still_tail 3, (by kernel_rfl)
      change wpList _ _ _ _ _ wr.drew
      clear hs0 hs1 hs2 hs3 hs4 hs5 hs6 hs7
      generalize hsn : blocks kT l h0 (q + 1) = sn at *
      have HSN := Lib.hid hsn
      clear hsn
      have s8 := Lib.hid (show (Try.prog.info? 37).map (·.size) = some (arr .u32 8 sn.at).size by rw [size_st, arr_size])
      have s9 : Hid ((arr .u32 8 (blocks kT l h0 q).at).size = (arr .u32 8 sn.at).size) := Lib.hid (by rw [arr_size, arr_size])
      go_wp2_with fail
      refine HC.out.mono ?_
      rintro e w3 ⟨rfl, hb3⟩
      have hrow := Lib.hid ((hb3.block gh (lt_of_heap HO.out.hh)).trans HO.out.hh)
      have HB3 := Lib.hid hb3
      clear hb3
      go_wp2_with (with_reducible (refine wpList_store_arr rfl 37 (.tmp 4) (.tmp 23) rfl gh (arr .u32 8 sn.at) rfl rfl 37 _ hrow.out s8.out s9.out (arr_one _ _ _) rfl ?_))
      all_goals
        go_roundg (l.length / 64 - (q + 1))
        case measure => have := HNN.out; omega
        case rel =>
          have hbo : Below wr.heap.size wr w3 := below_of_drew HB3.out
          have hOf := HO.out.step hok1.out hbo
          have hlq : l.length - 64 * (q + 1) = n - 64 := by have := HNN.out; omega
          have hdr : l.drop (64 * (q + 1)) = (l.drop (64 * q)).drop 64 := by rw [List.drop_drop]; congr 1
          first
            | exact ⟨q + 1, _, _, by have := HNN.out; omega, by rw [hlq], by rw [hdr]; have hN := HN0.out; rw [← HNN.out] at hN; exact hN.drop 64 hlt, by rw [HSN.out]; exact hOf⟩
            | exact ⟨q + 1, _, _, by have := HNN.out; omega, by rw [hlq], by rw [hdr, List.drop_eq_nil_of_le (by rw [List.length_drop]; have := HNN.out; omega), show n - 64 = 0 from by have := HNN.out; omega]; exact Nums.empty _ _ _ _ _ _ (by unfold maxLen; omega), by rw [HSN.out]; exact hOf⟩
    · obtain ⟨m, hm⟩ : ∃ m, m = l.length - 64 * q := ⟨_, rfl⟩
      rw [← hm] at hlt ⊢ HN0 HN hc1
      have hq : q = l.length / 64 := by omega
      have hm64 : m < 64 := by omega
      have hlr : (l.drop (64 * q)).length = m := by rw [List.length_drop]; exact hm.symm
      have hO2 : Of w wr kk gh (blocks kT (padded l) h0 q) := by
        rw [blocks_congr kT (padded l) l h0 q (fun i hi => padded_first l i (by omega))]; exact HO.out
      obtain ⟨size, hsz⟩ : ∃ size, size = (if 64 < l.length - 64 * q + 9 then 128 else 64) := ⟨_, rfl⟩
      obtain ⟨hp1, hp2⟩ := padded_len l q hq
      rw [← hsz] at hp1
      have hs2 : (64 < m + 9 ∧ size = 128) ∨ (m + 9 ≤ 64 ∧ size = 64) := by rw [hsz, ← hm]; split <;> omega
      have hnb : (l.length + 9 + 63) / 64 = q + size / 64 := by rw [hp2, hsz]; split <;> rfl
      have HP1 := Lib.hid hp1
      have HNB := Lib.hid hnb
      have HM := Lib.hid (And.intro hm hq)
      have HLR := Lib.hid hlr
      clear HO
      have HO := Lib.hid hO2
      clear hO2 hp1 hp2 hnb hsz hq hm hlr hqr hc3
      have dm : decide ((64 : Int) ≤ (m : Int)) = false := decide_eq_false (by omega)
      have hz41 := zero128
      have hne : ¬ arr .u8 128 (fun _ => 0) = #[] := fun e => by have := congrArg Array.size e; rw [arr_size] at this; simp at this
      obtain ⟨rl, hrl⟩ : ∃ rl, rl = l.drop (64 * q) := ⟨_, rfl⟩
      rw [← hrl] at HLR HN HN0
      have HRL := Lib.hid hrl
      clear hrl
      have hsz8 : 8 ≤ size := by omega
      have hTS : ∀ w5 o, w5.heap[wr.heap.size]? = some (.cells (arr .u8 128 (fun j => if j < rl.length then rl.getD j 0 else 0)) 41 (0, 0)) → Below wr.heap.size (wr.alloc o) w5 →
          Ta w w5 kk gh wr.heap.size (blocks kT (padded l) h0 q) (fun j => if j < rl.length then rl.getD j 0 else 0) ∧ Ta w (w5.setCell ⟨wr.heap.size, m, none⟩ (.int .u8 128)) kk gh wr.heap.size (blocks kT (padded l) h0 q) (tailF l q size 0) := by
        intro w5 o h5 hb5
        have hT := Ta.start HO.out h5 hb5
        refine ⟨hT, (hT.set m 128).congr (fun j hj => ?_)⟩
        rw [HRL.out]
        exact tail_start l q size m HM.out.1 HM.out.2 HP1.out j hsz8
      have HTS := Lib.hid hTS
      clear hTS hsz8
      have hs4 : (64 < m + 9 ∧ size = 128 ∧ decide ((64 : Int) < (m : Int) + 1 + 8) = true) ∨ (m + 9 ≤ 64 ∧ size = 64 ∧ decide ((64 : Int) < (m : Int) + 1 + 8) = false) := by
        rcases hs2 with ⟨h1, h2⟩ | ⟨h1, h2⟩
        · exact .inl ⟨h1, h2, decide_eq_true (by omega)⟩
        · exact .inr ⟨h1, h2, decide_eq_false (by omega)⟩
      clear hs2
      rcases hs4 with ⟨hs3, hsv, d9⟩ | ⟨hs3, hsv, d9⟩
      all_goals
        have HSV := Lib.hid hsv
        clear hsv
        go_wp2_with (((with_reducible (refine wpList_copy_arr rfl (.tmp 26) (.tmp 27) 25 25 rfl 5 Try.underlying25 size_u8 wr.heap.size 128 128 rfl .u8 128 256 (fun _ => 0) 41 (heap_alloc_new _ _) _ rl rfl (HN.out.below (ext_alloc _ _) (Nat.le_refl _)) (by rw [HLR.out]; omega) (by rw [HLR.out]; omega) ?_)); intro w5 h5 hb5; have HT := Lib.hid (HTS.out w5 _ h5 hb5); clear h5 hb5; have c1 := (cell_of_row _ _ m _ _ _ HT.out.1.tail).trans (arr_at _ _ _ _ (by omega)); have c2 := frozen_of_row _ _ m _ _ HT.out.1.tail))
        obtain ⟨W5, hW5⟩ : ∃ W5, W5 = w5.setCell ⟨wr.heap.size, m, none⟩ (.int .u8 128) := ⟨_, rfl⟩
        have hT5 := HT.out.2
        rw [← hW5] at hT5 ⊢
        generalize wr.heap.size = gt at *
        clear HT hW5 c1 c2 HTS
        have HT := Lib.hid hT5
        clear hT5 hz41 hne
        go_loopw [41] (fun v wq => ∃ i : Nat, i ≤ 8 ∧ v = .int .i64 (i : Int) ∧ Ta w wq kk gh gt (blocks kT (padded l) h0 q) (tailF l q size i)) (fun v _ => 8 - (intOf v).toNat)
        case atStart => exact ⟨0, by omega, rfl, HT.out⟩
        case round =>
          obtain ⟨i, hi, rfl, hta⟩ := hrel
          clear HT
          have HT := Lib.hid hta
          clear hta
          by_cases hilt : i < 8
          · have d1 : decide ((i : Int) < 8) = true := decide_eq_true (by omega)
            have c1 := (cell_of_row _ _ (size - 1 - i) _ _ _ HT.out.tail).trans (arr_at _ _ _ _ (by have := HSV.out; omega))
            have c2 := frozen_of_row _ _ (size - 1 - i) _ _ HT.out.tail
            rw [HSV.out] at c1 c2
            simp only [Nat.reduceSub] at c1 c2
            go_wp2_with fail
            go_roundw
            case rel =>
              refine ⟨i + 1, by omega, by go_num, ?_⟩
              have e : ((l.length : Int) * 8 / 2 ^ (8 * i) % 256) = ((l.length * 8 / 2 ^ (8 * i) % 256 : Nat) : Int) := by
                rw [show (l.length : Int) * 8 / 2 ^ (8 * i) = ((l.length * 8 / 2 ^ (8 * i) : Nat) : Int) from by simp]; omega
              rw [e]
              refine (HT.out.set _ _).congr (fun j hj => ?_)
              have hn := tail_next l q size i hilt HP1.out (by have := HSV.out; omega) hl j
              rw [show size - 1 - i = _ - i from by rw [HSV.out]] at hn
              exact hn
            case measure => simp [intOf]; omega
          · have hi8 : i = 8 := by omega
            have hT8 := HT.out
            rw [hi8] at hT8
            have hi8' : 8 ≤ i := by omega
            clear HT hi8 hilt
            have HT := Lib.hid hT8
            clear hT8
            obtain ⟨i0, rfl⟩ : ∃ i0, i0 = i := ⟨_, rfl⟩
            have d8 : decide ((i0 : Int) < 8) = false := decide_eq_false (by omega)
            go_wp2_with fail
            go_loopw [10] (fun v wq => ∃ j : Nat, 64 * j ≤ size ∧ v = .int .i64 ((64 * j : Nat) : Int) ∧ Ta w wq kk gh gt (blocks kT (padded l) h0 (q + j)) (tailF l q size 8)) (fun v _ => 128 - (intOf v).toNat)
            case atStart => exact ⟨0, by omega, rfl, HT.out⟩
            case round =>
              obtain ⟨j, hj, rfl, hta⟩ := hrel
              clear HT
              have HT := Lib.hid hta
              clear hta
              rw [HSV.out] at hj
              by_cases hjlt : 64 * j + 64 ≤ size
              · have hs0 : wr.cell? ⟨gh, 0, none⟩ = some (.int .u32 ((blocks kT (padded l) h0 (q + j)).a : Int)) := (cell_of_row _ _ 0 _ _ _ HT.out.of.hh).trans (arr_at _ _ _ _ (by omega))
                have hs1 : wr.cell? ⟨gh, 1, none⟩ = some (.int .u32 ((blocks kT (padded l) h0 (q + j)).b : Int)) := (cell_of_row _ _ 1 _ _ _ HT.out.of.hh).trans (arr_at _ _ _ _ (by omega))
                have hs2 : wr.cell? ⟨gh, 2, none⟩ = some (.int .u32 ((blocks kT (padded l) h0 (q + j)).c : Int)) := (cell_of_row _ _ 2 _ _ _ HT.out.of.hh).trans (arr_at _ _ _ _ (by omega))
                have hs3 : wr.cell? ⟨gh, 3, none⟩ = some (.int .u32 ((blocks kT (padded l) h0 (q + j)).d : Int)) := (cell_of_row _ _ 3 _ _ _ HT.out.of.hh).trans (arr_at _ _ _ _ (by omega))
                have hs4 : wr.cell? ⟨gh, 4, none⟩ = some (.int .u32 ((blocks kT (padded l) h0 (q + j)).e : Int)) := (cell_of_row _ _ 4 _ _ _ HT.out.of.hh).trans (arr_at _ _ _ _ (by omega))
                have hs5 : wr.cell? ⟨gh, 5, none⟩ = some (.int .u32 ((blocks kT (padded l) h0 (q + j)).f : Int)) := (cell_of_row _ _ 5 _ _ _ HT.out.of.hh).trans (arr_at _ _ _ _ (by omega))
                have hs6 : wr.cell? ⟨gh, 6, none⟩ = some (.int .u32 ((blocks kT (padded l) h0 (q + j)).g : Int)) := (cell_of_row _ _ 6 _ _ _ HT.out.of.hh).trans (arr_at _ _ _ _ (by omega))
                have hs7 : wr.cell? ⟨gh, 7, none⟩ = some (.int .u32 ((blocks kT (padded l) h0 (q + j)).h : Int)) := (cell_of_row _ _ 7 _ _ _ HT.out.of.hh).trans (arr_at _ _ _ _ (by omega))
                have hszv := HSV.out
                have hN64 := Lib.hid (nums_arr .u8 256 (w := wr.drew) HT.out.tail (64 * j) 64 (128 - 64 * j) (by omega) (by omega) (by unfold maxLen; omega) (fun i => tailF_lt l hV.out.bound q size 8 i))
                have hB1 : block kT ((List.range 64).map fun i => tailF l q size 8 (64 * j + i)) 0 (blocks kT (padded l) h0 (q + j)) = blocks kT (padded l) h0 (q + j + 1) := by
                  rw [blocks]
                  refine block_congr _ _ _ _ _ _ (fun i hi => ?_)
                  rw [Nat.zero_add, List.getD_eq_getElem?_getD, List.getElem?_map, List.getElem?_range hi]
                  simp only [Option.map_some, Option.getD_some]
                  rw [tail_end l q size _ (by omega)]
                  congr 1; omega
                have HB1 := Lib.hid hB1
                clear hB1 hszv
                have HC := Lib.hid (block_lit (blocks kT (padded l) h0 (q + j)) HT.out.of.ok kT (fun i _ => kT_lt i) kk wr.drew HT.out.of.hk _ (by simp) gt (64 * j) (128 - 64 * j) hN64.out)
                rw [HB1.out] at HC
                have hok1 := Lib.hid (blocks_ok kT (padded l) h0 h0_ok (q + j + 1))
                have hj1 : j ≤ 1 := by have := HSV.out; omega
                have hjlt2 : 64 * j < size := by omega
                rw [HSV.out] at hjlt hjlt2
                have hwr : IntKind.i64.wrap (64 * (j : Int) + 64) = 64 * (j : Int) + 64 := IntWalk.i64_in _ (by omega)
                have hsl := slice_tail gt j hj1
                go_wp2_with fail
                go_still_tail 5, (by kernel_rfl)
                change wpList _ _ _ _ _ wr.drew
                clear hs0 hs1 hs2 hs3 hs4 hs5 hs6 hs7 hwr hsl
                generalize hsn : blocks kT (padded l) h0 (q + j + 1) = sn at *
                have HSN := Lib.hid hsn
                clear hsn
                have s8 := Lib.hid (show (Try.prog.info? 37).map (·.size) = some (arr .u32 8 sn.at).size by rw [size_st, arr_size])
                have s9 : Hid ((arr .u32 8 (blocks kT (padded l) h0 (q + j)).at).size = (arr .u32 8 sn.at).size) := Lib.hid (by rw [arr_size, arr_size])
                go_wp2_with fail
                refine HC.out.mono ?_
                rintro e w3 ⟨rfl, hb3⟩
                have hrow := Lib.hid ((hb3.block gh (lt_of_heap HT.out.of.hh)).trans HT.out.of.hh)
                have HB3 := Lib.hid hb3
                clear hb3
                go_wp2_with (with_reducible (refine wpList_store_arr rfl 37 (.tmp 4) (.tmp 65) rfl gh (arr .u32 8 sn.at) rfl rfl 37 _ hrow.out s8.out s9.out (arr_one _ _ _) rfl ?_))
                go_roundw
                case rel =>
                  refine ⟨j + 1, by have := HSV.out; omega, by go_num, ?_⟩
                  rw [← Nat.add_assoc, HSN.out]
                  exact HT.out.step hok1.out (below_of_drew HB3.out)
                case measure => simp [intOf]; omega
              · have hjs : size ≤ 64 * j := by have := HSV.out; omega
                have hqj : (l.length + 9 + 63) / 64 = q + j := by rw [HNB.out]; have := HSV.out; omega
                have HQJ := Lib.hid hqj
                have hss : ∃ sf, sf = blocks kT (padded l) h0 (q + j) := ⟨_, rfl⟩
                obtain ⟨sf, hsf⟩ := hss
                rw [← hsf] at HT
                have HSF := Lib.hid hsf
                rw [HSV.out] at hjs
                have s11 := Lib.hid (show (Try.prog.info? 37).map (·.size) = some (arr .u32 8 sf.at).size by rw [size_st, arr_size])
                clear hqj hsf hjlt
                obtain ⟨wo, rfl⟩ : ∃ wo : World, wo = wr := ⟨_, rfl⟩
                go_wp2_with (with_reducible (refine wpList_load_row rfl 37 (.tmp 4) rfl gh rfl 37 _ _ _ ((heap_alloc_old _ _ (lt_of_heap HT.out.of.hh)).trans HT.out.of.hh) Try.underlying37 rfl s11.out ?_))
                generalize hWW : wo.alloc _ = W7
                have hsf : sf.ok := HT.out.of.ok
                have hO7 : Ou w W7 wo.heap.size (hbF sf 0) := by
                  rw [← hWW]
                  refine ⟨(heap_alloc_old _ _ (lt_of_heap HT.out.of.hz)).trans HT.out.of.hz, ?_, lt_of_heap HT.out.of.hz, HT.out.of.below.alloc HT.out.of.below.size _⟩
                  rw [heap_alloc_new, show hbF sf 0 = (fun _ => 0) from by funext j; unfold hbF; simp]
                  kernel_rfl
                have hgt : w.heap.size + 1 ≤ wo.heap.size := lt_of_heap HT.out.of.hz
                generalize wo.heap.size = gq at *
                clear hWW HT
                have HO := Lib.hid hO7
                clear hO7
                go_loopw [67] (fun v wq => ∃ i : Nat, i ≤ 8 ∧ v = .int .i64 (i : Int) ∧ Ou w wq gq (hbF sf i)) (fun v _ => 8 - (intOf v).toNat)
                case atStart => exact ⟨0, by omega, rfl, HO.out⟩
                case round =>
                  obtain ⟨i, hi, rfl, hou⟩ := hrel
                  clear HO
                  have HO := Lib.hid hou
                  clear hou
                  by_cases hilt : i < 8
                  · have d1 : decide ((i : Int) < 8) = true := decide_eq_true (by omega)
                    have hix : ∀ w : World, (Instr.index 37 (.agg (arr .u32 8 sf.at)) (.int .i64 (i : Int))).run Try.prog w = .ok (.int .u32 (sf.at i : Int)) w := fun w => run_index_arr 37 33 8 .u32 sf.at Try.underlying37 Try.underlying33 size_u32 i hilt w
                    have c0 := (cell_of_row _ _ (4 * i) _ _ _ HO.out.out).trans (arr_at _ _ _ _ (by omega))
                    have c1 := (cell_of_row _ _ (4 * i + 1) _ _ _ HO.out.out).trans (arr_at _ _ _ _ (by omega))
                    have c2 := (cell_of_row _ _ (4 * i + 2) _ _ _ HO.out.out).trans (arr_at _ _ _ _ (by omega))
                    have c3 := (cell_of_row _ _ (4 * i + 3) _ _ _ HO.out.out).trans (arr_at _ _ _ _ (by omega))
                    have f0 := frozen_of_row _ _ (4 * i) _ _ HO.out.out
                    have f1 := frozen_of_row _ _ (4 * i + 1) _ _ HO.out.out
                    have f2 := frozen_of_row _ _ (4 * i + 2) _ _ HO.out.out
                    have f3 := frozen_of_row _ _ (4 * i + 3) _ _ HO.out.out
                    have hb := hsf.at i
                    obtain ⟨x, hx⟩ : ∃ x, x = sf.at i := ⟨_, rfl⟩
                    rw [← hx] at hb
                    have HX := Lib.hid hx
                    have hix2 : ∀ w : World, (Instr.index 37 (.agg (arr .u32 8 sf.at)) (.int .i64 (i : Int))).run Try.prog w = .ok (.int .u32 (x : Int)) w := by rw [hx]; exact hix
                    clear hix hx
                    go_wp2_with fail
                    go_roundw
                    case rel =>
                      refine ⟨i + 1, by omega, by go_num, ?_⟩
                      have e0 : (x : Int) / 16777216 = ((x / 16777216 % 256 : Nat) : Int) := by omega
                      have e1 : (x : Int) / 65536 % 256 = ((x / 65536 % 256 : Nat) : Int) := by omega
                      have e2 : (x : Int) / 256 % 256 = ((x / 256 % 256 : Nat) : Int) := by omega
                      have e3 : (x : Int) % 256 = ((x % 256 : Nat) : Int) := by omega
                      rw [e0, e1, e2, e3]
                      refine ((((HO.out.set _ _).set _ _).set _ _).set _ _).congr (fun j hj => ?_)
                      rw [HX.out]
                      exact hb_next sf hsf i hilt j
                    case measure => simp [intOf]; omega
                  · have hi8 : i = 8 := by omega
                    have hO8 := HO.out
                    rw [hi8] at hO8
                    have hO9 := hO8.congr (G := fun i => (hash l).getD i 0) (fun j hj => by
                      unfold hash hbF hashBytes
                      rw [if_pos (by omega), HQJ.out, ← HSF.out, List.getD_eq_getElem?_getD, List.getElem?_map, List.getElem?_range hj]; rfl)
                    have hi8' : 8 ≤ i := by omega
                    clear HO hi8 hilt hO8
                    have HO := Lib.hid hO9
                    clear hO9
                    generalize hfin : (fun i => (hash l).getD i 0) = fin at *
                    have HF := Lib.hid hfin
                    clear hfin
                    have s12 := Lib.hid (show (Try.prog.info? 23).map (·.size) = some (arr .u8 32 fin).size by rw [size_32, arr_size])
                    have s13 : Hid ((arr .u8 32 (fun _ => 0)).size = (arr .u8 32 fin).size) := Lib.hid (by rw [arr_size, arr_size])
                    go_wp2_with (first
                      | (with_reducible (refine wpList_load_row rfl 23 (.tmp 11) rfl gq rfl 23 _ _ _ HO.out.out Try.underlying23 rfl s12.out ?_))
                      | (with_reducible (refine wpList_store_arr rfl 23 (.tmp 2) (.tmp 98) rfl w.heap.size (arr .u8 32 fin) rfl rfl 23 _ HO.out.hz s12.out s13.out (arr_one _ _ _) rfl ?_)))
                    refine bodyPost_ret (results_cell_row rfl _ _ w.heap.size 23 _ _ _ rfl (setRow_heap _ _ _ _ _ _ HO.out.hz) Try.underlying23 rfl s12.out) rfl ?_
                    exact ⟨by rw [HF.out], below_setRow_new HO.out.below (Nat.le_refl _) _⟩
end Go.Proofs.Ytmdhekpfkligiaa.ShaO
