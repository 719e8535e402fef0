/- What the walks of law 11 share: the chapter's examples. -/
import Derived.Test.YtmdhekpfkligiaaShaO
import Derived.Test.YtmdhekpfkligiaaShaH
set_option linter.unusedVariables false
set_option linter.unusedSimpArgs false
namespace Go.Proofs.Ytmdhekpfkligiaa.ShaL
open Go.RowKit ShaM Base Num Low ShaW ShaP ShaK ShaB ShaO ShaH

/-- the bytes of a hash -/
def hf (l : List Nat) (i : Nat) : Nat := (ShaO.hash l).getD i 0
theorem hf_lt (l : List Nat) (i : Nat) : hf l i < 256 := by
  unfold hf ShaO.hash hashBytes
  rw [List.getD_eq_getElem?_getD]
  by_cases h : i < 32
  · rw [List.getElem?_map, List.getElem?_range h]; exact Nat.mod_lt _ (by omega)
  · rw [List.getElem?_eq_none (by simp; omega)]; simp
theorem ex0 : strOf (hexL (rowOf (hf []) 32)) = { data := #[101, 51, 98, 48, 99, 52, 52, 50, 57, 56, 102, 99, 49, 99, 49, 52, 57, 97, 102, 98, 102, 52, 99, 56, 57, 57, 54, 102, 98, 57, 50, 52, 50, 55, 97, 101, 52, 49, 101, 52, 54, 52, 57, 98, 57, 51, 52, 99, 97, 52, 57, 53, 57, 57, 49, 98, 55, 56, 53, 50, 98, 56, 53, 53] } := by kernel_rfl
theorem ex1 : strOf (hexL (rowOf (hf [97, 98, 99]) 32)) = { data := #[98, 97, 55, 56, 49, 54, 98, 102, 56, 102, 48, 49, 99, 102, 101, 97, 52, 49, 52, 49, 52, 48, 100, 101, 53, 100, 97, 101, 50, 50, 50, 51, 98, 48, 48, 51, 54, 49, 97, 51, 57, 54, 49, 55, 55, 97, 57, 99, 98, 52, 49, 48, 102, 102, 54, 49, 102, 50, 48, 48, 49, 53, 97, 100] } := by kernel_rfl
theorem ex2 : strOf (hexL (rowOf (hf [97, 98, 99, 100, 98, 99, 100, 101, 99, 100, 101, 102, 100, 101, 102, 103, 101, 102, 103, 104, 102, 103, 104, 105, 103, 104, 105, 106, 104, 105, 106, 107, 105, 106, 107, 108, 106, 107, 108, 109, 107, 108, 109, 110, 108, 109, 110, 111, 109, 110, 111, 112, 110, 111, 112, 113]) 32)) = { data := #[50, 52, 56, 100, 54, 97, 54, 49, 100, 50, 48, 54, 51, 56, 98, 56, 101, 53, 99, 48, 50, 54, 57, 51, 48, 99, 51, 101, 54, 48, 51, 57, 97, 51, 51, 99, 101, 52, 53, 57, 54, 52, 102, 102, 50, 49, 54, 55, 102, 54, 101, 99, 101, 100, 100, 52, 49, 57, 100, 98, 48, 54, 99, 49] } := by kernel_rfl
def HTo (w : World) (l : List Nat) (e : Ending) (w' : World) : Prop := e = .returned (.agg (arr .u8 32 (hf l))) ∧ Below w.heap.size w w'
theorem of_hf (v : Value) (l : List Nat) (w : World) (hv : Nums .u8 256 w v l) (hl : l.length ≤ 140737488355328) : Calls Try.prog 7 #[v] w (HTo w l) := of_any v l w hv hl
set_option maxRecDepth 100000 in
set_option maxHeartbeats 1000000 in
theorem awake_any (w : World) : Calls Try.prog 9 #[] w fun e w' => e = .returned (.bool true) ∧ Below w.heap.size w w' := by
  have kc := fun (w : World) (C : Array Value) (n c : Nat) => Lib.run_convert_bytes_const (P := Try.prog) w 25 5 C n c Try.underlying25 Try.underlying5
  go_enter Try.func9, Try.ntmps9
  go_wp2_with fail
  refine (of_hf _ [] _ (Nums.nil _ _ _) (by simp)).mono ?_
  rintro e w1 ⟨rfl, hb1⟩
  have H1 := Lib.hid hb1
  clear hb1
  go_wp2_with fail
  refine (hex_any _ (hf_lt []) _).mono ?_
  rintro e w2 ⟨rfl, hb2⟩
  rw [ex0]
  have H2 := Lib.hid (H1.out.trans (hb2.mono H1.out.size))
  clear hb2 H1
  go_wp2_with fail
  refine (of_hf _ [97, 98, 99] _ (nums_blk .u8 256 (heap_alloc_new _ _) _ (by decide) (by decide) rfl 3 rfl) (by simp)).mono ?_
  rintro e w3 ⟨rfl, hb3⟩
  have H3 := Lib.hid ((H2.out.alloc H2.out.size _).trans (hb3.mono (by have := H2.out.size; simp; omega)))
  clear hb3 H2
  go_wp2_with fail
  refine (hex_any _ (hf_lt _) _).mono ?_
  rintro e w4 ⟨rfl, hb4⟩
  rw [ex1]
  have H4 := Lib.hid (H3.out.trans (hb4.mono H3.out.size))
  clear hb4 H3
  go_wp2_with fail
  go_ret
  exact ⟨rfl, H4.out⟩
end Go.Proofs.Ytmdhekpfkligiaa.ShaL
