/- The walks of package lightwelllow's copies, comparisons and places. -/
import Derived.Test.YtighlefajekloaaRows
import Derived.Test.YtighlefajekloaaBase
set_option linter.unusedVariables false
set_option linter.unusedSimpArgs false
namespace Go.Proofs.Ytighlefajekloaa.Low
open Go.RowKit Base

theorem u8s : NumSlice Try.prog 33 5 .u8 1 := numSlice Try.underlying33 (by kernel_rfl)

/-- what CopyBytes answers -/
def Copied (w : World) (l : List Nat) (e : Ending) (w' : World) : Prop := ∃ v', e = .returned v' ∧ Own .u8 256 5 w.heap.size w' v' l ∧ Below w.heap.size w w'

set_option maxHeartbeats 400000 in
theorem sameBytes_any (v u : Value) (l m : List Nat) (w : World) (hv : Nums .u8 256 w v l) (hu : Nums .u8 256 w u m) :
    Calls Try.prog 17 #[v, u] w fun e w' => e = .returned (.bool (decide (l = m))) ∧ w = w' := by
  have hV := Lib.hid hv
  have hU := Lib.hid hu
  have hE : ((strOf l).toList == (strOf m).toList) = decide (l = m) := by
    rw [Bool.eq_iff_iff, beq_iff_eq, decide_eq_true_iff, ByteArray.toList_eq, ByteArray.toList_eq]
    constructor
    · intro h
      refine strOf_inj l m hv.bound hu.bound ?_
      apply ByteArray.ext
      exact Array.toList_inj.1 h
    · intro h; rw [h]
  clear hv hu
  go_enter Try.func17, Try.ntmps17
  go_wp2_with (first
    | (with_reducible (refine wpList_toString rfl 9 33 5 (.tmp 5) rfl Try.underlying9 Try.underlying33 Try.underlying5 v l 256 rfl hV.out ?_))
    | (with_reducible (refine wpList_toString rfl 9 33 5 (.tmp 7) rfl Try.underlying9 Try.underlying33 Try.underlying5 u m 256 rfl hU.out ?_)))
  go_ret
  exact ⟨rfl, rfl⟩

/-- a place out of any number -/
def pick (x : Int) (n : Nat) : Nat := if n = 0 then 0 else (x % (n : Int)).toNat
theorem pick_lt (x : Int) (n : Nat) (h : 0 < n) : pick x n < n := by
  unfold pick; rw [if_neg (by omega)]
  have := Int.emod_lt_of_pos x (show (0 : Int) < n from by omega)
  have := Int.emod_nonneg x (show (n : Int) ≠ 0 from by omega)
  omega
set_option maxHeartbeats 400000 in
theorem pick_any (x : Int) (n : Nat) (_hx : -9223372036854775808 ≤ x) (_hx2 : x ≤ 9223372036854775807) (hn : n ≤ 9223372036854775807) (w : World) :
    Calls Try.prog 8 #[.int .i64 x, .int .i64 (n : Int)] w fun e w' => e = .returned (.int .i64 (pick x n : Nat)) ∧ w = w' := by
  by_cases h0 : n = 0
  · subst h0
    go_enter Try.func8, Try.ntmps8
    go_wp2
    go_ret
    exact ⟨rfl, rfl⟩
  · have hpos : 0 < n := by omega
    have hne : ((n : Int) == 0) = false := by simp; omega
    go_enter Try.func8, Try.ntmps8
    have hv : pick x n = (x % (n : Int)).toNat := by unfold pick; rw [if_neg h0]
    have hm := Int.emod_nonneg x (show (n : Int) ≠ 0 from by omega)
    have hm2 := Int.emod_lt_of_pos x (show (0 : Int) < n from by omega)
    have hF := Lib.hid (show ((pick x n : Nat) : Int) = x % (n : Int) from by rw [hv]; omega)
    clear hv
    by_cases hneg : x.tmod (n : Int) < 0
    · have e1 : x % (n : Int) = x.tmod (n : Int) + n := by
        rw [Int.tmod_eq_emod] at hneg ⊢
        split at hneg
        · omega
        · rename_i h; rw [if_neg h]; simp
      rw [e1] at hm hm2
      have hF2 := Lib.hid (hF.out.trans e1)
      clear e1
      go_wp2
      go_ret
      exact ⟨ret_int (by rw [hF2.out]), rfl⟩
    · have e1 : x % (n : Int) = x.tmod (n : Int) := by
        rw [Int.tmod_eq_emod] at hneg ⊢
        split
        · simp
        · rename_i h; rw [if_neg h] at hneg; simp at hneg; omega
      have hF2 := Lib.hid (hF.out.trans e1)
      clear e1 hm hm2
      go_wp2
      go_ret
      exact ⟨ret_int (by rw [hF2.out]), rfl⟩
end Go.Proofs.Ytighlefajekloaa.Low
