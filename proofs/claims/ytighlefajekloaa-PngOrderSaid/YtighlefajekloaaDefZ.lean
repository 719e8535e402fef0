/- Package deflate: prune and trim where nothing is given up; New. -/
import Derived.Test.YtighlefajekloaaDefU
import Derived.Test.YtighlefajekloaaDefY
set_option linter.unusedVariables false
set_option linter.unusedSimpArgs false
namespace Go.Proofs.Ytighlefajekloaa.DefZ
open Go.RowKit Go.Sort BitsM Base Low BitsW BitsX BitsS MapA DefM DefN DefS DefT DefR DefU Qb Qt Qp
set_option maxRecDepth 100000 in
theorem prune_small (w : World) (s : Dg) (ended : Bool) (S N Z : Nat) (h : RowW w s ended S N Z) (hZ : Z ≤ S) (hS : S < Z + 32768) (hS2 : S ≤ 100000) :
    Calls Try.prog 58 #[.pointer (some ⟨s.gW, 0, none⟩)] w fun e w' => e = .returned (.tuple #[]) ∧ Below w.heap.size w w' := by
  obtain ⟨C0, C1, C2, C3, C4, C5, C6, C7, C8⟩ := h.cells
  have f5 := fun d os => cell_regrown C5 d os
  have f8 := fun d os => cell_regrown C8 d os
  have e1 : IntKind.i64.wrap ((S : Int) - (Z : Int)) = ((S - Z : Nat) : Int) := by rw [IntKind.wrap_i64]; omega
  have d1 : decide (((S - Z : Nat) : Int) < 32768) = true := decide_eq_true (by omega)
  go_enter Try.func58, Try.ntmps58
  go_upto_region 0 with (fail)
  refine wp_region_quiet_below (by kernel_rfl) (by kernel_rfl) ?_
  repeat (go_big_quiet_step (fail))
  refine wpQuiet_nil ?_
  first | (rintro _ ⟨⟨dq, odq⟩, rfl⟩) | (rintro ⟨dq, odq⟩)
  have hW1 := below_regrown w dq odq
  obtain ⟨W1, eW1⟩ : ∃ ww, ww = grow (redrawn w dq) odq := ⟨_, rfl⟩
  rw [← eW1] at hW1 ⊢
  clear eW1
  have HB1 := Lib.hid hW1
  clear hW1
  go_wp2_with fail
  refine bodyPost_ret (results_none rfl _ _ _) rfl ?_
  exact ⟨rfl, HB1.out⟩
set_option maxRecDepth 100000 in
theorem trim_small (w : World) (s : Dg) (ended : Bool) (S N Z : Nat) (h : RowW w s ended S N Z) (hS : S ≤ 65536) :
    Calls Try.prog 51 #[.pointer (some ⟨s.gW, 0, none⟩)] w fun e w' => e = .returned (.tuple #[]) ∧ Below w.heap.size w w' := by
  obtain ⟨C0, C1, C2, C3, C4, C5, C6, C7, C8⟩ := h.cells
  have f5 := fun d os => cell_regrown C5 d os
  have f4 := fun d os => cell_regrown C4 d os
  have e1 : IntKind.i64.wrap (S : Int) = (S : Int) := by rw [IntKind.wrap_i64]; omega
  have d1 : decide ((S : Int) ≤ 65536) = true := decide_eq_true (by omega)
  go_enter Try.func51, Try.ntmps51
  go_upto_region 0 with (fail)
  refine wp_region_quiet_below (by kernel_rfl) (by kernel_rfl) ?_
  repeat (go_big_quiet_step (fail))
  refine wpQuiet_nil ?_
  first | (rintro _ ⟨⟨dq, odq⟩, rfl⟩) | (rintro ⟨dq, odq⟩)
  have hW1 := below_regrown w dq odq
  obtain ⟨W1, eW1⟩ : ∃ ww, ww = grow (redrawn w dq) odq := ⟨_, rfl⟩
  rw [← eW1] at hW1 ⊢
  clear eW1
  have HB1 := Lib.hid hW1
  clear hW1
  go_wp2_with fail
  refine bodyPost_ret (results_none rfl _ _ _) rfl ?_
  exact ⟨rfl, HB1.out⟩
end Go.Proofs.Ytighlefajekloaa.DefZ
