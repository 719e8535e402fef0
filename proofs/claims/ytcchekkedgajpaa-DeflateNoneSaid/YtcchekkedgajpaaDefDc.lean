/- The law DeflateNone. -/
import Derived.Test.YtcchekkedgajpaaDefDb
set_option linter.unusedVariables false
set_option linter.unusedSimpArgs false
namespace Go.Proofs.Ytcchekkedgajpaa.DefDc
open Go.RowKit BitsM Base Low DefDb
/-- nil, or a row that New did not make -/
def Unmade (w : World) (p : Value) : Prop := p = .pointer none ∨ ∃ g, p = .pointer (some ⟨g, 0, none⟩) ∧ w.cell? ⟨g, 0, none⟩ = some (.bool false)
theorem none_write (p u : Value) (w : World) (h : Unmade w p) : Calls Try.prog 9 #[p, u] w fun e w' => e = .returned (.tuple #[.slice none 0 0, .int .i64 1]) ∧ w = w' := by
  rcases h with rfl | ⟨g, rfl, hc⟩
  all_goals
    go_enter Try.func9, Try.ntmps9
    go_wp2
    go_ret2
    exact ⟨rfl, rfl⟩
theorem none_end (p : Value) (w : World) (h : Unmade w p) : Calls Try.prog 12 #[p] w fun e w' => e = .returned (.tuple #[.slice none 0 0, .int .i64 1]) ∧ w = w' := by
  rcases h with rfl | ⟨g, rfl, hc⟩
  all_goals
    go_enter Try.func12, Try.ntmps12
    go_wp2
    go_ret2
    exact ⟨rfl, rfl⟩
/-- a row of two handles: nil, and a fresh one that nobody made -/
structure Two (W : World) (b g : Nat) : Prop where
  c0 : W.cell? ⟨b, 0, none⟩ = some (.pointer none)
  c1 : W.cell? ⟨b, 1, none⟩ = some (.pointer (some ⟨g, 0, none⟩))
  un : W.cell? ⟨g, 0, none⟩ = some (.bool false)
theorem two_of (w : World) (o : Array Value) (t t2 : Nat) (ho : o[0]? = some (.bool false)) (g : Nat) (hg : g = w.heap.size) : Two ((w.alloc (.cells o t)).alloc (.cells #[.pointer none, .pointer (some ⟨g, 0, none⟩)] t2)) (w.heap.size + 1) g := by
  subst hg
  have h1 : ((w.alloc (.cells o t)).alloc (.cells #[.pointer none, .pointer (some ⟨w.heap.size, 0, none⟩)] t2)).heap[w.heap.size]? = some (.cells o t) := by
    rw [heap_alloc_old _ _ (by simp)]; exact heap_alloc_new _ _
  have h2 : ((w.alloc (.cells o t)).alloc (.cells #[.pointer none, .pointer (some ⟨w.heap.size, 0, none⟩)] t2)).heap[w.heap.size + 1]? = some (.cells #[.pointer none, .pointer (some ⟨w.heap.size, 0, none⟩)] t2) := by
    rw [show w.heap.size + 1 = (w.alloc (.cells o t)).heap.size from by simp]; exact heap_alloc_new _ _
  exact ⟨by rw [cell_of_row _ _ 0 _ _ _ h2]; rfl, by rw [cell_of_row _ _ 1 _ _ _ h2]; rfl, by rw [cell_of_row _ _ 0 _ _ _ h1]; exact ho⟩
theorem Two.u0 {W : World} {b g : Nat} (_ : Two W b g) : Unmade W (.pointer none) := .inl rfl
theorem Two.u1 {W : World} {b g : Nat} (h : Two W b g) : Unmade W (.pointer (some ⟨g, 0, none⟩)) := .inr ⟨g, rfl, h.un⟩
set_option maxRecDepth 100000 in
set_option maxHeartbeats 2000000 in
theorem none_any (v : Value) (w : World) : Calls Try.prog 4 #[v] w fun e w' => e = .returned (.bool true) ∧ Below w.heap.size w w' := by
  go_enter Try.func4, Try.ntmps4
  go_wp2_with fail
  generalize hW : (w.alloc _).alloc _ = W
  have H1 := Lib.hid (show Two W (w.heap.size + 1) w.heap.size ∧ Below w.heap.size w W by subst hW; exact ⟨two_of w _ _ _ rfl _ rfl, ext_trans (ext_alloc _ _) (ext_alloc _ _)⟩)
  clear hW
  go_loopg [15] 2 (fun r n15 wr => ∃ i : Nat, i + r = 2 ∧ n15 = .int .i64 (i : Int) ∧ W = wr)
  case atStart => exact ⟨0, by omega, rfl, rfl⟩
  case round =>
    obtain ⟨i, hir, rfl, rfl⟩ := hrel
    obtain ⟨c0, c1, un⟩ := H1.out.1
    rcases (show i = 0 ∨ i = 1 ∨ i = 2 from by omega) with rfl | rfl | rfl
    · go_wp2_with fail
      refine (none_write _ _ _ H1.out.1.u0).mono ?_
      rintro e w1 ⟨rfl, rfl⟩
      go_wp2_with fail
      refine (none_end _ _ H1.out.1.u0).mono ?_
      rintro e w1 ⟨rfl, rfl⟩
      go_wp2_with fail
      go_roundg 1
      case measure => omega
      case rel => exact ⟨1, rfl, rfl, rfl⟩
    · go_wp2_with fail
      refine (none_write _ _ _ H1.out.1.u1).mono ?_
      rintro e w1 ⟨rfl, rfl⟩
      go_wp2_with fail
      refine (none_end _ _ H1.out.1.u1).mono ?_
      rintro e w1 ⟨rfl, rfl⟩
      go_wp2_with fail
      go_roundg 0
      case measure => omega
      case rel => exact ⟨2, rfl, rfl, rfl⟩
    · go_wp2_with fail
      refine (awake_any _).mono ?_
      rintro e w23 ⟨rfl, hb23⟩
      go_wp2_with fail
      go_ret
      exact ⟨rfl, ext_trans H1.out.2 hb23⟩
end Go.Proofs.Ytcchekkedgajpaa.DefDc
