/- The law BitsNone. -/
import Derived.Test.YtadnikpbmjflaaaBits7
namespace Go.Proofs.Ytadnikpbmjflaaa.BitsN2
open Go.RowKit BitsM Base Low Bits5 Bits6 BitsW BitsX BitsR BitsG Bits7

/-- a row of two handles: nil, and a fresh one that nobody made -/
structure Two (W : World) (b g : Nat) : Prop where
  c0 : W.cell? ⟨b, 0, none⟩ = some (.pointer none)
  c1 : W.cell? ⟨b, 1, none⟩ = some (.pointer (some ⟨g, 0, none⟩))
  un : W.cell? ⟨g, 0, none⟩ = some (.bool false)
theorem two_of (w : World) (o : Array Value) (t t2 : Nat) (ho : o[0]? = some (.bool false)) (g : Nat) (hg : g = w.heap.size) : Two ((w.alloc (.cells o t)).alloc (.cells #[.pointer none, .pointer (some ⟨g, 0, none⟩)] t2)) (w.heap.size + 1) g := by
  subst hg
  have h1 : ((w.alloc (.cells o t)).alloc (.cells #[.pointer none, .pointer (some ⟨w.heap.size, 0, none⟩)] t2)).heap[w.heap.size]? = some (.cells o t) := by
    rw [heap_alloc_old _ _ (by simp)]; exact heap_alloc_new _ _
  have h2 : ((w.alloc (.cells o t)).alloc (.cells #[.pointer none, .pointer (some ⟨w.heap.size, 0, none⟩)] t2)).heap[w.heap.size + 1]? = some (.cells #[.pointer none, .pointer (some ⟨w.heap.size, 0, none⟩)] t2) := by
    rw [show w.heap.size + 1 = (w.alloc (.cells o t)).heap.size from by simp]; exact heap_alloc_new _ _
  exact ⟨by rw [cell_of_row _ _ 0 _ _ _ h2]; rfl, by rw [cell_of_row _ _ 1 _ _ _ h2]; rfl, by rw [cell_of_row _ _ 0 _ _ _ h1]; exact ho⟩
theorem Two.u0 {W : World} {b g : Nat} (_ : Two W b g) : Unmade W (.pointer none) := .inl rfl
theorem Two.u1 {W : World} {b g : Nat} (h : Two W b g) : Unmade W (.pointer (some ⟨g, 0, none⟩)) := .inr ⟨g, rfl, h.un⟩

set_option maxRecDepth 100000 in
set_option maxHeartbeats 2000000 in
theorem none_any (n k : Int) (w : World) : Calls Try.prog 9 #[.int .u32 n, .int .i64 k] w fun e w' => e = .returned (.bool true) ∧ Below w.heap.size w w' := by
  go_enter Try.func9, Try.ntmps9
  go_wp2_with fail
  generalize hW : (w.alloc _).alloc _ = W
  have H1 := Lib.hid (show Two W (w.heap.size + 1) w.heap.size ∧ Below w.heap.size w W by subst hW; exact ⟨two_of w _ _ _ rfl _ rfl, ext_trans (ext_alloc _ _) (ext_alloc _ _)⟩)
  clear hW
  go_loopg [18] 2 (fun r n18 wr => ∃ i : Nat, i + r = 2 ∧ n18 = .int .i64 (i : Int) ∧ W = wr)
  case atStart => exact ⟨0, by omega, rfl, rfl⟩
  case round =>
    obtain ⟨i, hir, rfl, rfl⟩ := hrel
    obtain ⟨c0, c1, un⟩ := H1.out.1
    rcases (show i = 0 ∨ i = 1 ∨ i = 2 from by omega) with rfl | rfl | rfl
    · go_wp2_with fail
      refine (none_put _ _ _ _ H1.out.1.u0).mono ?_
      rintro e w1 ⟨rfl, rfl⟩
      go_wp2_with fail
      refine (none_align _ _ H1.out.1.u0).mono ?_
      rintro e w1 ⟨rfl, rfl⟩
      go_wp2_with fail
      refine (none_take _ _ H1.out.1.u0).mono ?_
      rintro e w1 ⟨rfl, rfl⟩
      go_wp2_with fail
      refine (none_bits _ _ H1.out.1.u0).mono ?_
      rintro e w1 ⟨rfl, rfl⟩
      go_wp2_with fail
      go_roundg 1
      case measure => omega
      case rel => exact ⟨1, rfl, rfl, rfl⟩
    · go_wp2_with fail
      refine (none_put _ _ _ _ H1.out.1.u1).mono ?_
      rintro e w1 ⟨rfl, rfl⟩
      go_wp2_with fail
      refine (none_align _ _ H1.out.1.u1).mono ?_
      rintro e w1 ⟨rfl, rfl⟩
      go_wp2_with fail
      refine (none_take _ _ H1.out.1.u1).mono ?_
      rintro e w1 ⟨rfl, rfl⟩
      go_wp2_with fail
      refine (none_bits _ _ H1.out.1.u1).mono ?_
      rintro e w1 ⟨rfl, rfl⟩
      go_wp2_with fail
      go_roundg 0
      case measure => omega
      case rel => exact ⟨2, rfl, rfl, rfl⟩
    · go_wp2_with fail
      clear c0 c1 un
      generalize hW2 : (W.alloc _).alloc _ = W2
      have H2 := Lib.hid (show Two W2 (W.heap.size + 1) W.heap.size ∧ Below W.heap.size W W2 by subst hW2; exact ⟨two_of W _ _ _ rfl _ rfl, ext_trans (ext_alloc _ _) (ext_alloc _ _)⟩)
      clear hW2
      go_loopg [47] 2 (fun r n18 wr => ∃ i : Nat, i + r = 2 ∧ n18 = .int .i64 (i : Int) ∧ W2 = wr)
      case atStart => exact ⟨0, by omega, rfl, rfl⟩
      case round =>
      obtain ⟨i, hir, rfl, rfl⟩ := hrel
      obtain ⟨c0, c1, un⟩ := H2.out.1
      rcases (show i = 0 ∨ i = 1 ∨ i = 2 from by omega) with rfl | rfl | rfl
      · go_wp2_with fail
        refine (none_get _ _ _ H2.out.1.u0).mono ?_
        rintro e w1 ⟨rfl, rfl⟩
        go_wp2_with fail
        refine (none_ralign _ _ H2.out.1.u0).mono ?_
        rintro e w1 ⟨rfl, rfl⟩
        go_wp2_with fail
        refine (none_at _ _ H2.out.1.u0).mono ?_
        rintro e w1 ⟨rfl, rfl⟩
        go_wp2_with fail
        go_roundg 1
        case measure => omega
        case rel => exact ⟨1, rfl, rfl, rfl⟩
      · go_wp2_with fail
        refine (none_get _ _ _ H2.out.1.u1).mono ?_
        rintro e w1 ⟨rfl, rfl⟩
        go_wp2_with fail
        refine (none_ralign _ _ H2.out.1.u1).mono ?_
        rintro e w1 ⟨rfl, rfl⟩
        go_wp2_with fail
        refine (none_at _ _ H2.out.1.u1).mono ?_
        rintro e w1 ⟨rfl, rfl⟩
        go_wp2_with fail
        go_roundg 0
        case measure => omega
        case rel => exact ⟨2, rfl, rfl, rfl⟩
      · go_wp2_with fail
        refine (awake_any _).mono ?_
        rintro e w23 ⟨rfl, hb23⟩
        go_wp2_with fail
        go_ret
        exact ⟨rfl, ext_trans H1.out.2 (ext_trans H2.out.2 hb23)⟩
end Go.Proofs.Ytadnikpbmjflaaa.BitsN2
