/- The walk of BvhNone. -/
import Derived.Test.YtdaokkgenfpmhaaBvhI
set_option linter.unusedVariables false
set_option linter.unusedSimpArgs false
namespace Go.Proofs.Ytdaokkgenfpmhaa.BvhK
open Go Go.RowKit Go.Sort Go.Lib FixM Base Num FixW Qb Qt Qa Qf Qg VecW VecV VecU LightQ LightC MeshM Rec MeshA MeshC MeshD MeshP HitM HitT HitX HitN HitS HitV BvhM BvhA BvhB BvhS BvhC BvhD BvhU BvhW BvhX BvhE BvhF BvhG BvhH BvhJ BvhI
theorem nil_near (w : World) (r : Ry) (least : Int) : Calls Try.prog 5 #[.pointer none, rayV r, .int .i64 least] w (VTo (.tuple #[.agg #[.int .i64 0, .int .i64 (-1), .int .i64 0, .int .i64 0], .int .i64 0]) w) := near_nil w r least
theorem unmade_near (w : World) (g : Nat) (hg : g < w.heap.size) (h0 : w.cell? ⟨g, 0, none⟩ = some (.bool false)) (r : Ry) (least : Int) : Calls Try.prog 5 #[.pointer (some ⟨g, 0, none⟩), rayV r, .int .i64 least] w (VTo (.tuple #[.agg #[.int .i64 0, .int .i64 (-1), .int .i64 0, .int .i64 0], .int .i64 0]) w) := near_unmade w g hg h0 r least
set_option maxRecDepth 100000 in
set_option maxHeartbeats 16000000 in
theorem bvhNone_any (w : World) (r : Ry) (hr : r.ok) (least : Int) : Calls Try.prog 3 #[rayV r, .int .i64 least] w (AwTo w) := by
  have CN := Lib.hid (fun w2 => nil_near w2 r least)
  have CU := Lib.hid (fun w2 g hg h0 => unmade_near w2 g hg h0 r least)
  obtain ⟨⟨oX, oY, oZ⟩, ⟨dX, dY, dZ⟩⟩ := r
  dsimp only [rayV] at *
  obtain ⟨hA, hB, hC, hB0⟩ := al3h w (.cells #[.int .i64 oX, .int .i64 oY, .int .i64 oZ, .int .i64 dX, .int .i64 dY, .int .i64 dZ] 25) (.cells #[.bool false, .slice none 0 0, .slice none 0 0, .slice none 0 0, .slice none 0 0, .slice none 0 0, .int .i64 0] 35) (.cells #[.pointer none, .pointer (some ⟨w.heap.size + 1, 0, none⟩)] 26)
  clear hr
  go_enter Try.func3, Try.ntmps3
  go_upto_region 3 with (fail)
  obtain ⟨W, hW⟩ : ∃ ww, ww = ((w.alloc (.cells #[.int .i64 oX, .int .i64 oY, .int .i64 oZ, .int .i64 dX, .int .i64 dY, .int .i64 dZ] 25)).alloc (.cells #[.bool false, .slice none 0 0, .slice none 0 0, .slice none 0 0, .slice none 0 0, .slice none 0 0, .int .i64 0] 35)).alloc (.cells #[.pointer none, .pointer (some ⟨w.heap.size + 1, 0, none⟩)] 26) := ⟨_, rfl⟩
  rw [← hW] at hA hB hC hB0 ⊢
  have HR := Lib.hid hA
  have HT := Lib.hid hB
  have HS := Lib.hid hC
  have HB := Lib.hid hB0
  clear hA hB hC hB0 hW
  have HAW := Lib.hid (fun w2 => awake_any w2)
  have EQ := EQN
  go_wp2_with fail
  go_loopg [15] 2 (fun r n wr => ∃ k : Nat, k + r = 2 ∧ n = .int .i64 (k : Int) ∧ Hid (Below W.heap.size W wr))
  case atStart => exact ⟨0, rfl, rfl, Lib.hid (Below.refl _ _)⟩
  case round =>
    obtain ⟨k, hkr, rfl, hin⟩ := hrel
    have HR9 := Lib.hid (vec_step HR.out hin.out)
    have HT9 := Lib.hid (vec_step HT.out hin.out)
    have HS9 := Lib.hid (vec_step HS.out hin.out)
    have HB9 := Lib.hid (HB.out.trans (hin.out.mono HB.out.size))
    have HIN := Lib.hid hin.out
    clear hin
    have hk : k = 0 ∨ k = 1 ∨ k = 2 := by omega
    rcases hk with rfl | rfl | rfl
    · have HG := Lib.hid (show 2 - (0 + 1) < gk by omega)
      clear hkr
      have s0 := cell_row HS9.out 0 _ rfl
      have e0 := cell_row HR9.out 0 _ rfl
      have e1 := cell_row HR9.out 1 _ rfl
      have e2 := cell_row HR9.out 2 _ rfl
      have e3 := cell_row HR9.out 3 _ rfl
      have e4 := cell_row HR9.out 4 _ rfl
      have e5 := cell_row HR9.out 5 _ rfl
      go_wp2_with fail
      refine (CN.out _).mono ?_
      rintro e y1 ⟨rfl, hb⟩
      have HI1 := Lib.hid (HIN.out.trans (hb.mono HIN.out.size))
      have HT1 := Lib.hid (vec_step HT9.out hb)
      clear hb s0 e0 e1 e2 e3 e4 e5
      go_upto_region 6 with (fail)
      have hx := ext_alloc y1 (.cells #[.int .i64 0, .int .i64 (-1), .int .i64 0, .int .i64 0] 38)
      have hn := heap_alloc_new y1 (.cells #[.int .i64 0, .int .i64 (-1), .int .i64 0, .int .i64 0] 38)
      obtain ⟨y2, hW⟩ : ∃ ww, ww = y1.alloc (.cells #[.int .i64 0, .int .i64 (-1), .int .i64 0, .int .i64 0] 38) := ⟨_, rfl⟩
      rw [← hW] at hx hn ⊢
      have HI2 := Lib.hid (HI1.out.trans (hx.mono HI1.out.size))
      have HT2 := Lib.hid (vec_step HT1.out hx)
      have e0 := cell_row hn 0 _ rfl
      have e1 := cell_row hn 1 _ rfl
      have e2 := cell_row hn 2 _ rfl
      have e3 := cell_row hn 3 _ rfl
      clear hn hW hx HI1 HT1
      go_wp2_with fail
      refine (nodes_nil _).mono ?_
      rintro e _ ⟨rfl, rfl⟩
      go_wp2_with fail
      refine (deep_nil _).mono ?_
      rintro e _ ⟨rfl, rfl⟩
      go_wp2_with fail
      go_roundg (2 - (0 + 1))
      case measure => exact HG.out
      case rel => exact ⟨1, by decide, by first | rfl | go_num, HI2⟩
    · have HG := Lib.hid (show 2 - (1 + 1) < gk by omega)
      clear hkr
      have s0 := cell_row HS9.out 1 _ rfl
      have e0 := cell_row HR9.out 0 _ rfl
      have e1 := cell_row HR9.out 1 _ rfl
      have e2 := cell_row HR9.out 2 _ rfl
      have e3 := cell_row HR9.out 3 _ rfl
      have e4 := cell_row HR9.out 4 _ rfl
      have e5 := cell_row HR9.out 5 _ rfl
      go_wp2_with fail
      refine (CU.out _ (w.heap.size + 1) (Base.lt_of_heap HT9.out) (cell_row HT9.out 0 _ rfl)).mono ?_
      rintro e y1 ⟨rfl, hb⟩
      have HI1 := Lib.hid (HIN.out.trans (hb.mono HIN.out.size))
      have HT1 := Lib.hid (vec_step HT9.out hb)
      clear hb s0 e0 e1 e2 e3 e4 e5
      go_upto_region 6 with (fail)
      have hx := ext_alloc y1 (.cells #[.int .i64 0, .int .i64 (-1), .int .i64 0, .int .i64 0] 38)
      have hn := heap_alloc_new y1 (.cells #[.int .i64 0, .int .i64 (-1), .int .i64 0, .int .i64 0] 38)
      obtain ⟨y2, hW⟩ : ∃ ww, ww = y1.alloc (.cells #[.int .i64 0, .int .i64 (-1), .int .i64 0, .int .i64 0] 38) := ⟨_, rfl⟩
      rw [← hW] at hx hn ⊢
      have HI2 := Lib.hid (HI1.out.trans (hx.mono HI1.out.size))
      have HT2 := Lib.hid (vec_step HT1.out hx)
      have e0 := cell_row hn 0 _ rfl
      have e1 := cell_row hn 1 _ rfl
      have e2 := cell_row hn 2 _ rfl
      have e3 := cell_row hn 3 _ rfl
      clear hn hW hx HI1 HT1
      go_wp2_with fail
      refine (nodes_unmade (w.heap.size + 1) _ (cell_row HT2.out 0 _ rfl)).mono ?_
      rintro e _ ⟨rfl, rfl⟩
      go_wp2_with fail
      refine (deep_unmade (w.heap.size + 1) _ (cell_row HT2.out 0 _ rfl)).mono ?_
      rintro e _ ⟨rfl, rfl⟩
      go_wp2_with fail
      go_roundg (2 - (1 + 1))
      case measure => exact HG.out
      case rel => exact ⟨2, by decide, by first | rfl | go_num, HI2⟩
    · clear hkr
      go_wp2_with fail
      refine (HAW.out _).mono ?_
      rintro e y1 ⟨rfl, hb⟩
      have HF := Lib.hid (HB9.out.trans (hb.mono HB9.out.size))
      go_wp2_with fail
      go_ret
      exact ⟨rfl, HF.out⟩
end Go.Proofs.Ytdaokkgenfpmhaa.BvhK
