import Derived.Test.YtighlefajekloaaPe
import Derived.Test.YtighlefajekloaaDefEh
import Derived.Deep.MidRow
import Derived.Test.YtighlefajekloaaPg
/- Package lightwellref08: ahead, Write, End. Printed by mkpngj.py. -/
set_option linter.unusedVariables false
set_option linter.unusedSimpArgs false
namespace Go.Proofs.Ytighlefajekloaa.PngJ
open Go.RowKit Go.Sort Base Low NumSl DefDa DefDb NumAp BitsM DefM DefN DefO SumsM SumsW DefEg DefEh PngC PngD PngE PngF PngI Qb Qt Qw AppCh
theorem size_w8 : (Try.prog.info? 64).map (·.size) = some 6 := by kernel_rfl
/-- a whole writer stored -/
theorem store_w8 {ops : Array Oper} {rest : List Oper} {o : Oper} {a : Act} {w : World} {Q : Exit → Act → World → Prop} (hgd : o.guard = none) (x y : Operand) (ho : o.op = .store 64 x y) (hd : o.dst = none)
    (g : Nat) (a1 : Option Addr) (n1 c1 : Nat) (t1 : Int) (a2 : Option Addr) (n2 c2 : Nat) (t2 : Int) (ov bg : Bool) (hx : a.eval x = .pointer (some ⟨g, 0, none⟩)) (hy : a.eval y = .agg #[.slice a1 n1 c1, .int .i64 t1, .slice a2 n2 c2, .int .i64 t2, .bool ov, .bool bg])
    (cur : Array Value) (hg : w.heap[g]? = some (.cells cur 64)) (hc : cur.size = 6)
    (h : wpList Try.prog ops Q rest a (w.setRow g #[.slice a1 n1 c1, .int .i64 t1, .slice a2 n2 c2, .int .i64 t2, .bool ov, .bool bg])) : wpList Try.prog ops Q (o :: rest) a w :=
  wpList_store_arr hgd 64 x y ho g _ hx hy 64 cur hg size_w8 (by rw [hc]; rfl) (by intro v hv; simp at hv; rcases hv with rfl | rfl | rfl | rfl | rfl | rfl <;> rfl) hd h
/-- a whole writer loaded -/
theorem load_w8 {ops : Array Oper} {rest : List Oper} {o : Oper} {a : Act} {w : World} {Q : Exit → Act → World → Prop} (hgd : o.guard = none) (x : Operand) (ho : o.op = .load 64 x)
    (g : Nat) (hx : a.eval x = .pointer (some ⟨g, 0, none⟩)) (cs : Array Value) (hg : w.heap[g]? = some (.cells cs 64)) (hc : cs.size = 6) (h : wpList Try.prog ops Q rest (a.put o.dst (.agg cs)) w) : wpList Try.prog ops Q (o :: rest) a w :=
  wpList_load_row hgd 64 x ho g hx 64 cs (0, 0) _ hg Try.underlying64 rfl (by rw [hc]; exact size_w8) h
/-- the deflate writer in it loaded -/
theorem load_w86 {ops : Array Oper} {rest : List Oper} {o : Oper} {a : Act} {w : World} {Q : Exit → Act → World → Prop} (hgd : o.guard = none) (x : Operand) (ho : o.op = .load 62 x)
    (g : Nat) (hx : a.eval x = .pointer (some ⟨g, 0, none⟩)) (x0 x1 x2 x3 x4 x5 : Value) (hg : w.heap[g]? = some (.cells #[x0, x1, x2, x3, x4, x5] 64)) (h : wpList Try.prog ops Q rest (a.put o.dst (.agg #[x0, x1, x2, x3, x4])) w) : wpList Try.prog ops Q (o :: rest) a w := by
  refine wpList_load_mid hgd 62 x ho g 0 hx [x0, x1, x2, x3, x4] _ (fun j v hj => ?_) Try.underlying62 rfl size_w6 h
  rw [cell_of_row _ _ _ _ _ _ hg]
  match j, hj with
  | 0, h => exact h
  | 1, h => exact h
  | 2, h => exact h
  | 3, h => exact h
  | 4, h => exact h
  | n + 5, h => simp at h
theorem store_w86 {ops : Array Oper} {rest : List Oper} {o : Oper} {a : Act} {w : World} {Q : Exit → Act → World → Prop} (hgd : o.guard = none) (x y : Operand) (ho : o.op = .store 62 x y) (hd : o.dst = none)
    (g : Nat) (a1 : Option Addr) (n1 c1 : Nat) (t1 : Int) (a2 : Option Addr) (n2 c2 : Nat) (t2 : Int) (ov : Bool) (hx : a.eval x = .pointer (some ⟨g, 0, none⟩)) (hy : a.eval y = .agg #[.slice a1 n1 c1, .int .i64 t1, .slice a2 n2 c2, .int .i64 t2, .bool ov])
    (x0 x1 x2 x3 x4 x5 : Value) (hg : w.heap[g]? = some (.cells #[x0, x1, x2, x3, x4, x5] 64))
    (h : ∀ w', w'.heap[g]? = some (.cells #[.slice a1 n1 c1, .int .i64 t1, .slice a2 n2 c2, .int .i64 t2, .bool ov, x5] 64) → Keeps (fun k => k = g) w w' → wpList Try.prog ops Q rest a w') : wpList Try.prog ops Q (o :: rest) a w := by
  refine wpList_store_mid hgd 62 x y ho g 0 _ hx hy (fun j hj => ?_) size_w6 (all_oneCell_toArray (by intro v hv; simp at hv; rcases hv with rfl | rfl | rfl | rfl | rfl <;> rfl)) ?_
  · refine ⟨?_, frozen_of_row _ _ _ _ _ hg⟩
    rw [cell_of_row _ _ _ _ _ _ hg]
    have hj5 : j < 5 := hj
    match j, hj5 with
    | 0, _ => rfl
    | 1, _ => rfl
    | 2, _ => rfl
    | 3, _ => rfl
    | 4, _ => rfl
    | n + 5, h => omega
  · rw [hd]
    refine h _ ?_ ?_
    · exact heap_setCell_same _ g 4 _ _ (.bool ov) (heap_setCell_same _ g 3 _ _ (.int .i64 t2) (heap_setCell_same _ g 2 _ _ (.slice a2 n2 c2) (heap_setCell_same _ g 1 _ _ (.int .i64 t1) (heap_setCell_same w g 0 _ _ (.slice a1 n1 c1) hg))))
    · exact (((((Keeps.refl (fun k => k = g) w).setCell g 0 (.slice a1 n1 c1) (.inl rfl)).setCell g 1 (.int .i64 t1) (.inl rfl)).setCell g 2 (.slice a2 n2 c2) (.inl rfl)).setCell g 3 (.int .i64 t2) (.inl rfl)).setCell g 4 (.bool ov) (.inl rfl)
theorem headZ_len (bg : Bool) : (headZ bg).length ≤ 2 := by cases bg <;> decide
set_option maxRecDepth 100000 in
set_option maxHeartbeats 2000000 in
theorem ahead_any (w : World) (a1 : Option Addr) (n1 c1 : Nat) (t1 : Int) (a2 : Option Addr) (n2 c2 : Nat) (t2 : Int) (ov bg : Bool) (u : Value) (b : List Nat) (hu : Nums .u8 256 w u b) (hul : ∀ k, u.ownBlock = some k → k < w.heap.size) (hb : b.length ≤ 1000000) :
    Calls Try.prog 44 #[.agg #[.slice a1 n1 c1, .int .i64 t1, .slice a2 n2 c2, .int .i64 t2, .bool ov, .bool bg], u] w fun e w' => ∃ y, e = .returned (.tuple #[.agg #[.slice a1 n1 c1, .int .i64 t1, .slice a2 n2 c2, .int .i64 t2, .bool ov, .bool true], y]) ∧ Own .u8 256 5 w.heap.size w' y (headZ bg ++ b) ∧ Below w.heap.size w w' := by
  obtain ⟨au, cu, rfl, -, -⟩ := hu.open_
  obtain ⟨nu, hnu⟩ : ∃ n, n = b.length := ⟨_, rfl⟩
  have HU := Lib.hid hu
  rw [← hnu] at HU hul ⊢
  have HLU0 := Lib.hid hul
  have HNU := Lib.hid hnu
  clear hu hnu hul
  have hx := ((Below.refl w.heap.size w).alloc (Nat.le_refl _) (.cells #[.slice a1 n1 c1, .int .i64 t1, .slice a2 n2 c2, .int .i64 t2, .bool ov, .bool bg] 64)).alloc (by simp) (.cells #[.slice none 0 0, .int .i64 0, .slice none 0 0, .int .i64 0, .bool false, .bool false] 64)
  have hrr := heap_alloc_new (w.alloc (.cells #[.slice a1 n1 c1, .int .i64 t1, .slice a2 n2 c2, .int .i64 t2, .bool ov, .bool bg] 64)) (.cells #[.slice none 0 0, .int .i64 0, .slice none 0 0, .int .i64 0, .bool false, .bool false] 64)
  have hrb := (heap_alloc_old (w.alloc (.cells #[.slice a1 n1 c1, .int .i64 t1, .slice a2 n2 c2, .int .i64 t2, .bool ov, .bool bg] 64)) (.cells #[.slice none 0 0, .int .i64 0, .slice none 0 0, .int .i64 0, .bool false, .bool false] 64) (r := w.heap.size) (by simp)).trans (heap_alloc_new w (.cells #[.slice a1 n1 c1, .int .i64 t1, .slice a2 n2 c2, .int .i64 t2, .bool ov, .bool bg] 64))
  rw [show (w.alloc (.cells #[.slice a1 n1 c1, .int .i64 t1, .slice a2 n2 c2, .int .i64 t2, .bool ov, .bool bg] 64)).heap.size = w.heap.size + 1 by simp] at hrr
  go_enter Try.func44, Try.ntmps44
  go_upto_region 1 with (fail)
  obtain ⟨W, hW⟩ : ∃ W, W = (w.alloc (.cells #[.slice a1 n1 c1, .int .i64 t1, .slice a2 n2 c2, .int .i64 t2, .bool ov, .bool bg] 64)).alloc (.cells #[.slice none 0 0, .int .i64 0, .slice none 0 0, .int .i64 0, .bool false, .bool false] 64) := ⟨_, rfl⟩
  rw [← hW] at hx hrr hrb ⊢
  obtain ⟨gr, hgr⟩ : ∃ g, g = w.heap.size + 1 := ⟨_, rfl⟩
  obtain ⟨gb, hgb⟩ : ∃ g, g = w.heap.size := ⟨_, rfl⟩
  rw [← hgr] at hrr ⊢
  rw [← hgb] at hrb ⊢
  have HL := Lib.hid (show w.heap.size ≤ gb ∧ w.heap.size ≤ gr ∧ ¬ gb = gr by omega)
  have hltb := lt_of_heap hrb
  have hltr := lt_of_heap hrr
  have HX := Lib.hid hx
  have HRR := Lib.hid hrr
  have HRB := Lib.hid hrb
  have HU1 := Lib.hid (HU.out.below hx (Nat.le_refl _))
  have c5 : W.cell? ⟨gb, 5, none⟩ = some (.bool bg) := cell_of_row _ _ 5 _ _ _ hrb
  clear hW hx hrr hrb hgr hgb HU
  go_upto_if 9 with (fail)
  go_cut [6] (fun v6 wc => Own .u8 256 5 W.heap.size wc v6 (headZ bg) ∧ Below W.heap.size W wc)
  case first =>
    cases bg with
    | true =>
      go_wp2_with fail
      go_meet
      case rel => exact ⟨Own.nil _ _ _ _ _, Below.refl _ _⟩
    | false =>
      have hxa := ext_alloc W (.cells #[.int .u8 120, .int .u8 1] 5)
      have HN := Lib.hid (nums_blk .u8 256 (heap_alloc_new W (.cells #[.int .u8 120, .int .u8 1] 5)) [120, 1] (by decide) (by decide) rfl 2 rfl)
      have HXA := Lib.hid hxa
      have hbsa := hxa.size
      clear hxa
      go_wp2_with (at_builtin; refine wpList_append_nums_at rfl (.tmp 10) (.tmp 11) 33 5 rfl .u8 256 1 W.heap.size u8s (.slice none 0 0) [] rfl (Own.nil _ _ _ _ _) _ [120, 1] rfl HN.out (by decide) (by decide) hbsa ?_; intro v8 w8 ho8 hg8 hf8; have HO8 := Lib.hid ho8; have HG8 := Lib.hid hg8; clear ho8 hg8 hf8)
      go_meet
      case rel => exact ⟨HO8.out, below_grown HXA.out (Own.nil .u8 256 5 _ _) HG8.out (Nat.le_refl _) hbsa⟩
  case rest =>
    obtain ⟨ho6, hb6⟩ := hcut
    generalize wc = W3 at *
    have HRB3 := Lib.hid ((hb6.block gb hltb).trans HRB.out)
    have HRR3 := Lib.hid ((hb6.block gr hltr).trans HRR.out)
    have HU3 := Lib.hid (HU1.out.below hb6 (Nat.le_refl _))
    have HX3 := Lib.hid (HX.out.trans (hb6.mono HX.out.size))
    have HO6 := Lib.hid ho6
    have hs3 := hb6.size
    have y5 : W3.cell? ⟨gb, 5, none⟩ = some (.bool bg) := cell_of_row _ _ 5 _ _ _ HRB3.out
    have f5 := frozen_of_row _ _ 5 _ _ HRB3.out
    clear ho6 hb6 c5 HRB HRR
    go_upto_region 5 with (fail)
    have hk5 := (Keeps.refl (fun k => k = gb) W3).setCell gb 5 (.bool true) (.inl rfl)
    have hr5 := heap_setCell_same W3 gb 5 _ _ (.bool true) HRB3.out
    generalize W3.setCell ⟨gb, 5, none⟩ (.bool true) = W5 at *
    have hu1 : ∀ k, (Value.slice au nu cu).ownBlock = some k → k < w.heap.size := HLU0.out
    have HU5 := Lib.hid (HU3.out.frame hk5 (fun k e h => by have := hu1 k e; have := HL.out; omega))
    have HO5 := Lib.hid (HO6.out.frame hk5 (fun k e h => by have := (HO6.out.lt k e).1; omega))
    have HRR5 := Lib.hid ((hk5.block gr (by omega) (fun e => HL.out.2.2 e.symm)).trans HRR3.out)
    have HRB5 := Lib.hid hr5
    have HX5 := Lib.hid (HX3.out.trans (hk5.below w.heap.size HX3.out.size (fun k e => by rw [e]; exact HL.out.1)))
    have hs5 : W.heap.size ≤ W5.heap.size := Nat.le_trans hs3 hk5.size
    have HLU := Lib.hid hu1
    have HS0 := Lib.hid (show SD .u8 256 5 W.heap.size W5 u6 (headZ bg) b (.b (.slice au nu cu)) W5 from ⟨Keeps.refl _ _, HO5.out, HU5.out⟩)
    have HKR := Lib.hid (fun (g : Nat) (h : g < W.heap.size) (e : u6.ownBlock = some g) => show False from by have := (HO5.out.lt g e).1; omega)
    clear hk5 hr5 hu1 y5 f5 HU3 HO6 HRR3 HRB3 HX3
    refine wp_region_writes 4 [0, 1, 2] [3] (SD .u8 256 5 W.heap.size W5 u6 (headZ bg) b) (.b (.slice au nu cu)) (by kernel_rfl) (by kernel_rfl) (SD.step _ _ _ HS0.out ⟨rfl, rfl, rfl, Nat.le_refl _, fun _ _ => rfl⟩) ?_
    refine Qw.Walk.step (A := ?A0) (o := ?o0) (fun s w w2 h hb => SD.step s w w2 h hb) (.b (.slice au nu cu)) W5 HS0.out ?e0 ?w0 14 ?d0 (by simp) ?h0 ?n0
    case e0 => simp only [List.getElem?_toArray, List.getElem?_cons_succ, List.getElem?_cons_zero]; exact rfl
    case w0 => exact rfl
    case d0 => exact rfl
    case h0 =>
      intro s9 w9 h9
      have z0 : ∀ d os, (grow (redrawn w9 d) os).cell? ⟨gb, 0, none⟩ = some (.slice a1 n1 c1) := fun d os => cell_regrown (cell_of_row _ _ 0 _ _ _ ((h9.kp.block gb (by omega) (fun e => HKR.out gb hltb e)).trans HRB5.out)) d os
      have z1 : ∀ d os, (grow (redrawn w9 d) os).cell? ⟨gb, 1, none⟩ = some (.int .i64 t1) := fun d os => cell_regrown (cell_of_row _ _ 1 _ _ _ ((h9.kp.block gb (by omega) (fun e => HKR.out gb hltb e)).trans HRB5.out)) d os
      have z2 : ∀ d os, (grow (redrawn w9 d) os).cell? ⟨gb, 2, none⟩ = some (.slice a2 n2 c2) := fun d os => cell_regrown (cell_of_row _ _ 2 _ _ _ ((h9.kp.block gb (by omega) (fun e => HKR.out gb hltb e)).trans HRB5.out)) d os
      have z3 : ∀ d os, (grow (redrawn w9 d) os).cell? ⟨gb, 3, none⟩ = some (.int .i64 t2) := fun d os => cell_regrown (cell_of_row _ _ 3 _ _ _ ((h9.kp.block gb (by omega) (fun e => HKR.out gb hltb e)).trans HRB5.out)) d os
      have z4 : ∀ d os, (grow (redrawn w9 d) os).cell? ⟨gb, 4, none⟩ = some (.bool ov) := fun d os => cell_regrown (cell_of_row _ _ 4 _ _ _ ((h9.kp.block gb (by omega) (fun e => HKR.out gb hltb e)).trans HRB5.out)) d os
      have z5 : ∀ d os, (grow (redrawn w9 d) os).cell? ⟨gb, 5, none⟩ = some (.bool true) := fun d os => cell_regrown (cell_of_row _ _ 5 _ _ _ ((h9.kp.block gb (by omega) (fun e => HKR.out gb hltb e)).trans HRB5.out)) d os
      go_big_quiet_op
      exact rfl
    refine Qw.Walk.step (A := ?A1) (o := ?o1) (fun s w w2 h hb => SD.step s w w2 h hb) (.b (.slice au nu cu)) W5 HS0.out ?e1 ?w1 15 ?d1 (by simp) ?h1 ?n1
    case e1 => simp only [List.getElem?_toArray, List.getElem?_cons_succ, List.getElem?_cons_zero]; exact rfl
    case w1 => exact rfl
    case d1 => exact rfl
    case h1 =>
      intro s9 w9 h9
      go_big_quiet_op
      exact rfl
    refine Qw.Walk.step (A := ?A2) (o := ?o2) (fun s w w2 h hb => SD.step s w w2 h hb) (.b (.slice au nu cu)) W5 HS0.out ?e2 ?w2 16 ?d2 (by simp) ?h2 ?n2
    case e2 => simp only [List.getElem?_toArray, List.getElem?_cons_succ, List.getElem?_cons_zero]; exact rfl
    case w2 => exact rfl
    case d2 => exact rfl
    case h2 =>
      intro s9 w9 h9
      go_big_quiet_op
      exact rfl
    refine SD.app (oa := ?oa1) u8s hs5 ?l1 ?l2 ?b4 ?b6 (.tmp 15) (.tmp 16) ?b7 ?b8 ?b9 ?b5
    case b4 => simp only [List.getElem?_toArray, List.getElem?_cons_succ, List.getElem?_cons_zero]; exact rfl
    case b6 => exact rfl
    case b7 => exact rfl
    case b8 => exact rfl
    case b9 => exact rfl
    case l1 => have := headZ_len bg; omega
    case l2 => have := headZ_len bg; omega
    intro v9 w9 h9
    obtain ⟨hk9, ho9, hf9⟩ := h9
    simp only [List.drop_succ_cons, List.drop_zero, Act.put, List.setIfInBounds_toArray, List.set_cons_succ, List.set_cons_zero]
    obtain ⟨a9, n9, c9, rfl⟩ := ho9.slice_
    have HRR9 := Lib.hid ((hk9.block gr (by omega) (fun e => HKR.out gr hltr e)).trans HRR5.out)
    have HO9 := Lib.hid ho9
    have HX9 := Lib.hid (HX5.out.trans (hk9.below w.heap.size HX5.out.size (fun k e => by have := (HO5.out.lt k e).1; have := HX.out.size; omega)))
    clear hk9 ho9 hf9
    go_simp
    go_wp2_with (with_reducible refine store_w8 rfl (.tmp 4) (.tmp 14) rfl rfl gr _ _ _ _ _ _ _ _ _ _ rfl rfl _ HRR9.out rfl ?_)
    have hk10 : Keeps (fun k => k = gr) w9 (w9.setRow gr #[.slice a1 n1 c1, .int .i64 t1, .slice a2 n2 c2, .int .i64 t2, .bool ov, .bool true]) := (Keeps.refl (fun k => k = gr) w9).setRow gr _ (.inl rfl)
    refine bodyPost_ret (results_row_tmp rfl _ _ _ gr 64 _ _ _ rfl (setRow_heap _ _ _ _ _ _ HRR9.out) Try.underlying64 (by kernel_rfl)) rfl ?_
    refine ⟨_, rfl, ?_, HX9.out.trans (hk10.below w.heap.size HX9.out.size (fun k e => by rw [e]; exact HL.out.2.1))⟩
    exact (HO9.out.frame hk10 (fun k e h => by have := (HO9.out.lt k e).1; omega)).mono HX.out.size
/-- a zlib writer's value -/
structure Rz (w : World) (v : Value) (bg : Bool) (B : List Nat) : Prop where
  ex : ∃ a1 n1 c1 t1 a2 n2 c2 t2, v = .agg #[.slice a1 n1 c1, .int .i64 t1, .slice a2 n2 c2, .int .i64 t2, .bool false, .bool bg] ∧ Rv w (.agg #[.slice a1 n1 c1, .int .i64 t1, .slice a2 n2 c2, .int .i64 t2, .bool false]) B
def own6 (v : Value) (k : Nat) : Prop := ∃ va t vl s o b, v = .agg #[va, t, vl, s, o, b] ∧ (va.ownBlock = some k ∨ vl.ownBlock = some k)
theorem own6_of {va t vl s o b : Value} {k : Nat} (h : own6 (.agg #[va, t, vl, s, o, b]) k) : va.ownBlock = some k ∨ vl.ownBlock = some k := by
  obtain ⟨_, _, _, _, _, _, e, h⟩ := h
  simp only [Value.agg.injEq, Array.mk.injEq, List.cons.injEq, and_true] at e
  obtain ⟨rfl, -, rfl, -, -, -⟩ := e
  exact h
theorem own6_2 {va t vl s o b : Value} {k : Nat} (h : own6 (.agg #[va, t, vl, s, o, b]) k) : own2 (.agg #[va, t, vl, s, o]) k := ⟨_, _, _, _, _, rfl, own6_of h⟩
theorem own2_6 {va t vl s o b : Value} {k : Nat} (h : own2 (.agg #[va, t, vl, s, o]) k) : own6 (.agg #[va, t, vl, s, o, b]) k := ⟨_, _, _, _, _, _, rfl, own2_of h⟩
theorem Rz.lt {w : World} {v : Value} {bg : Bool} {B : List Nat} (h : Rz w v bg B) : ∀ k, own6 v k → k < w.heap.size := by
  obtain ⟨a1, n1, c1, t1, a2, n2, c2, t2, rfl, h1⟩ := h
  exact fun k hk => h1.lt k (own6_2 hk)
theorem Rz.frame {w w' : World} {v : Value} {bg : Bool} {B : List Nat} {D : Nat → Prop} (h : Rz w v bg B) (hk : Keeps D w w') (hD : ∀ k, own6 v k → ¬ D k) : Rz w' v bg B := by
  obtain ⟨a1, n1, c1, t1, a2, n2, c2, t2, rfl, h1⟩ := h
  exact ⟨a1, n1, c1, t1, a2, n2, c2, t2, rfl, h1.frame hk (fun k e => hD k (own2_6 e))⟩
theorem Rz.below {w w' : World} {v : Value} {bg : Bool} {B : List Nat} (h : Rz w v bg B) (hb : Below w.heap.size w w') : Rz w' v bg B := h.frame (Keeps.of_ext hb (fun _ => False)) (fun _ _ h => h)
theorem Rz.nil (w : World) : Rz w (.agg #[.slice none 0 0, .int .i64 0, .slice none 0 0, .int .i64 0, .bool false, .bool false]) false [] := ⟨none, 0, 0, 0, none, 0, 0, 0, rfl, Rv.nil w⟩
set_option maxRecDepth 100000 in
set_option maxHeartbeats 4000000 in
theorem zwrite_any (v : Value) (bg : Bool) (B : List Nat) (u : Value) (b : List Nat) (w : World) (h : Rz w v bg B) (hu : Nums .u8 256 w u b) (hul : ∀ k, u.ownBlock = some k → k < w.heap.size) (hlen : (B ++ b).length ≤ 20000) :
    Calls Try.prog 29 #[v, u] w fun e w' => ∃ v' x, e = .returned (.tuple #[v', x, .int .i64 0]) ∧ (Rz w' v' true (B ++ b) ∧ ∀ k, own6 v' k → own6 v k ∨ w.heap.size ≤ k) ∧ Own .u8 256 5 w.heap.size w' x (headZ bg ++ outN (bitsW (B ++ b)) ((bitsW B).length / 8)) ∧ Below w.heap.size w w' ∧ ∀ k, x.ownBlock = some k → ¬ own6 v' k := by
  obtain ⟨a1, n1, c1, t1, a2, n2, c2, t2, rfl, hR⟩ := h
  obtain ⟨au, cu, rfl, -, -⟩ := hu.open_
  obtain ⟨nu, hnu⟩ : ∃ n, n = b.length := ⟨_, rfl⟩
  have HLU0 := Lib.hid hul
  have hx := ((Below.refl w.heap.size w).alloc (Nat.le_refl _) (.cells #[.slice a1 n1 c1, .int .i64 t1, .slice a2 n2 c2, .int .i64 t2, .bool false, .bool bg] 64)).alloc (by simp) (.cells #[.slice none 0 0, .int .i64 0, .slice none 0 0, .int .i64 0, .bool false, .bool false] 64)
  have HW0 := Lib.hid (write_any _ B _ b _ (hR.below hx) (hu.below hx (Nat.le_refl _)) hlen)
  have HLT := Lib.hid hR.lt
  rw [← hnu] at HW0 HLU0 ⊢
  have HNU := Lib.hid hnu
  have HLEN := Lib.hid hlen
  clear hu hnu hul hR hlen
  have hrr := heap_alloc_new (w.alloc (.cells #[.slice a1 n1 c1, .int .i64 t1, .slice a2 n2 c2, .int .i64 t2, .bool false, .bool bg] 64)) (.cells #[.slice none 0 0, .int .i64 0, .slice none 0 0, .int .i64 0, .bool false, .bool false] 64)
  have hrb := (heap_alloc_old (w.alloc (.cells #[.slice a1 n1 c1, .int .i64 t1, .slice a2 n2 c2, .int .i64 t2, .bool false, .bool bg] 64)) (.cells #[.slice none 0 0, .int .i64 0, .slice none 0 0, .int .i64 0, .bool false, .bool false] 64) (r := w.heap.size) (by simp)).trans (heap_alloc_new w (.cells #[.slice a1 n1 c1, .int .i64 t1, .slice a2 n2 c2, .int .i64 t2, .bool false, .bool bg] 64))
  rw [show (w.alloc (.cells #[.slice a1 n1 c1, .int .i64 t1, .slice a2 n2 c2, .int .i64 t2, .bool false, .bool bg] 64)).heap.size = w.heap.size + 1 by simp] at hrr
  go_enter Try.func29, Try.ntmps29
  go_upto_region 1 with (fail)
  obtain ⟨W, hW⟩ : ∃ W, W = (w.alloc (.cells #[.slice a1 n1 c1, .int .i64 t1, .slice a2 n2 c2, .int .i64 t2, .bool false, .bool bg] 64)).alloc (.cells #[.slice none 0 0, .int .i64 0, .slice none 0 0, .int .i64 0, .bool false, .bool false] 64) := ⟨_, rfl⟩
  rw [← hW] at hx hrr hrb HW0 ⊢
  obtain ⟨gr, hgr⟩ : ∃ g, g = w.heap.size + 1 := ⟨_, rfl⟩
  obtain ⟨gb, hgb⟩ : ∃ g, g = w.heap.size := ⟨_, rfl⟩
  rw [← hgr] at hrr ⊢
  rw [← hgb] at hrb ⊢
  have HL := Lib.hid (show w.heap.size ≤ gb ∧ w.heap.size ≤ gr ∧ ¬ gb = gr by omega)
  have hltb := lt_of_heap hrb
  have hltr := lt_of_heap hrr
  have HX := Lib.hid hx
  have HRR := Lib.hid hrr
  have HRB := Lib.hid hrb
  clear hW hx hrr hrb hgr hgb
  go_wp2_with (with_reducible refine load_w86 rfl (.tmp 12) rfl gb rfl _ _ _ _ _ _ HRB.out ?_)
  refine HW0.out.mono ?_
  rintro e w2 ⟨v', x, rfl, ⟨hR2, hown⟩, hox, hb2⟩
  obtain ⟨b1, m1, d1, b2, m2, d2, rfl⟩ := hR2.shape
  obtain ⟨s1, hs1⟩ : ∃ s : Int, s = ((4096 * nb (B ++ b).length : Nat) : Int) := ⟨_, rfl⟩
  obtain ⟨s2, hs2⟩ : ∃ s : Int, s = (((bitsW (B ++ b)).length / 8 : Nat) : Int) := ⟨_, rfl⟩
  rw [← hs1, ← hs2] at hR2 hown ⊢
  obtain ⟨ax, nx, cx, rfl⟩ := hox.slice_
  have hxa := ext_alloc w2 (.cells #[.slice none 0 0, .int .i64 0, .slice none 0 0, .int .i64 0, .bool false] 62)
  have HR7 := Lib.hid (heap_alloc_new w2 (.cells #[.slice none 0 0, .int .i64 0, .slice none 0 0, .int .i64 0, .bool false] 62))
  have hown2 : ∀ k, own2 (.agg #[.slice b1 m1 d1, .int .i64 s1, .slice b2 m2 d2, .int .i64 s2, .bool false]) k → k < w2.heap.size ∧ (k < w.heap.size ∨ W.heap.size ≤ k) ∧ (own2 (.agg #[.slice a1 n1 c1, .int .i64 t1, .slice a2 n2 c2, .int .i64 t2, .bool false]) k ∨ w.heap.size ≤ k) := fun k hk =>
    ⟨hR2.lt k hk, (hown k hk).imp (HLT.out k) id, (hown k hk).imp id (fun h => Nat.le_trans HX.out.size h)⟩
  have HOWN := Lib.hid hown2
  have HR2 := Lib.hid (hR2.below hxa)
  have HRB2 := Lib.hid ((hxa.block gb (Nat.lt_of_lt_of_le hltb hb2.size)).trans ((hb2.block gb hltb).trans HRB.out))
  have HRR2 := Lib.hid ((hxa.block gr (Nat.lt_of_lt_of_le hltr hb2.size)).trans ((hb2.block gr hltr).trans HRR.out))
  have HX2 := Lib.hid ((HX.out.trans (hb2.mono HX.out.size)).trans (hxa.mono (Nat.le_trans HX.out.size hb2.size)))
  have HOX2 := Lib.hid (hox.below hxa (Nat.le_refl _))
  have HXL := Lib.hid hox.lt
  have hsz2 := hb2.size
  clear hs1 hs2 hR2 hown hox hb2 hxa hown2 HW0 HRB HRR
  go_upto_region 4 with (with_reducible refine store_w6 rfl (.tmp 7) (.tmp 16) rfl rfl w2.heap.size _ _ _ _ _ _ _ _ _ rfl rfl _ HR7.out rfl ?_)
  obtain ⟨w3, hw3⟩ : ∃ ww, ww = w2.alloc (.cells #[.slice none 0 0, .int .i64 0, .slice none 0 0, .int .i64 0, .bool false] 62) := ⟨_, rfl⟩
  rw [← hw3] at HR7 HR2 HRB2 HRR2 HX2 HOX2 ⊢
  obtain ⟨g7, hg7⟩ : ∃ g, g = w2.heap.size := ⟨_, rfl⟩
  rw [← hg7] at HR7 HOWN HXL ⊢
  have HG7 := Lib.hid (show W.heap.size ≤ g7 by omega)
  have hk4 : Keeps (fun k => k = g7) w3 (w3.setRow g7 #[.slice b1 m1 d1, .int .i64 s1, .slice b2 m2 d2, .int .i64 s2, .bool false]) := (Keeps.refl (fun k => k = g7) w3).setRow g7 _ (.inl rfl)
  have HR74 := Lib.hid (setRow_heap w3 g7 _ #[.slice b1 m1 d1, .int .i64 s1, .slice b2 m2 d2, .int .i64 s2, .bool false] _ _ HR7.out)
  generalize w3.setRow g7 #[.slice b1 m1 d1, .int .i64 s1, .slice b2 m2 d2, .int .i64 s2, .bool false] = w4 at *
  have HR4 := Lib.hid (HR2.out.frame hk4 (fun k hk e => by have := (HOWN.out k hk).1; omega))
  have HRB4 := Lib.hid ((hk4.block gb (lt_of_heap HRB2.out) (fun e => by have := HG7.out; omega)).trans HRB2.out)
  have HRR4 := Lib.hid ((hk4.block gr (lt_of_heap HRR2.out) (fun e => by have := HG7.out; omega)).trans HRR2.out)
  have HOX4 := Lib.hid (HOX2.out.frame hk4 (fun k e h => by have := (HXL.out k e).2; omega))
  have HX4 := Lib.hid (HX2.out.trans (hk4.below w.heap.size HX2.out.size (fun k e => by have := HG7.out; have := HX.out.size; omega)))
  clear hw3 hg7 hk4 HR7 HR2 HRB2 HRR2 HX2 HOX2
  go_upto_region 5 with (first
    | (with_reducible refine load_w6 rfl (.tmp 7) rfl g7 rfl _ HR74.out rfl ?_)
    | (with_reducible refine store_w86 rfl (.tmp 24) (.tmp 23) rfl rfl gb _ _ _ _ _ _ _ _ _ rfl rfl _ _ _ _ _ _ HRB4.out ?_; intro w5 hr5 hk5; have HRB5 := Lib.hid hr5; have HK5 := Lib.hid hk5; clear hr5 hk5))
  have HR5 := Lib.hid (HR4.out.frame HK5.out (fun k hk e => by have := (HOWN.out k hk).2.1; have := HL.out; omega))
  have HRR5 := Lib.hid ((HK5.out.block gr (lt_of_heap HRR4.out) (fun e => HL.out.2.2 e.symm)).trans HRR4.out)
  have HOX5 := Lib.hid (HOX4.out.frame HK5.out (fun k e h => by have := (HXL.out k e).1; omega))
  have HX5 := Lib.hid (HX4.out.trans (HK5.out.below w.heap.size HX4.out.size (fun k e => by rw [e]; exact HL.out.1)))
  have hol : (outN (bitsW (B ++ b)) ((bitsW B).length / 8)).length ≤ 1000000 := by have := bits_out_len B b; have := HLEN.out; omega
  have hnx := (nums_len HOX5.out.nums).1
  have hw5 : W.heap.size ≤ w5.heap.size := Nat.le_trans HG7.out (Nat.le_trans (Nat.le_of_lt (lt_of_heap HR74.out)) HK5.out.size)
  have hg75 : g7 < w5.heap.size := Nat.lt_of_lt_of_le (lt_of_heap HR74.out) HK5.out.size
  have HAH := Lib.hid (ahead_any w5 b1 m1 d1 s1 b2 m2 d2 s2 false bg _ _ HOX5.out.nums (fun k e => (HOX5.out.lt k e).2) hol)
  clear HK5 HR4 HRR4 HOX4 HX4 hol hnx
  go_wp2_with (with_reducible refine load_w8 rfl (.tmp 2) rfl gb rfl _ HRB5.out rfl ?_)
  refine HAH.out.mono ?_
  rintro e w6 ⟨y, rfl, hoy, hb6⟩
  have HR6 := Lib.hid (HR5.out.below hb6)
  have HRB6 := Lib.hid ((hb6.block gb (lt_of_heap HRB5.out)).trans HRB5.out)
  have HRR6 := Lib.hid ((hb6.block gr (lt_of_heap HRR5.out)).trans HRR5.out)
  have HX6 := Lib.hid (HX5.out.trans (hb6.mono HX5.out.size))
  have HOY := Lib.hid hoy
  clear hoy hb6 HAH HRB5 HRR5 HR5 HX5 HOX5
  go_upto_region 6 with (with_reducible refine store_w8 rfl (.tmp 2) (.tmp 29) rfl rfl gb _ _ _ _ _ _ _ _ _ _ rfl rfl _ HRB6.out rfl ?_)
  have hk7 : Keeps (fun k => k = gb) w6 (w6.setRow gb #[.slice b1 m1 d1, .int .i64 s1, .slice b2 m2 d2, .int .i64 s2, .bool false, .bool true]) := (Keeps.refl (fun k => k = gb) w6).setRow gb _ (.inl rfl)
  have HRB7 := Lib.hid (setRow_heap w6 gb _ #[.slice b1 m1 d1, .int .i64 s1, .slice b2 m2 d2, .int .i64 s2, .bool false, .bool true] _ _ HRB6.out)
  generalize w6.setRow gb #[.slice b1 m1 d1, .int .i64 s1, .slice b2 m2 d2, .int .i64 s2, .bool false, .bool true] = w7 at *
  have HR7 := Lib.hid (HR6.out.frame hk7 (fun k hk e => by have := (HOWN.out k hk).2.1; have := HL.out; omega))
  have HRR7 := Lib.hid ((hk7.block gr (lt_of_heap HRR6.out) (fun e => HL.out.2.2 e.symm)).trans HRR6.out)
  have HOY7 := Lib.hid (HOY.out.frame hk7 (fun k e h => by have := (HOY.out.lt k e).1; omega))
  have HX7 := Lib.hid (HX6.out.trans (hk7.below w.heap.size HX6.out.size (fun k e => by rw [e]; exact HL.out.1)))
  clear hk7 HR6 HRR6 HRB6 HX6
  go_wp2_with (first
    | (with_reducible refine load_w8 rfl (.tmp 2) rfl gb rfl _ HRB7.out rfl ?_)
    | (with_reducible refine store_w8 rfl (.tmp 4) (.tmp 31) rfl rfl gr _ _ _ _ _ _ _ _ _ _ rfl rfl _ HRR7.out rfl ?_))
  have hk8 : Keeps (fun k => k = gr) w7 (w7.setRow gr #[.slice b1 m1 d1, .int .i64 s1, .slice b2 m2 d2, .int .i64 s2, .bool false, .bool true]) := (Keeps.refl (fun k => k = gr) w7).setRow gr _ (.inl rfl)
  refine bodyPost_ret (results_row_tmp2 rfl _ _ _ gr 64 _ _ _ rfl (setRow_heap _ _ _ _ _ _ HRR7.out) Try.underlying64 (by kernel_rfl)) rfl ?_
  refine ⟨_, _, rfl, ⟨⟨_, _, _, _, _, _, _, _, rfl, HR7.out.frame hk8 (fun k hk e => by have := (HOWN.out k hk).2.1; have := HL.out; omega)⟩, fun k hk => ((HOWN.out k (own6_2 hk)).2.2).imp own2_6 id⟩, ?_, HX7.out.trans (hk8.below w.heap.size HX7.out.size (fun k e => by rw [e]; exact HL.out.2.1)), fun k e h => by have h1 := (HOWN.out k (own6_2 h)).1; have h2 := (HOY.out.lt k e).1; have := hg75; omega⟩
  exact (HOY7.out.frame hk8 (fun k e h => by have := (HOY.out.lt k e).1; omega)).mono (Nat.le_trans HX.out.size hw5)
set_option maxRecDepth 100000 in
set_option maxHeartbeats 1000000 in
theorem four8_any (w : World) (n : Nat) (hn : n < 4294967296) :
    Calls Try.prog 46 #[.int .u32 (n : Int)] w fun e w' => e = .returned (.slice (some ⟨w.heap.size, 0, none⟩) 4 4) ∧ Nums .u8 256 w' (.slice (some ⟨w.heap.size, 0, none⟩) 4 4) (fourL n) ∧ Below w.heap.size w w' := by
  go_enter Try.func46, Try.ntmps46
  go_wp2_with fail
  go_ret
  exact ⟨rfl, nums_blk .u8 256 (heap_alloc_new _ _) (fourL n) (by rw [fourL_len]; unfold maxLen; omega) (fourL_lt n) (four_row n hn) 4 rfl, ext_alloc _ _⟩
set_option maxRecDepth 100000 in
set_option maxHeartbeats 4000000 in
theorem zend_any (v : Value) (bg : Bool) (B : List Nat) (w : World) (h : Rz w v bg B) (hlen : B.length ≤ 20000) :
    Calls Try.prog 30 #[v] w fun e w' => ∃ v' x, e = .returned (.tuple #[v', x, .int .i64 0]) ∧ (∃ a1 n1 c1 t1 a2 n2 c2 t2, v' = .agg #[.slice a1 n1 c1, .int .i64 t1, .slice a2 n2 c2, .int .i64 t2, .bool true, .bool true]) ∧ Own .u8 256 5 w.heap.size w' x ((headZ bg ++ outN (endL B) ((bitsW B).length / 8)) ++ fourL (adler 1 B)) ∧ Below w.heap.size w w' := by
  obtain ⟨a1, n1, c1, t1, a2, n2, c2, t2, rfl, hR⟩ := h
  have hx := ((Below.refl w.heap.size w).alloc (Nat.le_refl _) (.cells #[.slice a1 n1 c1, .int .i64 t1, .slice a2 n2 c2, .int .i64 t2, .bool false, .bool bg] 64)).alloc (by simp) (.cells #[.slice none 0 0, .int .i64 0, .slice none 0 0, .int .i64 0, .bool false, .bool false] 64)
  have HW0 := Lib.hid (end_any _ B _ (hR.below hx) hlen)
  have HLEN := Lib.hid hlen
  have HLT := Lib.hid hR.lt
  clear hR hlen
  have hrr := heap_alloc_new (w.alloc (.cells #[.slice a1 n1 c1, .int .i64 t1, .slice a2 n2 c2, .int .i64 t2, .bool false, .bool bg] 64)) (.cells #[.slice none 0 0, .int .i64 0, .slice none 0 0, .int .i64 0, .bool false, .bool false] 64)
  have hrb := (heap_alloc_old (w.alloc (.cells #[.slice a1 n1 c1, .int .i64 t1, .slice a2 n2 c2, .int .i64 t2, .bool false, .bool bg] 64)) (.cells #[.slice none 0 0, .int .i64 0, .slice none 0 0, .int .i64 0, .bool false, .bool false] 64) (r := w.heap.size) (by simp)).trans (heap_alloc_new w (.cells #[.slice a1 n1 c1, .int .i64 t1, .slice a2 n2 c2, .int .i64 t2, .bool false, .bool bg] 64))
  rw [show (w.alloc (.cells #[.slice a1 n1 c1, .int .i64 t1, .slice a2 n2 c2, .int .i64 t2, .bool false, .bool bg] 64)).heap.size = w.heap.size + 1 by simp] at hrr
  go_enter Try.func30, Try.ntmps30
  go_upto_region 1 with (fail)
  obtain ⟨W, hW⟩ : ∃ W, W = (w.alloc (.cells #[.slice a1 n1 c1, .int .i64 t1, .slice a2 n2 c2, .int .i64 t2, .bool false, .bool bg] 64)).alloc (.cells #[.slice none 0 0, .int .i64 0, .slice none 0 0, .int .i64 0, .bool false, .bool false] 64) := ⟨_, rfl⟩
  rw [← hW] at hx hrr hrb HW0 ⊢
  obtain ⟨gr, hgr⟩ : ∃ g, g = w.heap.size + 1 := ⟨_, rfl⟩
  obtain ⟨gb, hgb⟩ : ∃ g, g = w.heap.size := ⟨_, rfl⟩
  rw [← hgr] at hrr ⊢
  rw [← hgb] at hrb ⊢
  have HL := Lib.hid (show w.heap.size ≤ gb ∧ w.heap.size ≤ gr ∧ ¬ gb = gr by omega)
  have hltb := lt_of_heap hrb
  have hltr := lt_of_heap hrr
  have HX := Lib.hid hx
  have HRR := Lib.hid hrr
  have HRB := Lib.hid hrb
  clear hW hx hrr hrb hgr hgb
  go_wp2_with (with_reducible refine load_w86 rfl (.tmp 10) rfl gb rfl _ _ _ _ _ _ HRB.out ?_)
  refine HW0.out.mono ?_
  rintro e w2 ⟨v', x, rfl, ⟨a1, n1, c1, t1, a2, n2, c2, t2, rfl, hNB⟩, hox, hb2⟩
  obtain ⟨ax, nx, cx, rfl⟩ := hox.slice_
  have hxa := ext_alloc w2 (.cells #[.slice none 0 0, .int .i64 0, .slice none 0 0, .int .i64 0, .bool false] 62)
  have HR7 := Lib.hid (heap_alloc_new w2 (.cells #[.slice none 0 0, .int .i64 0, .slice none 0 0, .int .i64 0, .bool false] 62))
  have HRB2 := Lib.hid ((hxa.block gb (Nat.lt_of_lt_of_le hltb hb2.size)).trans ((hb2.block gb hltb).trans HRB.out))
  have HRR2 := Lib.hid ((hxa.block gr (Nat.lt_of_lt_of_le hltr hb2.size)).trans ((hb2.block gr hltr).trans HRR.out))
  have HX2 := Lib.hid ((HX.out.trans (hb2.mono HX.out.size)).trans (hxa.mono (Nat.le_trans HX.out.size hb2.size)))
  have HOX2 := Lib.hid (hox.below hxa (Nat.le_refl _))
  have HXL := Lib.hid hox.lt
  have HNB2 := Lib.hid (hNB.1.below hxa (Nat.le_refl _))
  have HNL := Lib.hid (fun k (e : (Value.slice a1 n1 c1).ownBlock = some k) => HLT.out k (hNB.2 k e))
  have hsz2 := hb2.size
  clear hox hb2 hxa hNB HW0 HRB HRR
  go_upto_region 4 with (with_reducible refine store_w6 rfl (.tmp 5) (.tmp 13) rfl rfl w2.heap.size _ _ _ _ _ _ _ _ _ rfl rfl _ HR7.out rfl ?_)
  obtain ⟨w3, hw3⟩ : ∃ ww, ww = w2.alloc (.cells #[.slice none 0 0, .int .i64 0, .slice none 0 0, .int .i64 0, .bool false] 62) := ⟨_, rfl⟩
  rw [← hw3] at HR7 HRB2 HRR2 HX2 HOX2 HNB2 ⊢
  obtain ⟨g7, hg7⟩ : ∃ g, g = w2.heap.size := ⟨_, rfl⟩
  rw [← hg7] at HR7 HXL ⊢
  have HG7 := Lib.hid (show W.heap.size ≤ g7 by omega)
  have hk4 : Keeps (fun k => k = g7) w3 (w3.setRow g7 #[.slice a1 n1 c1, .int .i64 t1, .slice a2 n2 c2, .int .i64 t2, .bool true]) := (Keeps.refl (fun k => k = g7) w3).setRow g7 _ (.inl rfl)
  have HR74 := Lib.hid (setRow_heap w3 g7 _ #[.slice a1 n1 c1, .int .i64 t1, .slice a2 n2 c2, .int .i64 t2, .bool true] _ _ HR7.out)
  generalize w3.setRow g7 #[.slice a1 n1 c1, .int .i64 t1, .slice a2 n2 c2, .int .i64 t2, .bool true] = w4 at *
  have HRB4 := Lib.hid ((hk4.block gb (lt_of_heap HRB2.out) (fun e => by have := HG7.out; omega)).trans HRB2.out)
  have HRR4 := Lib.hid ((hk4.block gr (lt_of_heap HRR2.out) (fun e => by have := HG7.out; omega)).trans HRR2.out)
  have HOX4 := Lib.hid (HOX2.out.frame hk4 (fun k e h => by have := (HXL.out k e).2; omega))
  have HNB4 := Lib.hid (HNB2.out.frame hk4 (fun k e h => by have := HNL.out k e; have := HG7.out; have := HX.out.size; omega))
  have HX4 := Lib.hid (HX2.out.trans (hk4.below w.heap.size HX2.out.size (fun k e => by have := HG7.out; have := HX.out.size; omega)))
  clear hw3 hg7 hk4 HR7 HRB2 HRR2 HX2 HOX2 HNB2
  go_upto_region 5 with (first
    | (with_reducible refine load_w6 rfl (.tmp 5) rfl g7 rfl _ HR74.out rfl ?_)
    | (with_reducible refine store_w86 rfl (.tmp 21) (.tmp 20) rfl rfl gb _ _ _ _ _ _ _ _ _ rfl rfl _ _ _ _ _ _ HRB4.out ?_; intro w5 hr5 hk5; have HRB5 := Lib.hid hr5; have HK5 := Lib.hid hk5; clear hr5 hk5))
  have HRR5 := Lib.hid ((HK5.out.block gr (lt_of_heap HRR4.out) (fun e => HL.out.2.2 e.symm)).trans HRR4.out)
  have HOX5 := Lib.hid (HOX4.out.frame HK5.out (fun k e h => by have := (HXL.out k e).1; omega))
  have HNB5 := Lib.hid (HNB4.out.frame HK5.out (fun k e h => by have := HNL.out k e; have := HL.out; omega))
  have HX5 := Lib.hid (HX4.out.trans (HK5.out.below w.heap.size HX4.out.size (fun k e => by rw [e]; exact HL.out.1)))
  have hol : (outN (endL B) ((bitsW B).length / 8)).length ≤ 900000 := by
    have h0 := end_len B ((bitsW B).length / 8)
    have h1 := fin_len B
    have h2 := al8_ge (finL B).length
    have h3 := nb_le B.length
    have h5 : (endL B).length ≤ 900000 := by
      unfold endL alig
      rw [List.length_append, List.length_replicate]
      have := HLEN.out
      omega
    omega
  have hw5 : W.heap.size ≤ w5.heap.size := Nat.le_trans HG7.out (Nat.le_trans (Nat.le_of_lt (lt_of_heap HR74.out)) HK5.out.size)
  have HAH := Lib.hid (ahead_any w5 a1 n1 c1 t1 a2 n2 c2 t2 true bg _ _ HOX5.out.nums (fun k e => (HOX5.out.lt k e).2) (by omega))
  have HOL := Lib.hid hol
  clear HK5 HRR4 HOX4 HX4 hol HNB4
  go_wp2_with (with_reducible refine load_w8 rfl (.tmp 1) rfl gb rfl _ HRB5.out rfl ?_)
  refine HAH.out.mono ?_
  rintro e w6 ⟨y, rfl, hoy, hb6⟩
  have HRB6 := Lib.hid ((hb6.block gb (lt_of_heap HRB5.out)).trans HRB5.out)
  have HRR6 := Lib.hid ((hb6.block gr (lt_of_heap HRR5.out)).trans HRR5.out)
  have HX6 := Lib.hid (HX5.out.trans (hb6.mono HX5.out.size))
  have HNB6 := Lib.hid (HNB5.out.below hb6 (Nat.le_refl _))
  have HOY := Lib.hid hoy
  have hs6 := hb6.size
  clear hoy hb6 HAH HRB5 HRR5 HX5 HOX5 HNB5
  go_upto_region 6 with (with_reducible refine store_w8 rfl (.tmp 1) (.tmp 26) rfl rfl gb _ _ _ _ _ _ _ _ _ _ rfl rfl _ HRB6.out rfl ?_)
  have hk7 : Keeps (fun k => k = gb) w6 (w6.setRow gb #[.slice a1 n1 c1, .int .i64 t1, .slice a2 n2 c2, .int .i64 t2, .bool true, .bool true]) := (Keeps.refl (fun k => k = gb) w6).setRow gb _ (.inl rfl)
  have HRB7 := Lib.hid (setRow_heap w6 gb _ #[.slice a1 n1 c1, .int .i64 t1, .slice a2 n2 c2, .int .i64 t2, .bool true, .bool true] _ _ HRB6.out)
  generalize w6.setRow gb #[.slice a1 n1 c1, .int .i64 t1, .slice a2 n2 c2, .int .i64 t2, .bool true, .bool true] = W7 at *
  have HRR7 := Lib.hid ((hk7.block gr (lt_of_heap HRR6.out) (fun e => HL.out.2.2 e.symm)).trans HRR6.out)
  have HOY7 := Lib.hid (HOY.out.frame hk7 (fun k e h => by have := (HOY.out.lt k e).1; omega))
  have HX7 := Lib.hid (HX6.out.trans (hk7.below w.heap.size HX6.out.size (fun k e => by rw [e]; exact HL.out.1)))
  have HB7 := Lib.hid (HNB6.out.frame hk7 (fun k e h => by have := HNL.out k e; have := HL.out; omega))
  have hs7 : w5.heap.size ≤ W7.heap.size := Nat.le_trans hs6 hk7.size
  have hb7 := lt_of_heap HRB7.out
  have hr7 := lt_of_heap HRR7.out
  have hy5 : ∀ k, y.ownBlock = some k → w5.heap.size ≤ k := fun k e => (HOY.out.lt k e).1
  have HY5 := Lib.hid hy5
  have HNB := Lib.hid (fun k (e : (Value.slice a1 n1 c1).ownBlock = some k) => show ¬ y.ownBlock = some k from fun h => by have h1 := HNL.out k e; have h2 := hy5 k h; have := HX.out.size; omega)
  obtain ⟨LY, hLY⟩ : ∃ L, L = headZ bg ++ outN (endL B) ((bitsW B).length / 8) := ⟨_, rfl⟩
  have hll : LY.length ≤ 900002 := by
    have h1 := headZ_len bg
    have h2 := HOL.out
    rw [hLY, List.length_append]; omega
  rw [← hLY] at HOY7 HOY
  have HLY := Lib.hid hLY
  have HKR := Lib.hid (fun (g : Nat) (h : g < W.heap.size) (e : y.ownBlock = some g) => show False from by have := hy5 g e; omega)
  have HS0 := Lib.hid (show SD .u8 256 5 w5.heap.size W7 y LY (fourL (adler 1 B)) .a W7 from ⟨Keeps.refl _ _, HOY7.out⟩)
  clear hk7 HRR6 HRB6 HX6 HNB6 hy5 hs6 hsz2 hLY
  refine wp_region_writes 8 [0, 1, 2, 3, 4, 5] [6, 7] (SD .u8 256 5 w5.heap.size W7 y LY (fourL (adler 1 B))) .a (by kernel_rfl) (by kernel_rfl) (SD.step _ _ _ HS0.out ⟨rfl, rfl, rfl, Nat.le_refl _, fun _ _ => rfl⟩) ?_
  refine Qw.Walk.step (A := ?A0) (o := ?o0) (fun s w w2 h hb => SD.step s w w2 h hb) (.a) W7 HS0.out ?e0 ?w0 28 ?d0 (by simp) ?h0 ?n0
  case e0 => simp only [List.getElem?_toArray, List.getElem?_cons_succ, List.getElem?_cons_zero]; exact rfl
  case w0 => exact rfl
  case d0 => exact rfl
  case h0 =>
    intro s9 w9 h9
    have z0 : ∀ d os, (grow (redrawn w9 d) os).cell? ⟨gb, 0, none⟩ = some (.slice a1 n1 c1) := fun d os => cell_regrown (cell_of_row _ _ 0 _ _ _ ((h9.kp.block gb (by omega) (fun e => HKR.out gb hltb e)).trans HRB7.out)) d os
    have z1 : ∀ d os, (grow (redrawn w9 d) os).cell? ⟨gb, 1, none⟩ = some (.int .i64 t1) := fun d os => cell_regrown (cell_of_row _ _ 1 _ _ _ ((h9.kp.block gb (by omega) (fun e => HKR.out gb hltb e)).trans HRB7.out)) d os
    have z2 : ∀ d os, (grow (redrawn w9 d) os).cell? ⟨gb, 2, none⟩ = some (.slice a2 n2 c2) := fun d os => cell_regrown (cell_of_row _ _ 2 _ _ _ ((h9.kp.block gb (by omega) (fun e => HKR.out gb hltb e)).trans HRB7.out)) d os
    have z3 : ∀ d os, (grow (redrawn w9 d) os).cell? ⟨gb, 3, none⟩ = some (.int .i64 t2) := fun d os => cell_regrown (cell_of_row _ _ 3 _ _ _ ((h9.kp.block gb (by omega) (fun e => HKR.out gb hltb e)).trans HRB7.out)) d os
    have z4 : ∀ d os, (grow (redrawn w9 d) os).cell? ⟨gb, 4, none⟩ = some (.bool true) := fun d os => cell_regrown (cell_of_row _ _ 4 _ _ _ ((h9.kp.block gb (by omega) (fun e => HKR.out gb hltb e)).trans HRB7.out)) d os
    have z5 : ∀ d os, (grow (redrawn w9 d) os).cell? ⟨gb, 5, none⟩ = some (.bool true) := fun d os => cell_regrown (cell_of_row _ _ 5 _ _ _ ((h9.kp.block gb (by omega) (fun e => HKR.out gb hltb e)).trans HRB7.out)) d os
    go_big_quiet_op
    exact rfl
  refine Qw.Walk.step (A := ?A1) (o := ?o1) (fun s w w2 h hb => SD.step s w w2 h hb) (.a) W7 HS0.out ?e1 ?w1 29 ?d1 (by simp) ?h1 ?n1
  case e1 => simp only [List.getElem?_toArray, List.getElem?_cons_succ, List.getElem?_cons_zero]; exact rfl
  case w1 => exact rfl
  case d1 => exact rfl
  case h1 =>
    intro s9 w9 h9
    go_big_quiet_op
    exact rfl
  refine Qw.Walk.step (A := ?A2) (o := ?o2) (fun s w w2 h hb => SD.step s w w2 h hb) (.a) W7 HS0.out ?e2 ?w2 30 ?d2 (by simp) ?h2 ?n2
  case e2 => simp only [List.getElem?_toArray, List.getElem?_cons_succ, List.getElem?_cons_zero]; exact rfl
  case w2 => exact rfl
  case d2 => exact rfl
  case h2 =>
    intro s9 w9 h9
    go_big_quiet_op
    exact rfl
  refine Qw.Walk.step (A := ?A3) (o := ?o3) (fun s w w2 h hb => SD.step s w w2 h hb) (.a) W7 HS0.out ?e3 ?w3 31 ?d3 (by simp) ?h3 ?n3
  case e3 => simp only [List.getElem?_toArray, List.getElem?_cons_succ, List.getElem?_cons_zero]; exact rfl
  case w3 => exact rfl
  case d3 => exact rfl
  case h3 =>
    intro s9 w9 h9
    go_big_quiet_op
    exact rfl
  refine Qw.Walk.step (A := ?A4) (o := ?o4) (fun s w w2 h hb => SD.step s w w2 h hb) (.a) W7 HS0.out ?e4 ?w4 32 ?d4 (by simp) ?h4 ?n4
  case e4 => simp only [List.getElem?_toArray, List.getElem?_cons_succ, List.getElem?_cons_zero]; exact rfl
  case w4 => exact rfl
  case d4 => exact rfl
  case h4 =>
    intro s9 w9 h9
    have z0 : ∀ d os, (grow (redrawn w9 d) os).cell? ⟨gb, 0, none⟩ = some (.slice a1 n1 c1) := fun d os => cell_regrown (cell_of_row _ _ 0 _ _ _ ((h9.kp.block gb (by omega) (fun e => HKR.out gb hltb e)).trans HRB7.out)) d os
    go_big_quiet_op
    exact rfl
  refine Qw.Walk.step (A := ?A5) (o := ?o5) (fun s w w2 h hb => SD.step s w w2 h hb) (.a) W7 HS0.out ?e5 ?w5 33 ?d5 (by simp) ?h5 ?n5
  case e5 => simp only [List.getElem?_toArray, List.getElem?_cons_succ, List.getElem?_cons_zero]; exact rfl
  case w5 => exact rfl
  case d5 => exact rfl
  case h5 =>
    intro s9 w9 h9
    have Q9 := qb (P := Try.prog) (W := w9) (args := #[.int .u32 1, .slice a1 n1 c1]) (v := .int .u32 (adler 1 B : Nat)) (fun w2 hb => (refAdler_any 1 (by omega) (.slice a1 n1 c1) B w2 ((HB7.out.frame h9.kp (fun k e h => HNB.out k e h)).below hb (Nat.le_refl _))).mono (fun e w3 h => ⟨h.1, by rw [← h.2]; exact Below.refl _ _⟩))
    go_big_quiet_op
    apply Exists.intro
    refine ⟨fun _ => ?_, ?_⟩
    · with_reducible exact Q9 _ _
    · exact rfl
  refine Chain.call (o := ?o6) 46 #[.int .u32 (adler 1 B : Nat)] (fun v s => s = .b v) ?e6 ?w6 ?r6 ?c6 ?n6
  case e6 => simp only [List.getElem?_toArray, List.getElem?_cons_succ, List.getElem?_cons_zero]; exact rfl
  case w6 => exact rfl
  case r6 => intro w9; simp [execOp, Act.eval, Act.put, resolve, go_sem]
  case c6 =>
    intro w9 h9
    refine (four8_any w9 (adler 1 B) (SumsM.adler_lt 1 B)).mono ?_
    rintro e w' ⟨rfl, hn, hb⟩
    have h9' := SD.step .a w9 w' h9 hb
    exact ⟨_, _, rfl, rfl, h9'.1, h9'.2, hn⟩
  rintro v9 s9 rfl
  refine SD.app (oa := ?oa1) u8s hs7 ?l1 ?l2 ?b4 ?b6 (.tmp 29) (.tmp 34) ?b7 ?b8 ?b9 ?b5
  case b4 => simp only [List.getElem?_toArray, List.getElem?_cons_succ, List.getElem?_cons_zero]; exact rfl
  case b6 => exact rfl
  case b7 => exact rfl
  case b8 => exact rfl
  case b9 => exact rfl
  case l1 => rw [fourL_len]; omega
  case l2 => rw [fourL_len]; omega
  intro v9 w9 h9
  obtain ⟨hk9, ho9, hf9⟩ := h9
  simp only [List.drop_succ_cons, List.drop_zero, Act.put, List.setIfInBounds_toArray, List.set_cons_succ, List.set_cons_zero]
  obtain ⟨a9, n9, c9, rfl⟩ := ho9.slice_
  have HRR9 := Lib.hid ((hk9.block gr (by omega) (fun e => HKR.out gr hltr e)).trans HRR7.out)
  have HO9 := Lib.hid ho9
  have HX9 := Lib.hid (HX7.out.trans (hk9.below w.heap.size HX7.out.size (fun k e => by have := HY5.out k e; have := HX.out.size; omega)))
  clear hk9 ho9 hf9
  go_simp
  go_wp2_with (with_reducible refine store_w8 rfl (.tmp 2) (.tmp 28) rfl rfl gr _ _ _ _ _ _ _ _ _ _ rfl rfl _ HRR9.out rfl ?_)
  have hk10 : Keeps (fun k => k = gr) w9 (w9.setRow gr #[.slice a1 n1 c1, .int .i64 t1, .slice a2 n2 c2, .int .i64 t2, .bool true, .bool true]) := (Keeps.refl (fun k => k = gr) w9).setRow gr _ (.inl rfl)
  refine bodyPost_ret (results_row_tmp2 rfl _ _ _ gr 64 _ _ _ rfl (setRow_heap _ _ _ _ _ _ HRR9.out) Try.underlying64 (by kernel_rfl)) rfl ?_
  rw [← HLY.out]
  refine ⟨_, _, rfl, ⟨_, _, _, _, _, _, _, _, rfl⟩, ?_, HX9.out.trans (hk10.below w.heap.size HX9.out.size (fun k e => by rw [e]; exact HL.out.2.1))⟩
  exact (HO9.out.frame hk10 (fun k e h => by have := (HO9.out.lt k e).1; omega)).mono (Nat.le_trans HX.out.size hw5)
end Go.Proofs.Ytighlefajekloaa.PngJ

/- Package lightwellref09: Pass, Order; lightwelllow: SameInts. -/
set_option linter.unusedVariables false
set_option linter.unusedSimpArgs false
namespace Go.Proofs.Ytighlefajekloaa.PngK
open Go.RowKit Go.Sort Base Low NumSl DefDa DefDb NumAp SumsM PngB PngD PngE Qb Qt
def tabL : List Nat := [1,6,4,6,2,6,4,6, 7,7,7,7,7,7,7,7, 5,6,5,6,5,6,5,6, 7,7,7,7,7,7,7,7, 3,6,4,6,3,6,4,6, 7,7,7,7,7,7,7,7, 5,6,5,6,5,6,5,6, 7,7,7,7,7,7,7,7]
/-- the document's pass of a pixel -/
def passF (x y : Nat) : Nat := tabL.getD (8 * (y % 8) + x % 8) 0
def tabS : ByteArray := { data := #[49, 54, 52, 54, 50, 54, 52, 54, 55, 55, 55, 55, 55, 55, 55, 55, 53, 54, 53, 54, 53, 54, 53, 54, 55, 55, 55, 55, 55, 55, 55, 55, 51, 54, 52, 54, 51, 54, 52, 54, 55, 55, 55, 55, 55, 55, 55, 55, 53, 54, 53, 54, 53, 54, 53, 54, 55, 55, 55, 55, 55, 55, 55, 55] }
theorem tab_fin : ∀ i : Fin 64, RowKit.wrap64 (RowKit.wrap64 ((tabS.data.getD i.1 0).toNat : Int) - 48) = ((tabL.getD i.1 0 : Nat) : Int) := by decide +kernel
theorem tab_at (i : Nat) (h : i < tabS.size) : RowKit.wrap64 (RowKit.wrap64 ((tabS[i]'h).toNat : Int) - 48) = ((tabL.getD i 0 : Nat) : Int) := by
  have h64 : i < 64 := h
  have := tab_fin ⟨i, h64⟩
  rw [← this]
  congr 4
  simp only [Array.getD_eq_getD_getElem?]
  rw [Array.getElem?_eq_getElem (show i < tabS.data.size from h)]
  rfl
theorem passF_lt : ∀ i : Nat, i < 64 → tabL.getD i 0 < 8 := by decide +kernel
theorem passF_8 (x y : Nat) : passF x y < 8 := passF_lt _ (by omega)
set_option maxRecDepth 100000 in
theorem pass_any (x y : Nat) (hx : x < 1048576) (hy : y < 1048576) (w : World) :
    Calls Try.prog 27 #[.int .i64 (x : Int), .int .i64 (y : Int)] w fun e w' => e = .returned (.int .i64 (passF x y : Nat)) ∧ w = w' := by
  go_enter Try.func27, Try.ntmps27
  go_wp2_with fail
  go_ret
  exact ⟨congrArg (fun z => Ending.returned (Value.int .i64 z)) (tab_at (8 * (y % 8) + x % 8) (by show _ < 64; omega)), rfl⟩
def rowQ (w p y x : Nat) : List Nat := ((List.range x).filter fun x => passF x y == p).map fun x => y * w + x
def passQ (w p h : Nat) : List Nat := (List.range h).flatMap fun y => rowQ w p y w
/-- the document's order -/
def orderQ (w h k : Nat) : List Nat := (List.range k).flatMap fun p => passQ w (p + 1) h
theorem rowQ_next (w p y x : Nat) : rowQ w p y (x + 1) = if passF x y = p then rowQ w p y x ++ [y * w + x] else rowQ w p y x := by
  unfold rowQ
  rw [List.range_succ, List.filter_append, List.map_append]
  by_cases h : passF x y = p
  · rw [if_pos h]; simp [h]
  · rw [if_neg h]; simp [h]
theorem passQ_next (w p h : Nat) : passQ w p (h + 1) = passQ w p h ++ rowQ w p h w := by
  unfold passQ
  rw [List.range_succ, List.flatMap_append]; simp
theorem orderQ_next (w h k : Nat) : orderQ w h (k + 1) = orderQ w h k ++ passQ w (k + 1) h := by
  unfold orderQ
  rw [List.range_succ, List.flatMap_append]; simp
theorem step_bound2 (L k y x : Nat) (h : L ≤ (k * 1048576 + y * 1024) + x) (hx : x ≤ 1024) : L ≤ k * 1048576 + (y + 1) * 1024 :=
  Nat.le_trans h (by rw [Nat.add_mul y 1 1024, Nat.one_mul, ← Nat.add_assoc]; exact Nat.add_le_add_left hx _)
theorem step_bound (L k y : Nat) (h : L ≤ k * 1048576 + y * 1024) (hy : y ≤ 1024) : L ≤ (k + 1) * 1048576 := by omega
set_option maxRecDepth 100000 in
set_option maxHeartbeats 2000000 in
theorem rorder_any (wd ht : Nat) (hw1 : 1 ≤ wd) (hw : wd ≤ 1024) (hh1 : 1 ≤ ht) (hh : ht ≤ 1024) (w : World) :
    Calls Try.prog 15 #[.int .i64 (wd : Int), .int .i64 (ht : Int)] w fun e w' => ∃ v, e = .returned v ∧ Own .i64 1048576 3 w.heap.size w' v (orderQ wd ht 7) ∧ Below w.heap.size w w' := by
  go_enter Try.func15, Try.ntmps15
  go_wp2_with fail
  go_loopw [5, 6] (fun v5 v6 wr => ∃ k : Nat, k ≤ 7 ∧ v6 = .int .i64 ((k + 1 : Nat) : Int) ∧ Own .i64 1048576 3 w.heap.size wr v5 (orderQ wd ht k) ∧ (orderQ wd ht k).length ≤ k * 1048576 ∧ Below w.heap.size w wr) (fun _ v6 _ => 8 - (intOf v6).toNat)
  case atStart => exact ⟨0, by omega, rfl, Own.nil _ _ _ _ _, by simp [orderQ], Below.refl _ _⟩
  case round =>
    obtain ⟨k, hk, rfl, hown, hlen, hbel⟩ := hrel
    have HO := Lib.hid hown
    have HB := Lib.hid hbel
    have HLN := Lib.hid hlen
    obtain ⟨p, hp⟩ : ∃ p, p = k + 1 := ⟨_, rfl⟩
    simp only [← hp]
    have HP := Lib.hid hp
    clear hown hbel hlen
    by_cases hk7 : k < 7
    · have d1 : decide ((p : Int) ≤ 7) = true := decide_eq_true (by omega)
      have d1' : p ≤ 7 := by omega
      have hp0 : 1 ≤ p := by omega
      clear hp
      go_wp2_with fail
      go_loopw [5, 7] (fun v5 v7 wr => ∃ y : Nat, y ≤ ht ∧ v7 = .int .i64 (y : Int) ∧ Own .i64 1048576 3 w.heap.size wr v5 (orderQ wd ht k ++ passQ wd p y) ∧ (orderQ wd ht k ++ passQ wd p y).length ≤ k * 1048576 + y * 1024 ∧ Below w.heap.size w wr) (fun _ v7 _ => 1024 - (intOf v7).toNat)
      case atStart => exact ⟨0, by omega, rfl, by rw [show passQ wd p 0 = [] from rfl, List.append_nil]; exact HO.out, by rw [show passQ wd p 0 = [] from rfl, List.append_nil, Nat.zero_mul, Nat.add_zero]; exact HLN.out, HB.out⟩
      case round =>
        obtain ⟨y, hy, rfl, hown, hlen, hbel⟩ := hrel
        have HO2 := Lib.hid hown
        have HB2 := Lib.hid hbel
        have HLN2 := Lib.hid hlen
        clear hown hbel hlen
        by_cases hyh : y < ht
        · have d2 : decide (y < ht) = true := decide_eq_true hyh
          go_wp2_with fail
          go_loopw [5, 8] (fun v5 v8 wr => ∃ x : Nat, x ≤ wd ∧ v8 = .int .i64 (x : Int) ∧ Own .i64 1048576 3 w.heap.size wr v5 ((orderQ wd ht k ++ passQ wd p y) ++ rowQ wd p y x) ∧ ((orderQ wd ht k ++ passQ wd p y) ++ rowQ wd p y x).length ≤ (k * 1048576 + y * 1024) + x ∧ Below w.heap.size w wr) (fun _ v8 _ => 1024 - (intOf v8).toNat)
          case atStart => exact ⟨0, by omega, rfl, by rw [show rowQ wd p y 0 = [] from rfl, List.append_nil]; exact HO2.out, by rw [show rowQ wd p y 0 = [] from rfl, List.append_nil, Nat.add_zero]; exact HLN2.out, HB2.out⟩
          case round =>
            obtain ⟨x, hx, rfl, hown, hlen, hbel⟩ := hrel
            obtain ⟨M, hM⟩ : ∃ M, M = (orderQ wd ht k ++ passQ wd p y) ++ rowQ wd p y x := ⟨_, rfl⟩
            rw [← hM] at hown hlen
            have HM := Lib.hid hM
            have HO3 := Lib.hid hown
            have HB3 := Lib.hid hbel
            have HLN3 := Lib.hid hlen
            have hsz := hbel.size
            have hlen9 : M.length ≤ 9000000 := by omega
            clear hown hbel hlen hM
            by_cases hxw : x < wd
            · have d3 : decide (x < wd) = true := decide_eq_true hxw
              have HPA := Lib.hid (fun w => pass_any x y (by omega) (by omega) w)
              go_wp2_with fail
              refine (HPA.out _).mono ?_
              rintro e w1 ⟨rfl, rfl⟩
              obtain ⟨yw, hyw⟩ : ∃ yw, yw = y * wd := ⟨_, rfl⟩
              have hyw9 : yw + wd ≤ 1048576 := by
                have h1 : (y + 1) * wd ≤ 1024 * 1024 := Nat.mul_le_mul (by omega) (by omega)
                rw [Nat.succ_mul] at h1; omega
              have e2 : IntKind.i64.wrap ((y : Int) * (wd : Int)) = (yw : Int) := by
                rw [← Int.natCast_mul, ← hyw, IntKind.wrap_i64]; omega
              obtain ⟨z, hz⟩ : ∃ z, z = yw + x := ⟨_, rfl⟩
              have e3 : IntKind.i64.wrap ((yw : Int) + (x : Int)) = (z : Int) := by rw [IntKind.wrap_i64]; omega
              have hz9 : z < 1048576 := by omega
              obtain ⟨pf, hpf⟩ : ∃ pf, pf = passF x y := ⟨_, rfl⟩
              rw [← hpf]
              by_cases hpp : pf = p
              · have d4 : ((pf : Int) == (p : Int)) = true := by simp; omega
                have hst : (orderQ wd ht k ++ passQ wd p y) ++ rowQ wd p y (x + 1) = M ++ [z] := by
                  rw [rowQ_next, ← hpf, if_pos hpp, HM.out, List.append_assoc, ← hyw, ← hz]; simp only [List.append_assoc]
                have HST := Lib.hid hst
                have hxa := ext_alloc wr (.cells #[.int .i64 (z : Int)] 3)
                have HN := Lib.hid (nums_blk .i64 1048576 (heap_alloc_new wr (.cells #[.int .i64 (z : Int)] 3)) [z] (by simp [maxLen]) (by simpa using hz9) rfl 1 rfl)
                have HO4 := Lib.hid (HO3.out.below hxa (Nat.le_refl _))
                have HB4 := Lib.hid (HB3.out.trans (hxa.mono hsz))
                have hs4 := HB4.out.size
                have HLa := Lib.hid (show (M.length + ([z] : List Nat).length) * 8 ≤ 140737488355328 by simp; omega)
                have HLb := Lib.hid (show M.length + ([z] : List Nat).length ≤ 140737488355328 by simp; omega)
                clear hst hyw hpf hpp hz hxa
                go_wp2_with (at_builtin; refine wpList_append_nums_at rfl (.tmp 42) (.tmp 48) 23 3 rfl .i64 1048576 8 w.heap.size ints _ M rfl HO4.out _ [z] rfl HN.out HLa.out HLb.out hs4 ?_; intro v7 w7 ho7 hg7 hf7; have HO7 := Lib.hid ho7; have HB7 := Lib.hid (below_grown HB4.out HO4.out hg7 (Nat.le_refl _) HB4.out.size); clear ho7 hg7 hf7)
                exact ⟨⟨x + 1, by omega, rfl, by rw [HST.out]; exact HO7.out, by rw [HST.out, List.length_append]; have := HLN3.out; simp; omega, HB7.out⟩, by simp only [intOf]; omega⟩
              · have d4 : ((pf : Int) == (p : Int)) = false := by simp; omega
                have hst : (orderQ wd ht k ++ passQ wd p y) ++ rowQ wd p y (x + 1) = M := by
                  rw [rowQ_next, ← hpf, if_neg hpp, HM.out]
                have HST := Lib.hid hst
                clear hst hyw hpf hpp hz
                go_wp2_with fail
                exact ⟨⟨x + 1, by omega, rfl, by rw [HST.out]; exact HO3.out, by rw [HST.out]; have := HLN3.out; omega, HB3.out⟩, by simp only [intOf]; omega⟩
            · have d3 : decide (x < wd) = false := decide_eq_false hxw
              obtain rfl : x = wd := by omega
              have hst : orderQ x ht k ++ passQ x p (y + 1) = M := by rw [passQ_next, HM.out, List.append_assoc]
              have HST := Lib.hid hst
              clear hst
              go_wp2_with fail
              exact ⟨⟨y + 1, by omega, rfl, by rw [HST.out]; exact HO3.out, by rw [HST.out]; exact step_bound2 _ _ _ _ HLN3.out hw, HB3.out⟩, by simp only [intOf]; omega⟩
        · have d2 : decide (y < ht) = false := decide_eq_false hyh
          obtain rfl : y = ht := by omega
          have hst : orderQ wd y (k + 1) = orderQ wd y k ++ passQ wd p y := by rw [orderQ_next, HP.out]
          have HST := Lib.hid hst
          clear hst
          go_wp2_with fail
          exact ⟨⟨k + 1, by omega, by rw [HP.out]; rfl, by rw [HST.out]; exact HO2.out, by rw [HST.out]; exact step_bound _ _ _ HLN2.out hh, HB2.out⟩, by simp only [intOf]; have := HP.out; omega⟩
    · have d1 : decide ((p : Int) ≤ 7) = false := decide_eq_false (by omega)
      have d1' : ¬ p ≤ 7 := by omega
      obtain rfl : k = 7 := by omega
      clear hp
      go_wp2_with fail
      go_ret
      exact ⟨_, rfl, HO.out, HB.out⟩
end Go.Proofs.Ytighlefajekloaa.PngK

/- Package lightwellref09: what Pieces tells; its state. -/
set_option linter.unusedVariables false
set_option linter.unusedSimpArgs false
namespace Go.Proofs.Ytighlefajekloaa.PngO
open Go.RowKit Go.Sort Base Low NumSl DefDa DefDb NumAp BitsM Bits5 DefM DefN DefO SumsM Rec PngC PngD PngE PngF PngH PngI PngJ PngK
/-- a pixel -/
abbrev Px := Nat × Nat × Nat × Nat
def pxL (p : Px) : List Nat := [p.1, p.2.1, p.2.2.1, p.2.2.2]
def encP (p : Px) : List Value := [.int .u8 (p.1 : Int), .int .u8 (p.2.1 : Int), .int .u8 (p.2.2.1 : Int), .int .u8 (p.2.2.2 : Int)]
def Px.ok (p : Px) : Prop := p.1 < 256 ∧ p.2.1 < 256 ∧ p.2.2.1 < 256 ∧ p.2.2.2 < 256
theorem Px.lt {p : Px} (h : p.ok) : ∀ x ∈ pxL p, x < 256 := by
  intro x hx
  simp only [pxL, List.mem_cons, List.not_mem_nil, or_false] at hx
  obtain ⟨h1, h2, h3, h4⟩ := h
  rcases hx with rfl | rfl | rfl | rfl <;> assumption
/-- whether a row begins at the i-th pixel of an order, as the document tells it -/
def newQ (wd : Nat) (ord : List Nat) (i : Nat) : Bool :=
  i == 0 || (!(ord.getD (i - 1) 0 / wd == ord.getD i 0 / wd) || (decide (ord.getD i 0 % wd < ord.getD (i - 1) 0 % wd) || !(passF (ord.getD i 0 % wd) (ord.getD i 0 / wd) == passF (ord.getD (i - 1) 0 % wd) (ord.getD (i - 1) 0 / wd))))
def atQ (wd : Nat) (ord : List Nat) (i : Nat) : Nat := if newQ wd ord i = true then 0 else 1
def inQ (wd : Nat) (ord : List Nat) (ps : List Px) (i : Nat) : List Nat := inL (atQ wd ord i) (pxL (ps.getD i (0, 0, 0, 0)))
/-- the bytes ahead of the i-th pixel's -/
def bytesQ (wd : Nat) (ord : List Nat) (ps : List Px) : Nat → List Nat
  | 0 => []
  | i + 1 => bytesQ wd ord ps i ++ inQ wd ord ps i
/-- what is told at the i-th pixel -/
def toldQ (wd ht : Nat) (ord : List Nat) (ps : List Px) (i : Nat) : List Nat := putL wd ht (wd * ht - i) (atQ wd ord i) (decide (0 < i)) (bytesQ wd ord ps i) (pxL (ps.getD i (0, 0, 0, 0)))
def piecesQ (wd ht : Nat) (ord : List Nat) (ps : List Px) (k : Nat) : List (List Nat) := (List.range k).map (toldQ wd ht ord ps)
theorem piecesQ_next (wd ht : Nat) (ord : List Nat) (ps : List Px) (k : Nat) : piecesQ wd ht ord ps (k + 1) = piecesQ wd ht ord ps k ++ [toldQ wd ht ord ps k] := by
  unfold piecesQ; rw [List.range_succ, List.map_append]; rfl
theorem inL_len (a : Nat) (p : Px) : (inL a (pxL p)).length ≤ 5 := by
  unfold inL pxL
  split <;> simp
theorem bytesQ_len (wd : Nat) (ord : List Nat) (ps : List Px) (i : Nat) : (bytesQ wd ord ps i).length ≤ 5 * i := by
  induction i with
  | zero => simp [bytesQ]
  | succ i ih =>
    have := inL_len (atQ wd ord i) (ps.getD i (0, 0, 0, 0))
    unfold bytesQ inQ
    rw [List.length_append]; omega
/-- a slice of bytes as a cell -/
abbrev Sl := Option Addr × Nat × Nat
def slV (s : Sl) : Value := .slice s.1 s.2.1 s.2.2
def encS (s : Sl) : List Value := [slV s]
theorem slices : RecSlice Try.prog 43 33 1 encS (.slice none 0 0) 24 := recSlice Try.underlying43 (by kernel_rfl) rfl (fun x u hu => by simp only [encS, List.mem_singleton] at hu; subst hu; rfl) (fun _ => rfl) (by omega)
theorem recs_tyB {α : Type} {c : Nat} {enc : α → List Value} {E base : Nat} {w : World} {v : Value} {l : List α} (h : RecsOwn c enc E base w v l) : ∀ b, v.ownBlock = some b → TyB E w b := by
  intro b hb
  rcases h.row.2 with ⟨e, -⟩ | ⟨g, c, cur, e, -, hg, -⟩
  · rw [e] at hb; cases hb
  · rw [e] at hb
    simp only [Value.ownBlock, Option.some.injEq] at hb
    subst hb
    exact ⟨_, _, hg⟩
theorem own_tyB {k : IntKind} {N E base : Nat} {w : World} {v : Value} {l : List Nat} (h : Own k N E base w v l) : ∀ b, v.ownBlock = some b → TyB E w b := by
  intro b hb
  rcases h.row.2 with ⟨e, -⟩ | ⟨g, c, cur, e, -, hg, -⟩
  · rw [e] at hb; cases hb
  · rw [e] at hb
    simp only [Value.ownBlock, Option.some.injEq] at hb
    subst hb
    exact ⟨_, _, hg⟩
theorem tyB_ne {E T : TypeId} {w : World} {b b' : Nat} (h : TyB E w b) (h' : TyB T w b') (hne : E ≠ T) : ¬ b = b' := by
  rintro rfl
  obtain ⟨cs2, fr2, h1⟩ := h
  obtain ⟨cs3, fr3, h2⟩ := h'
  rw [h1] at h2
  simp only [Option.some.injEq, Obj.cells.injEq] at h2
  exact hne h2.2.1
/-- one row that was told -/
def RowIs (w : World) (s : Sl) (l : List Nat) : Prop := Nums .u8 256 w (slV s) l ∧ ∀ k, (slV s).ownBlock = some k → TyB 5 w k
def RowsAre (w : World) (ys : List Sl) (L : List (List Nat)) : Prop := ys.length = L.length ∧ ∀ p ∈ ys.zip L, RowIs w p.1 p.2
theorem RowIs.frame {w w' : World} {s : Sl} {l : List Nat} {D : Nat → Prop} (h : RowIs w s l) (hk : Keeps D w w') (hD : ∀ k, (slV s).ownBlock = some k → ¬ D k) : RowIs w' s l :=
  ⟨h.1.frame hk hD, fun k e => (h.2 k e).keep hk (hD k e)⟩
theorem RowsAre.frame {w w' : World} {ys : List Sl} {L : List (List Nat)} {D : Nat → Prop} (h : RowsAre w ys L) (hk : Keeps D w w') (hD : ∀ k, TyB 5 w k → ¬ D k) : RowsAre w' ys L :=
  ⟨h.1, fun p hp => (h.2 p hp).frame hk (fun k e => hD k ((h.2 p hp).2 k e))⟩
theorem RowsAre.snoc {w : World} {ys : List Sl} {L : List (List Nat)} {y : Sl} {l : List Nat} (h : RowsAre w ys L) (hy : RowIs w y l) : RowsAre w (ys ++ [y]) (L ++ [l]) := by
  refine ⟨by rw [List.length_append, List.length_append, h.1]; rfl, fun p hp => ?_⟩
  rw [List.zip_append h.1] at hp
  rcases List.mem_append.1 hp with hp | hp
  · exact h.2 p hp
  · simp only [List.zip_cons_cons, List.zip_nil_left, List.mem_singleton] at hp
    subst hp
    exact hy
theorem RowsAre.nil (w : World) : RowsAre w [] [] := ⟨rfl, fun p hp => by simp at hp⟩
theorem RowsAre.at {w : World} {ys : List Sl} {L : List (List Nat)} (h : RowsAre w ys L) (i : Nat) (hi : i < ys.length) : RowIs w (ys[i]) (L[i]'(by rw [← h.1]; exact hi)) := by
  have hi2 : i < L.length := by rw [← h.1]; exact hi
  refine h.2 (ys[i], L[i]) ?_
  rw [List.mem_iff_getElem]
  exact ⟨i, by rw [List.length_zip]; omega, by rw [List.getElem_zip]⟩
theorem rz_ty {w : World} {v : Value} {bg : Bool} {B : List Nat} (h : Rz w v bg B) : ∀ k, own6 v k → TyB 5 w k ∨ TyB 4 w k := by
  obtain ⟨a1, n1, c1, t1, a2, n2, c2, t2, rfl, va, vl, e, -, h2, h3⟩ := h
  intro k hk
  have hk2 := own6_2 hk
  rw [e] at hk2
  rcases DefEh.own2_of hk2 with h | h
  · exact .inl (h3 k h)
  · exact .inr (h2.ty k h)
/-- Pieces under way -/
structure PI (w wr : World) (vord : Value) (ord : List Nat) (vo : Value) (ys : List Sl) (L : List (List Nat)) (g9 : Nat) (row : Array Value) (bg : Bool) (B : List Nat) : Prop where
  bel : Below w.heap.size w wr
  nord : Nums .i64 1048576 wr vord ord
  tord : ∀ k, vord.ownBlock = some k → TyB 3 wr k
  out : RecsOwn 1 encS 33 w.heap.size wr vo ys
  rows : RowsAre wr ys L
  zrow : wr.heap[g9]? = some (.cells row 64)
  low : w.heap.size ≤ g9
  rz : Rz wr (.agg row) bg B
  rlo : ∀ s ∈ ys, ∀ k, (slV s).ownBlock = some k → w.heap.size ≤ k
section
variable {w wr : World} {vord : Value} {ord : List Nat} {vo : Value} {ys : List Sl} {L : List (List Nat)} {g9 : Nat} {row : Array Value} {bg : Bool} {B : List Nat}
theorem PI.tz (h : PI w wr vord ord vo ys L g9 row bg B) : TyB 64 wr g9 := ⟨_, _, h.zrow⟩
theorem PI.ext (h : PI w wr vord ord vo ys L g9 row bg B) {w' : World} (hb : Below wr.heap.size wr w') : PI w w' vord ord vo ys L g9 row bg B := by
  have hk := Keeps.of_ext hb (fun _ => False)
  exact ⟨h.bel.trans (hb.mono h.bel.size), h.nord.below hb (Nat.le_refl _), fun k e => (h.tord k e).below hb (Nat.le_refl _), h.out.below hb (Nat.le_refl _), h.rows.frame hk (fun _ _ h => h), (hb.block g9 (lt_of_heap h.zrow)).trans h.zrow, h.low, h.rz.below hb, h.rlo⟩
theorem PI.set (h : PI w wr vord ord vo ys L g9 row bg B) {row' : Array Value} {bg' : Bool} {B' : List Nat} (hz : Rz wr (.agg row') bg' B') {w' : World} (hk : Keeps (fun k => k = g9) wr w') (hr : w'.heap[g9]? = some (.cells row' 64)) : PI w w' vord ord vo ys L g9 row' bg' B' := by
  have ht := h.tz
  refine ⟨h.bel.trans (hk.below _ h.bel.size (fun k e => by rw [e]; exact h.low)), h.nord.frame hk (fun k e => tyB_ne (h.tord k e) ht (by decide)), fun k e => (h.tord k e).keep hk (tyB_ne (h.tord k e) ht (by decide)), h.out.frame hk (fun k e => tyB_ne (recs_tyB h.out k e) ht (by decide)), h.rows.frame hk (fun k e => tyB_ne e ht (by decide)), hr, h.low, hz.frame hk (fun k e => ?_), h.rlo⟩
  rcases rz_ty hz k e with h1 | h1
  · exact tyB_ne h1 ht (by decide)
  · exact tyB_ne h1 ht (by decide)
theorem PI.app (h : PI w wr vord ord vo ys L g9 row bg B) {y : Sl} {l : List Nat} (hy : RowIs wr y l) (hlo : ∀ k, (slV y).ownBlock = some k → w.heap.size ≤ k) {vo' : Value} {w' : World} (hk : Keeps (fun k => vo.ownBlock = some k) wr w') (ho : RecsOwn 1 encS 33 w.heap.size w' vo' (ys ++ [y])) : PI w w' vord ord vo' (ys ++ [y]) (L ++ [l]) g9 row bg B := by
  have ht := recs_tyB h.out
  refine ⟨h.bel.trans (hk.below _ h.bel.size (fun k e => (h.out.lt k e).1)), h.nord.frame hk (fun k e e2 => tyB_ne (h.tord k e) (ht k e2) (by decide) rfl), fun k e => (h.tord k e).keep hk (fun e2 => tyB_ne (h.tord k e) (ht k e2) (by decide) rfl), ho, (h.rows.frame hk (fun k e e2 => tyB_ne e (ht k e2) (by decide) rfl)).snoc (hy.frame hk (fun k e e2 => tyB_ne (hy.2 k e) (ht k e2) (by decide) rfl)), (hk.block g9 (lt_of_heap h.zrow) (fun e2 => tyB_ne h.tz (ht g9 e2) (by decide) rfl)).trans h.zrow, h.low, h.rz.frame hk (fun k e e2 => ?_), fun s hs k e => ?_⟩
  rotate_left
  · rcases List.mem_append.1 hs with hs | hs
    · exact h.rlo s hs k e
    · simp only [List.mem_singleton] at hs
      subst hs
      exact hlo k e
  rcases rz_ty h.rz k e with h1 | h1
  · exact tyB_ne h1 (ht k e2) (by decide) rfl
  · exact tyB_ne h1 (ht k e2) (by decide) rfl
/-- a row that this round has laid -/
def Fr (N : Nat) (row : Array Value) (v : Value) : Prop := ∀ k, v.ownBlock = some k → N ≤ k ∧ ¬ own6 (.agg row) k
def RowsLt (N : Nat) (ys : List Sl) : Prop := ∀ s ∈ ys, ∀ k, (slV s).ownBlock = some k → k < N
theorem RowsAre.lt {w : World} {ys : List Sl} {L : List (List Nat)} (h : RowsAre w ys L) : RowsLt w.heap.size ys := by
  intro s hs k e
  rw [List.mem_iff_getElem] at hs
  obtain ⟨i, hi, rfl⟩ := hs
  exact ((h.at i hi).2 k e).lt
theorem PI.grow (h : PI w wr vord ord vo ys L g9 row bg B) {N base : Nat} {v : Value} {l : List Nat} (ho : Own .u8 256 5 base wr v l) (hf : Fr N row v) (hN : w.heap.size ≤ N) (hl : RowsLt N ys) {w' : World} (hg : wr.grownBy w' v.ownBlock) : PI w w' vord ord vo ys L g9 row bg B := by
  have hk : Keeps (fun k => v.ownBlock = some k) wr w' := (Keeps.refl _ wr).grown hg (fun k hk => .inl hk)
  have ht := own_tyB ho
  refine ⟨h.bel.trans (hk.below _ h.bel.size (fun k e => Nat.le_trans hN (hf k e).1)), h.nord.frame hk (fun k e e2 => tyB_ne (h.tord k e) (ht k e2) (by decide) rfl), fun k e => (h.tord k e).keep hk (fun e2 => tyB_ne (h.tord k e) (ht k e2) (by decide) rfl), h.out.frame hk (fun k e e2 => tyB_ne (recs_tyB h.out k e) (ht k e2) (by decide) rfl), ⟨h.rows.1, fun p hp => (h.rows.2 p hp).frame hk (fun k e e2 => ?_)⟩, (hk.block g9 (lt_of_heap h.zrow) (fun e2 => tyB_ne h.tz (ht g9 e2) (by decide) rfl)).trans h.zrow, h.low, h.rz.frame hk (fun k e e2 => (hf k e2).2 e), h.rlo⟩
  have h1 := hl p.1 (List.of_mem_zip hp).1 k e
  have h2 := (hf k e2).1
  omega
theorem Fr.next {N : Nat} {v v' : Value} (h : PI w wr vord ord vo ys L g9 row bg B) (hf : Fr N row v) (hN : N ≤ wr.heap.size) (hv : v'.ownBlock = v.ownBlock ∨ ∀ b, v'.ownBlock = some b → wr.heap.size ≤ b) : Fr N row v' := by
  intro k e
  rcases hv with e2 | e2
  · exact hf k (by rw [← e2]; exact e)
  · have := e2 k e
    exact ⟨by omega, fun h6 => by have := h.rz.lt k h6; omega⟩
end
theorem told_not (wd ht : Nat) (ord : List Nat) (ps : List Px) (i : Nat) (hi : i + 1 < wd * ht) : toldQ wd ht ord ps i = (if i = 0 then headL wd ht else []) ++ (if headZ (decide (0 < i)) ++ outN (bitsW (bytesQ wd ord ps (i + 1))) ((bitsW (bytesQ wd ord ps i)).length / 8) = [] then [] else chunkL [73, 68, 65, 84] (headZ (decide (0 < i)) ++ outN (bitsW (bytesQ wd ord ps (i + 1))) ((bitsW (bytesQ wd ord ps i)).length / 8))) := by
  unfold toldQ putL toldL
  rw [if_neg (show ¬ wd * ht - i = 1 by omega), if_neg (show ¬ wd * ht - i = 1 by omega), List.append_nil, List.append_nil]
  have e : (wd * ht - i = wd * ht) = (i = 0) := by apply propext; omega
  simp only [e]
  rfl
theorem told_last (wd ht : Nat) (ord : List Nat) (ps : List Px) (i : Nat) (hi : i + 1 = wd * ht) : toldQ wd ht ord ps i = ((if i = 0 then headL wd ht else []) ++ chunkL [73, 68, 65, 84] ((headZ (decide (0 < i)) ++ outN (bitsW (bytesQ wd ord ps (i + 1))) ((bitsW (bytesQ wd ord ps i)).length / 8)) ++ ((headZ true ++ outN (endL (bytesQ wd ord ps (i + 1))) ((bitsW (bytesQ wd ord ps (i + 1))).length / 8)) ++ fourL (adler 1 (bytesQ wd ord ps (i + 1)))))) ++ chunkL [73, 69, 78, 68] [] := by
  unfold toldQ putL toldL
  rw [if_pos (show wd * ht - i = 1 by omega), if_pos (show wd * ht - i = 1 by omega)]
  have e : (wd * ht - i = wd * ht) = (i = 0) := by apply propext; omega
  simp only [e]
  have hne : ¬ (headZ (decide (0 < i)) ++ outN (bitsW (bytesQ wd ord ps i ++ inL (atQ wd ord i) (pxL (ps.getD i (0, 0, 0, 0))))) ((bitsW (bytesQ wd ord ps i)).length / 8) ++ (outN (endL (bytesQ wd ord ps i ++ inL (atQ wd ord i) (pxL (ps.getD i (0, 0, 0, 0))))) ((bitsW (bytesQ wd ord ps i ++ inL (atQ wd ord i) (pxL (ps.getD i (0, 0, 0, 0))))).length / 8) ++ fourL (adler 1 (bytesQ wd ord ps i ++ inL (atQ wd ord i) (pxL (ps.getD i (0, 0, 0, 0)))))) = []) := fun h => by
    have h1 := congrArg List.length h
    rw [List.length_append, List.length_append, List.length_append, fourL_len] at h1
    simp only [List.length_nil] at h1
    omega
  rw [if_neg hne]
  rfl
/-- the rest of a round: the state and the row that is told -/
structure PT (w : World) (N : Nat) (W : World) (vord : Value) (ord : List Nat) (vo : Value) (ys : List Sl) (L : List (List Nat)) (g9 : Nat) (row : Array Value) (bg : Bool) (B : List Nat) (v : Value) (H : List Nat) : Prop where
  pi : PI w W vord ord vo ys L g9 row bg B
  own : Own .u8 256 5 N W v H
  fr : Fr N row v
  lo : w.heap.size ≤ N
  rl : RowsLt N ys
  size : N ≤ W.heap.size
section
variable {w W : World} {N : Nat} {vord : Value} {ord : List Nat} {vo : Value} {ys : List Sl} {L : List (List Nat)} {g9 : Nat} {row : Array Value} {bg : Bool} {B : List Nat} {v : Value} {H : List Nat}
theorem PT.ext (h : PT w N W vord ord vo ys L g9 row bg B v H) {W' : World} (hb : Below W.heap.size W W') : PT w N W' vord ord vo ys L g9 row bg B v H :=
  ⟨h.pi.ext hb, h.own.below hb (Nat.le_refl _), h.fr, h.lo, h.rl, Nat.le_trans h.size hb.size⟩
theorem PT.grow (h : PT w N W vord ord vo ys L g9 row bg B v H) {v' : Value} {H' : List Nat} {W' : World} (ho : Own .u8 256 5 N W' v' H') (hg : W.grownBy W' v.ownBlock) (hf : v'.ownBlock = v.ownBlock ∨ ∀ b, v'.ownBlock = some b → W.heap.size ≤ b) : PT w N W' vord ord vo ys L g9 row bg B v' H' :=
  ⟨h.pi.grow h.own h.fr h.lo h.rl hg, ho, h.fr.next h.pi h.size hf, h.lo, h.rl, Nat.le_trans h.size hg.size⟩
/-- another row of this round grows -/
theorem PT.other (h : PT w N W vord ord vo ys L g9 row bg B v H) {u : Value} {l : List Nat} (hu : Own .u8 256 5 N W u l) (hf : Fr N row u) (hd : ∀ k, v.ownBlock = some k → ¬ u.ownBlock = some k) {W' : World} (hg : W.grownBy W' u.ownBlock) : PT w N W' vord ord vo ys L g9 row bg B v H :=
  ⟨h.pi.grow hu hf h.lo h.rl hg, h.own.frame ((Keeps.refl (fun k => u.ownBlock = some k) W).grown hg (fun k hk => .inl hk)) (fun k e e2 => hd k e e2), h.fr, h.lo, h.rl, Nat.le_trans h.size hg.size⟩
end
theorem chunk_len (k b : List Nat) : (chunkL k b).length = 8 + k.length + b.length := by
  unfold chunkL
  rw [List.length_append, List.length_append, List.length_append, fourL_len, fourL_len]; omega
theorem size_p4 : (Try.prog.info? 28).map (·.size) = some 4 := by kernel_rfl
theorem store_p4 {ops : Array Oper} {rest : List Oper} {o : Oper} {a : Act} {w : World} {Q : Exit → Act → World → Prop} (hgd : o.guard = none) (x y : Operand) (ho : o.op = .store 28 x y) (hd : o.dst = none)
    (g : Nat) (p0 p1 p2 p3 : Int) (hx : a.eval x = .pointer (some ⟨g, 0, none⟩)) (hy : a.eval y = .agg #[.int .u8 p0, .int .u8 p1, .int .u8 p2, .int .u8 p3])
    (cur : Array Value) (hg : w.heap[g]? = some (.cells cur 28)) (hc : cur.size = 4)
    (h : wpList Try.prog ops Q rest a (w.setRow g #[.int .u8 p0, .int .u8 p1, .int .u8 p2, .int .u8 p3])) : wpList Try.prog ops Q (o :: rest) a w :=
  wpList_store_arr hgd 28 x y ho g _ hx hy 28 cur hg size_p4 (by rw [hc]; rfl) (by intro v hv; simp at hv; rcases hv with rfl | rfl | rfl | rfl <;> rfl) hd h
theorem load_p4 {ops : Array Oper} {rest : List Oper} {o : Oper} {a : Act} {w : World} {Q : Exit → Act → World → Prop} (hgd : o.guard = none) (x : Operand) (ho : o.op = .load 28 x)
    (b off : Nat) (hx : a.eval x = .pointer (some ⟨b, off, none⟩)) (p : Px) (hc : ∀ k v, (encP p)[k]? = some v → w.cell? ⟨b, off + k, none⟩ = some v)
    (h : wpList Try.prog ops Q rest (a.put o.dst (.agg #[.int .u8 (p.1 : Int), .int .u8 (p.2.1 : Int), .int .u8 (p.2.2.1 : Int), .int .u8 (p.2.2.2 : Int)])) w) : wpList Try.prog ops Q (o :: rest) a w :=
  wpList_load_mid hgd 28 x ho b off hx (encP p) _ (fun j v hj => hc j v hj) Try.underlying28 rfl size_p4 h
end Go.Proofs.Ytighlefajekloaa.PngO
