/- The walk of law13's awake, joined. -/
import Derived.Test.YtdmmbhcaejojeaaHitY
import Derived.Test.YtdmmbhcaejojeaaHitEq
set_option linter.unusedVariables false
set_option linter.unusedSimpArgs false
namespace Go.Proofs.Ytdmmbhcaejojeaa.HitZ
open Go.RowKit Go.Sort FixM Base Num FixW Qb Qt Qa Qf Qg Qr Qs Qz VecW VecV VecU LightQ LightC MeshM Rec MeshA MeshB MeshC MeshD MeshE MeshP MeshEq HitM HitT HitB HitX HitN HitC HitS HitV HitW HitY
theorem two_rows (y : World) (T : TypeId) (z a b : Array Value) : ((((y.alloc (.cells z T)).alloc (.cells z T)).setRow y.heap.size a).setRow (y.heap.size + 1) b).heap[y.heap.size]? = some (.cells a T) ∧ ((((y.alloc (.cells z T)).alloc (.cells z T)).setRow y.heap.size a).setRow (y.heap.size + 1) b).heap[y.heap.size + 1]? = some (.cells b T) ∧ Below y.heap.size y ((((y.alloc (.cells z T)).alloc (.cells z T)).setRow y.heap.size a).setRow (y.heap.size + 1) b) := by
  have h0 := alloc2_0 y (.cells z T) (.cells z T)
  have h1 := alloc2_1 y (.cells z T) (.cells z T)
  have hb := alloc2_below y (.cells z T) (.cells z T)
  exact ⟨(setRow_other _ _ _ _ (by omega)).trans (setRow_heap _ _ _ _ _ _ h0), setRow_heap _ _ _ _ _ _ ((setRow_other _ _ _ _ (by omega)).trans h1), below_setRow (below_setRow hb (Nat.le_refl _) _) (by omega) _⟩
theorem one_row (y : World) (T : TypeId) (z a : Array Value) : ((y.alloc (.cells z T)).setRow y.heap.size a).heap[y.heap.size]? = some (.cells a T) ∧ Below y.heap.size y ((y.alloc (.cells z T)).setRow y.heap.size a) :=
  ⟨setRow_heap _ _ _ _ _ _ (heap_alloc_new _ _), below_setRow (ext_alloc _ _) (Nat.le_refl _) _⟩
def k5 : List K2 := [.val (.agg #[.int .i64 0, .int .i64 0, .int .i64 (-21474836480), .int .i64 0, .int .i64 0, .int .i64 4294967296]), .bm, .sl, .pt, .val (.agg #[.int .i64 0, .int .i64 0, .int .i64 0, .int .i64 4294967296]), .val (.tuple #[.int .i64 17179869184, .int .i64 25769803776, .bool true]), .val (.tuple #[.int .i64 17179869184, .int .i64 25769803776, .bool true]), .val (.int .i64 17179869184), .val (.int .i64 25769803776), .val (.bool true), .val (.int .i64 17179869184), .val (.int .i64 25769803776), .val (.bool true)]
def k6 : List K2 := [.val (.agg #[.int .i64 21474836480, .int .i64 0, .int .i64 (-21474836480), .int .i64 0, .int .i64 0, .int .i64 4294967296]), .bm, .sl, .pt, .val (.agg #[.int .i64 0, .int .i64 0, .int .i64 0, .int .i64 4294967296]), .val (.tuple #[.int .i64 0, .int .i64 0, .bool false]), .val (.tuple #[.int .i64 0, .int .i64 0, .bool false]), .val (.int .i64 0), .val (.int .i64 0), .val (.bool false), .val (.int .i64 0), .val (.int .i64 0), .val (.bool false)]
def k7 (B : Nat) : List K2 := [.val (.agg #[.int .i64 0, .int .i64 0, .int .i64 (-21474836480), .int .i64 0, .int .i64 0, .int .i64 4294967296]), .val (.agg #[.int .i64 (-4294967296), .int .i64 (-4294967296), .int .i64 0]), .val (.agg #[.int .i64 4294967296, .int .i64 (-4294967296), .int .i64 0]), .val (.agg #[.int .i64 0, .int .i64 4294967296, .int .i64 0]), .val (.tuple #[.agg #[.int .i64 21474836480, .int .i64 0, .int .i64 1073741824, .int .i64 2147483648], .bool true]), .val (.tuple #[.agg #[.int .i64 21474836480, .int .i64 0, .int .i64 1073741824, .int .i64 2147483648], .bool true]), .val (.agg #[.int .i64 21474836480, .int .i64 0, .int .i64 1073741824, .int .i64 2147483648]), .val (.bool true), .al B, .val (undef), .val (.bool true)]
def k8 (B : Nat) : List K2 := [.val (.agg #[.int .i64 21474836480, .int .i64 0, .int .i64 (-21474836480), .int .i64 0, .int .i64 0, .int .i64 4294967296]), .val (.agg #[.int .i64 (-4294967296), .int .i64 (-4294967296), .int .i64 0]), .val (.agg #[.int .i64 4294967296, .int .i64 (-4294967296), .int .i64 0]), .val (.agg #[.int .i64 0, .int .i64 4294967296, .int .i64 0]), .val (.tuple #[.agg #[.int .i64 0, .int .i64 0, .int .i64 0, .int .i64 0], .bool false]), .val (.tuple #[.agg #[.int .i64 0, .int .i64 0, .int .i64 0, .int .i64 0], .bool false]), .val (.agg #[.int .i64 0, .int .i64 0, .int .i64 0, .int .i64 0]), .val (.bool false), .al B, .val (undef), .val (.bool false)]
def k9 (B : Nat) : List K2 := [.bm, .val (.agg #[.int .i64 0, .int .i64 0, .int .i64 (-21474836480), .int .i64 0, .int .i64 0, .int .i64 4294967296]), .val (.tuple #[.agg #[.int .i64 25769803776, .int .i64 0, .int .i64 0, .int .i64 0], .bool true]), .val (.tuple #[.agg #[.int .i64 25769803776, .int .i64 0, .int .i64 0, .int .i64 0], .bool true]), .val (.agg #[.int .i64 25769803776, .int .i64 0, .int .i64 0, .int .i64 0]), .val (.bool true), .al B, .val (undef), .val (.bool true)]
def k10 : List K2 := [.val (.bool true), .val (.bool true), .val (.int .i64 17179869184), .val (.bool true), .val (.bool true), .val (.bool true), .val (.bool false), .val (.bool true), .val (.bool true), .val (.bool true), .val (.bool true), .val (.bool true), .val (.bool true), .val (.int .i64 17179869184), .val (.bool true), .val (.bool true), .val (.bool true), .val (.int .i64 25769803776), .val (.bool true), .val (.bool true), .val (.bool true), .val (.bool false), .val (.bool true), .val (.bool true), .val (.bool true), .val (.bool true), .val (.bool true), .val (.bool true), .val (.agg #[.int .i64 21474836480, .int .i64 0, .int .i64 1073741824, .int .i64 2147483648]), .val (.agg #[.int .i64 21474836480, .int .i64 0, .int .i64 1073741824, .int .i64 2147483648]), .val (.bool true), .val (.bool true), .val (.bool true), .val (.bool false), .val (.bool true), .val (.bool true), .val (.bool true), .val (.bool true), .val (.bool true), .val (.bool true), .val (.agg #[.int .i64 25769803776, .int .i64 0, .int .i64 0, .int .i64 0]), .val (.agg #[.int .i64 25769803776, .int .i64 0, .int .i64 0, .int .i64 0]), .val (.bool true), .val (.bool true), .val (.bool true), .bm, .bm, .val (.agg #[.int .i64 0, .int .i64 0, .int .i64 (-21474836480), .int .i64 0, .int .i64 0, .int .i64 4294967296]), .val (.agg #[.int .i64 17179869184, .int .i64 0, .int .i64 0, .int .i64 0]), .val (.agg #[.int .i64 0, .int .i64 0, .int .i64 (-21474836480), .int .i64 0, .int .i64 0, .int .i64 4294967296]), .val (.agg #[.int .i64 0, .int .i64 0, .int .i64 (-4294967296)]), .val (.agg #[.int .i64 0, .int .i64 0, .int .i64 (-4294967296)]), .val (.bool true), .val (.bool true), .val (.bool true)]
theorem EHa : ∀ w, (Op.equalIn 10000 33 (.agg #[.int .i64 21474836480, .int .i64 0, .int .i64 1073741824, .int .i64 2147483648]) (.agg #[.int .i64 21474836480, .int .i64 0, .int .i64 1073741824, .int .i64 2147483648])).run Try.prog w = .ok true w := fun w => HitEq.eq_hit _ _ _ _ _ _ _ _ w
theorem EHb : ∀ w, (Op.equalIn 10000 33 (.agg #[.int .i64 25769803776, .int .i64 0, .int .i64 0, .int .i64 0]) (.agg #[.int .i64 25769803776, .int .i64 0, .int .i64 0, .int .i64 0])).run Try.prog w = .ok true w := fun w => HitEq.eq_hit _ _ _ _ _ _ _ _ w
theorem EVc : ∀ w, (Op.equalIn 10000 23 (.agg #[.int .i64 0, .int .i64 0, .int .i64 (-4294967296)]) (.agg #[.int .i64 0, .int .i64 0, .int .i64 (-4294967296)])).run Try.prog w = .ok true w := fun w => eq_vec 9998 ⟨0, 0, -4294967296⟩ ⟨0, 0, -4294967296⟩ w

theorem ev_const (b : Act) (v : Value) : b.eval (.const v) = v := rfl
theorem alloc_run {P : Program} {e : Operand → Value} {o : Oper} {ty : TypeId} (ho : o.op = .alloc ty) {u : Value} {w w' : World} (h : (Instr.alloc ty true (.tuple #[])).run P w = .ok u w') : (execOp e o).run P w = .ok (.value u) w' := by
  unfold execOp
  simp only [ho, Sem.run_bind, h, Result.andThen_ok, Sem.run_pure]
theorem alloc_hit (w : World) : (Instr.alloc 33 true (.tuple #[])).run Try.prog w = .ok (.pointer (some ⟨w.heap.size, 0, none⟩)) (w.alloc (.cells #[.int .i64 0, .int .i64 0, .int .i64 0, .int .i64 0] 33)) := by kernel_rfl
def AwTo (w : World) : Ending → World → Prop := fun e w' => e = .returned (.bool true) ∧ Below w.heap.size w w'

set_option maxRecDepth 100000 in
set_option maxHeartbeats 16000000 in
theorem awake_any (w : World) : Calls Try.prog 17 #[] w (AwTo w) := by
  have HB0 := Lib.hid (Below.refl w.heap.size w)
  go_enter Try.func17, Try.ntmps17
  go_wp2_with fail
  refine (from_0_0_n5 _).mono ?_
  rintro e y1 ⟨rfl, hb⟩
  have HB1 := Lib.hid (HB0.out.trans (hb.mono HB0.out.size))
  clear HB0 hb  
  go_wp2_with fail
  refine (from_5_0_n5 _).mono ?_
  rintro e y2 ⟨rfl, hb⟩
  have HB2 := Lib.hid (HB1.out.trans (hb.mono HB1.out.size))
  clear HB1 hb  
  have hz := alloc2_0 y2 (.cells #[.int .i64 0, .int .i64 0, .int .i64 0, .int .i64 0, .int .i64 0, .int .i64 0] 25) (.cells #[.int .i64 0, .int .i64 0, .int .i64 0, .int .i64 0, .int .i64 0, .int .i64 0] 25)
  have hn := alloc2_1 y2 (.cells #[.int .i64 0, .int .i64 0, .int .i64 0, .int .i64 0, .int .i64 0, .int .i64 0] 25) (.cells #[.int .i64 0, .int .i64 0, .int .i64 0, .int .i64 0, .int .i64 0, .int .i64 0] 25)
  have hx := alloc2_below y2 (.cells #[.int .i64 0, .int .i64 0, .int .i64 0, .int .i64 0, .int .i64 0, .int .i64 0] 25) (.cells #[.int .i64 0, .int .i64 0, .int .i64 0, .int .i64 0, .int .i64 0, .int .i64 0] 25)
  have hn2 := (setRow_other (y2.alloc (.cells #[.int .i64 0, .int .i64 0, .int .i64 0, .int .i64 0, .int .i64 0, .int .i64 0] 25) |>.alloc (.cells #[.int .i64 0, .int .i64 0, .int .i64 0, .int .i64 0, .int .i64 0, .int .i64 0] 25)) y2.heap.size (y2.heap.size + 1) #[.int .i64 0, .int .i64 0, .int .i64 (-21474836480), .int .i64 0, .int .i64 0, .int .i64 4294967296] (by omega)).trans hn
  go_wp2_with (first | (with_reducible refine store_ray rfl (.tmp 1) (.tmp 20) rfl rfl y2.heap.size (0) (0) (-21474836480) (0) (0) (4294967296) rfl rfl _ hz rfl ?_) | (with_reducible refine store_ray rfl (.tmp 2) (.tmp 21) rfl rfl (y2.heap.size + 1) (21474836480) (0) (-21474836480) (0) (0) (4294967296) rfl rfl _ hn2 rfl ?_))
  clear hz hn hx hn2
  obtain ⟨hr1, hr2, hb⟩ := two_rows y2 25 #[.int .i64 0, .int .i64 0, .int .i64 0, .int .i64 0, .int .i64 0, .int .i64 0] #[.int .i64 0, .int .i64 0, .int .i64 (-21474836480), .int .i64 0, .int .i64 0, .int .i64 4294967296] #[.int .i64 21474836480, .int .i64 0, .int .i64 (-21474836480), .int .i64 0, .int .i64 0, .int .i64 4294967296]
  obtain ⟨y3, hW⟩ : ∃ ww, ww = (((y2.alloc (.cells #[.int .i64 0, .int .i64 0, .int .i64 0, .int .i64 0, .int .i64 0, .int .i64 0] 25)).alloc (.cells #[.int .i64 0, .int .i64 0, .int .i64 0, .int .i64 0, .int .i64 0, .int .i64 0] 25)).setRow y2.heap.size #[.int .i64 0, .int .i64 0, .int .i64 (-21474836480), .int .i64 0, .int .i64 0, .int .i64 4294967296]).setRow (y2.heap.size + 1) #[.int .i64 21474836480, .int .i64 0, .int .i64 (-21474836480), .int .i64 0, .int .i64 0, .int .i64 4294967296] := ⟨_, rfl⟩
  rw [← hW] at hr1 hr2 hb ⊢
  clear hW
  have HB3 := Lib.hid (HB2.out.trans (hb.mono HB2.out.size))
  clear HB2 hb  
  have HA3 := Lib.hid (hr1)
  have HR3 := Lib.hid (hr2)
  clear hr1 hr2
  generalize y2.heap.size + 1 = gB at HR3 ⊢
  generalize y2.heap.size = gA at HA3 ⊢
  refine (of_n1_n1_n1 _).mono ?_
  rintro e y4 ⟨rfl, hb⟩
  have HB4 := Lib.hid (HB3.out.trans (hb.mono HB3.out.size))
  have HA4 := Lib.hid (vec_step HA3.out hb)
  have HR4 := Lib.hid (vec_step HR3.out hb)
  clear HB3 HA3 HR3 hb  
  go_wp2_with fail
  refine (of_1_1_1 _).mono ?_
  rintro e y5 ⟨rfl, hb⟩
  have HB5 := Lib.hid (HB4.out.trans (hb.mono HB4.out.size))
  have HA5 := Lib.hid (vec_step HA4.out hb)
  have HR5 := Lib.hid (vec_step HR4.out hb)
  clear HB4 HA4 HR4 hb  
  go_upto_region 3 with (with_reducible refine store_box rfl (.tmp 3) (.tmp 24) rfl rfl y5.heap.size (-4294967296) (-4294967296) (-4294967296) (4294967296) (4294967296) (4294967296) rfl rfl _ (heap_alloc_new _ _) rfl ?_)
  obtain ⟨hr1, hb⟩ := one_row y5 29 #[.int .i64 0, .int .i64 0, .int .i64 0, .int .i64 0, .int .i64 0, .int .i64 0] #[.int .i64 (-4294967296), .int .i64 (-4294967296), .int .i64 (-4294967296), .int .i64 4294967296, .int .i64 4294967296, .int .i64 4294967296]
  obtain ⟨y6, hW⟩ : ∃ ww, ww = (y5.alloc (.cells #[.int .i64 0, .int .i64 0, .int .i64 0, .int .i64 0, .int .i64 0, .int .i64 0] 29)).setRow y5.heap.size #[.int .i64 (-4294967296), .int .i64 (-4294967296), .int .i64 (-4294967296), .int .i64 4294967296, .int .i64 4294967296, .int .i64 4294967296] := ⟨_, rfl⟩
  rw [← hW] at hr1 hb ⊢
  clear hW
  have HB6 := Lib.hid (HB5.out.trans (hb.mono HB5.out.size))
  have HA6 := Lib.hid (vec_step HA5.out hb)
  have HR6 := Lib.hid (vec_step HR5.out hb)
  clear HB5 HA5 HR5 hb  
  have HX6 := Lib.hid (hr1)
  clear hr1
  generalize y5.heap.size = gX at HX6 ⊢
  have cHA0 := cell_row HA6.out 0 _ rfl
  have cHA1 := cell_row HA6.out 1 _ rfl
  have cHA2 := cell_row HA6.out 2 _ rfl
  have cHA3 := cell_row HA6.out 3 _ rfl
  have cHA4 := cell_row HA6.out 4 _ rfl
  have cHA5 := cell_row HA6.out 5 _ rfl
  have cHX0 := cell_row HX6.out 0 _ rfl
  have cHX1 := cell_row HX6.out 1 _ rfl
  have cHX2 := cell_row HX6.out 2 _ rfl
  have cHX3 := cell_row HX6.out 3 _ rfl
  have cHX4 := cell_row HX6.out 4 _ rfl
  have cHX5 := cell_row HX6.out 5 _ rfl
  go_wp2_with fail
  refine (cBoxA _).mono ?_
  rintro e y7 ⟨rfl, hb⟩
  have HB7 := Lib.hid (HB6.out.trans (hb.mono HB6.out.size))
  have HA7 := Lib.hid (vec_step HA6.out hb)
  have HR7 := Lib.hid (vec_step HR6.out hb)
  have HX7 := Lib.hid (vec_step HX6.out hb)
  clear HB6 HA6 HR6 HX6 hb cHA0 cHA1 cHA2 cHA3 cHA4 cHA5 cHX0 cHX1 cHX2 cHX3 cHX4 cHX5 
  go_upto_region 4 with (fail)
  have cHR0 := cell_row HR7.out 0 _ rfl
  have cHR1 := cell_row HR7.out 1 _ rfl
  have cHR2 := cell_row HR7.out 2 _ rfl
  have cHR3 := cell_row HR7.out 3 _ rfl
  have cHR4 := cell_row HR7.out 4 _ rfl
  have cHR5 := cell_row HR7.out 5 _ rfl
  have cHX0 := cell_row HX7.out 0 _ rfl
  have cHX1 := cell_row HX7.out 1 _ rfl
  have cHX2 := cell_row HX7.out 2 _ rfl
  have cHX3 := cell_row HX7.out 3 _ rfl
  have cHX4 := cell_row HX7.out 4 _ rfl
  have cHX5 := cell_row HX7.out 5 _ rfl
  go_wp2_with fail
  refine (cBoxB _).mono ?_
  rintro e y8 ⟨rfl, hb⟩
  have HB8 := Lib.hid (HB7.out.trans (hb.mono HB7.out.size))
  have HA8 := Lib.hid (vec_step HA7.out hb)
  have HR8 := Lib.hid (vec_step HR7.out hb)
  have HX8 := Lib.hid (vec_step HX7.out hb)
  clear HB7 HA7 HR7 HX7 hb cHR0 cHR1 cHR2 cHR3 cHR4 cHR5 cHX0 cHX1 cHX2 cHX3 cHX4 cHX5 
  go_upto_region 5 with (fail)
  refine wp_region_mixedA 133 (phi2 k5) ⟨1000, 0, 0, 0, 0, 33, #[.int .i64 0, .int .i64 0, .int .i64 0, .int .i64 0]⟩ [] (outs k5) (by kernel_rfl) rfl (by kernel_rfl) (phi2_mono k5) (fun k v w9 g9 cur _ h9 _ hg9 _ => phi2_stab k5 _ rfl 0 k v w9 g9 cur h9 hg9) ?hgs (by decide) ?hal ?hrow ?hsj ?hst ?_
  case hgs => intro g hg; cases hg
  case hal => intro h; exact absurd h (by decide)
  case hrow => intro h; exact absurd h (by decide)
  case hsj => intro o ho; simp at ho
  case hst =>
    intro A hA F
    have HA_ := Lib.hid hA
    have HA2 := hA
    simp only [putsL, Act.put, List.setIfInBounds_toArray, List.set_cons_succ, List.set_cons_zero, Nat.reduceAdd, outs, k5, List.getD_cons_succ, List.getD_cons_zero, K2.out] at HA2
    have HA3 := Lib.hid HA2
    clear hA HA2
    refine ⟨.inr ?s0, .inr ?s1, .inr ?s2, .inr ?s3, .inr ?s4, .inr ?s5, .inr ?s6, .inr ?s7, .inr ?s8, .inr ?s9, .inr ?s10, .inr ?s11, .inr ?s12, trivial⟩
    case s0 =>
      refine st_valA HA_.out F rfl (d := 38) (v := (.agg #[.int .i64 0, .int .i64 0, .int .i64 (-21474836480), .int .i64 0, .int .i64 0, .int .i64 4294967296])) rfl (by decide) (fun _ _ h => nomatch h) (look_of (by kernel_rfl)) (fun _ => rfl) ?_
      intro W1 hW1
      rw [← HA3.out]
      have cHA0 := fun d os => cell_regrown (cell_row (vec_step HA8.out hW1) 0 _ rfl) d os
      have cHA1 := fun d os => cell_regrown (cell_row (vec_step HA8.out hW1) 1 _ rfl) d os
      have cHA2 := fun d os => cell_regrown (cell_row (vec_step HA8.out hW1) 2 _ rfl) d os
      have cHA3 := fun d os => cell_regrown (cell_row (vec_step HA8.out hW1) 3 _ rfl) d os
      have cHA4 := fun d os => cell_regrown (cell_row (vec_step HA8.out hW1) 4 _ rfl) d os
      have cHA5 := fun d os => cell_regrown (cell_row (vec_step HA8.out hW1) 5 _ rfl) d os
      go_big_quiet_op
      exact rfl
    case s1 =>
      intro b w hb hd hk
      rw [call_run (f := 13) (fn := Try.f13) rfl rfl Try.func13 rfl rfl w]
      simp only [List.map_toArray, List.map_nil]
      show Calls Try.prog 13 #[] w _
      refine (bal_any w).mono ?_
      rintro e w9 ⟨v, rfl, h1, h2⟩
      exact ⟨v, rfl, h1, h2⟩
    case s2 =>
      intro b w hb hd hk
      obtain ⟨g, e0, h0⟩ : Bm w (b.eval (.tmp 39)) := hd 39 (by decide) 1 rfl
      rw [fld_run rfl g e0]
      exact ⟨⟨g, rfl, h0⟩, Below.refl _ _⟩
    case s3 =>
      intro b w hb hd hk
      obtain ⟨g, e0, h0⟩ := hd 40 (by decide) 2 rfl
      rw [idx_run rfl g e0 rfl]
      exact ⟨⟨g, rfl, h0⟩, Below.refl _ _⟩
    case s4 =>
      intro b w hb hd hk
      obtain ⟨g, e0, h0⟩ := hd 41 (by decide) 3 rfl
      rw [ld_run rfl g e0 h0]
      exact ⟨rfl, Below.refl _ _⟩
    case s5 =>
      refine st_valA HA_.out F rfl (d := 43) (v := (.tuple #[.int .i64 17179869184, .int .i64 25769803776, .bool true])) rfl (by decide) (fun _ _ h => nomatch h) (look_of (by kernel_rfl)) (fun _ => rfl) ?_
      intro W1 hW1
      rw [← HA3.out]
      go_big_quiet_op
      apply Exists.intro
      refine ⟨fun _ => ?_, ?_⟩
      · with_reducible exact (qb (P := Try.prog) (fun w2 _ => cBalA w2)) _ _
      exact rfl
    case s6 =>
      refine st_valA HA_.out F rfl (d := 37) (v := (.tuple #[.int .i64 17179869184, .int .i64 25769803776, .bool true])) rfl (by decide) (fun _ _ h => nomatch h) (look_of (by kernel_rfl)) (fun _ => rfl) ?_
      intro W1 hW1
      rw [← HA3.out]
      go_big_quiet_op
      exact rfl
    case s7 =>
      refine st_valA HA_.out F rfl (d := 44) (v := (.int .i64 17179869184)) rfl (by decide) (fun _ _ h => nomatch h) (look_of (by kernel_rfl)) (fun _ => rfl) ?_
      intro W1 hW1
      rw [← HA3.out]
      go_big_quiet_op
      exact rfl
    case s8 =>
      refine st_valA HA_.out F rfl (d := 45) (v := (.int .i64 25769803776)) rfl (by decide) (fun _ _ h => nomatch h) (look_of (by kernel_rfl)) (fun _ => rfl) ?_
      intro W1 hW1
      rw [← HA3.out]
      go_big_quiet_op
      exact rfl
    case s9 =>
      refine st_valA HA_.out F rfl (d := 46) (v := (.bool true)) rfl (by decide) (fun _ _ h => nomatch h) (look_of (by kernel_rfl)) (fun _ => rfl) ?_
      intro W1 hW1
      rw [← HA3.out]
      go_big_quiet_op
      exact rfl
    case s10 =>
      refine st_valA HA_.out F rfl (d := 8) (v := (.int .i64 17179869184)) rfl (by decide) (fun _ _ h => nomatch h) (look_of (by kernel_rfl)) (fun _ => rfl) ?_
      intro W1 hW1
      rw [← HA3.out]
      go_big_quiet_op
      exact rfl
    case s11 =>
      refine st_valA HA_.out F rfl (d := 9) (v := (.int .i64 25769803776)) rfl (by decide) (fun _ _ h => nomatch h) (look_of (by kernel_rfl)) (fun _ => rfl) ?_
      intro W1 hW1
      rw [← HA3.out]
      go_big_quiet_op
      exact rfl
    case s12 =>
      refine st_valA HA_.out F rfl (d := 10) (v := (.bool true)) rfl (by decide) (fun _ _ h => nomatch h) (look_of (by kernel_rfl)) (fun _ => rfl) ?_
      intro W1 hW1
      rw [← HA3.out]
      go_big_quiet_op
      exact rfl
  intro V y9 hb hV hst
  have e10 : V 10 = (.int .i64 17179869184) := hV 10 (by decide) (by decide)
  have e11 : V 11 = (.int .i64 25769803776) := hV 11 (by decide) (by decide)
  have e12 : V 12 = (.bool true) := hV 12 (by decide) (by decide)
  clear hV hst
  simp only [putsL, Act.put, List.setIfInBounds_toArray, List.set_cons_succ, List.set_cons_zero, Nat.reduceAdd, e10, e11, e12]
  clear e10 e11 e12
  have HB9 := Lib.hid (HB8.out.trans (hb.mono HB8.out.size))
  have HA9 := Lib.hid (vec_step HA8.out hb)
  have HR9 := Lib.hid (vec_step HR8.out hb)
  have HX9 := Lib.hid (vec_step HX8.out hb)
  clear HB8 HA8 HR8 HX8 hb  
  go_upto_region 6 with (fail)
  refine wp_region_mixedA 133 (phi2 k6) ⟨1000, 0, 0, 0, 0, 33, #[.int .i64 0, .int .i64 0, .int .i64 0, .int .i64 0]⟩ [] (outs k6) (by kernel_rfl) rfl (by kernel_rfl) (phi2_mono k6) (fun k v w9 g9 cur _ h9 _ hg9 _ => phi2_stab k6 _ rfl 0 k v w9 g9 cur h9 hg9) ?hgs (by decide) ?hal ?hrow ?hsj ?hst ?_
  case hgs => intro g hg; cases hg
  case hal => intro h; exact absurd h (by decide)
  case hrow => intro h; exact absurd h (by decide)
  case hsj => intro o ho; simp at ho
  case hst =>
    intro A hA F
    have HA_ := Lib.hid hA
    have HA2 := hA
    simp only [putsL, Act.put, List.setIfInBounds_toArray, List.set_cons_succ, List.set_cons_zero, Nat.reduceAdd, outs, k6, List.getD_cons_succ, List.getD_cons_zero, K2.out] at HA2
    have HA3 := Lib.hid HA2
    clear hA HA2
    refine ⟨.inr ?s0, .inr ?s1, .inr ?s2, .inr ?s3, .inr ?s4, .inr ?s5, .inr ?s6, .inr ?s7, .inr ?s8, .inr ?s9, .inr ?s10, .inr ?s11, .inr ?s12, trivial⟩
    case s0 =>
      refine st_valA HA_.out F rfl (d := 48) (v := (.agg #[.int .i64 21474836480, .int .i64 0, .int .i64 (-21474836480), .int .i64 0, .int .i64 0, .int .i64 4294967296])) rfl (by decide) (fun _ _ h => nomatch h) (look_of (by kernel_rfl)) (fun _ => rfl) ?_
      intro W1 hW1
      rw [← HA3.out]
      have cHR0 := fun d os => cell_regrown (cell_row (vec_step HR9.out hW1) 0 _ rfl) d os
      have cHR1 := fun d os => cell_regrown (cell_row (vec_step HR9.out hW1) 1 _ rfl) d os
      have cHR2 := fun d os => cell_regrown (cell_row (vec_step HR9.out hW1) 2 _ rfl) d os
      have cHR3 := fun d os => cell_regrown (cell_row (vec_step HR9.out hW1) 3 _ rfl) d os
      have cHR4 := fun d os => cell_regrown (cell_row (vec_step HR9.out hW1) 4 _ rfl) d os
      have cHR5 := fun d os => cell_regrown (cell_row (vec_step HR9.out hW1) 5 _ rfl) d os
      go_big_quiet_op
      exact rfl
    case s1 =>
      intro b w hb hd hk
      rw [call_run (f := 13) (fn := Try.f13) rfl rfl Try.func13 rfl rfl w]
      simp only [List.map_toArray, List.map_nil]
      show Calls Try.prog 13 #[] w _
      refine (bal_any w).mono ?_
      rintro e w9 ⟨v, rfl, h1, h2⟩
      exact ⟨v, rfl, h1, h2⟩
    case s2 =>
      intro b w hb hd hk
      obtain ⟨g, e0, h0⟩ : Bm w (b.eval (.tmp 49)) := hd 49 (by decide) 1 rfl
      rw [fld_run rfl g e0]
      exact ⟨⟨g, rfl, h0⟩, Below.refl _ _⟩
    case s3 =>
      intro b w hb hd hk
      obtain ⟨g, e0, h0⟩ := hd 50 (by decide) 2 rfl
      rw [idx_run rfl g e0 rfl]
      exact ⟨⟨g, rfl, h0⟩, Below.refl _ _⟩
    case s4 =>
      intro b w hb hd hk
      obtain ⟨g, e0, h0⟩ := hd 51 (by decide) 3 rfl
      rw [ld_run rfl g e0 h0]
      exact ⟨rfl, Below.refl _ _⟩
    case s5 =>
      refine st_valA HA_.out F rfl (d := 53) (v := (.tuple #[.int .i64 0, .int .i64 0, .bool false])) rfl (by decide) (fun _ _ h => nomatch h) (look_of (by kernel_rfl)) (fun _ => rfl) ?_
      intro W1 hW1
      rw [← HA3.out]
      go_big_quiet_op
      apply Exists.intro
      refine ⟨fun _ => ?_, ?_⟩
      · with_reducible exact (qb (P := Try.prog) (fun w2 _ => cBalB w2)) _ _
      exact rfl
    case s6 =>
      refine st_valA HA_.out F rfl (d := 47) (v := (.tuple #[.int .i64 0, .int .i64 0, .bool false])) rfl (by decide) (fun _ _ h => nomatch h) (look_of (by kernel_rfl)) (fun _ => rfl) ?_
      intro W1 hW1
      rw [← HA3.out]
      go_big_quiet_op
      exact rfl
    case s7 =>
      refine st_valA HA_.out F rfl (d := 54) (v := (.int .i64 0)) rfl (by decide) (fun _ _ h => nomatch h) (look_of (by kernel_rfl)) (fun _ => rfl) ?_
      intro W1 hW1
      rw [← HA3.out]
      go_big_quiet_op
      exact rfl
    case s8 =>
      refine st_valA HA_.out F rfl (d := 55) (v := (.int .i64 0)) rfl (by decide) (fun _ _ h => nomatch h) (look_of (by kernel_rfl)) (fun _ => rfl) ?_
      intro W1 hW1
      rw [← HA3.out]
      go_big_quiet_op
      exact rfl
    case s9 =>
      refine st_valA HA_.out F rfl (d := 56) (v := (.bool false)) rfl (by decide) (fun _ _ h => nomatch h) (look_of (by kernel_rfl)) (fun _ => rfl) ?_
      intro W1 hW1
      rw [← HA3.out]
      go_big_quiet_op
      exact rfl
    case s10 =>
      refine st_valA HA_.out F rfl (d := 11) (v := (.int .i64 0)) rfl (by decide) (fun _ _ h => nomatch h) (look_of (by kernel_rfl)) (fun _ => rfl) ?_
      intro W1 hW1
      rw [← HA3.out]
      go_big_quiet_op
      exact rfl
    case s11 =>
      refine st_valA HA_.out F rfl (d := 12) (v := (.int .i64 0)) rfl (by decide) (fun _ _ h => nomatch h) (look_of (by kernel_rfl)) (fun _ => rfl) ?_
      intro W1 hW1
      rw [← HA3.out]
      go_big_quiet_op
      exact rfl
    case s12 =>
      refine st_valA HA_.out F rfl (d := 13) (v := (.bool false)) rfl (by decide) (fun _ _ h => nomatch h) (look_of (by kernel_rfl)) (fun _ => rfl) ?_
      intro W1 hW1
      rw [← HA3.out]
      go_big_quiet_op
      exact rfl
  intro V y10 hb hV hst
  have e10 : V 10 = (.int .i64 0) := hV 10 (by decide) (by decide)
  have e11 : V 11 = (.int .i64 0) := hV 11 (by decide) (by decide)
  have e12 : V 12 = (.bool false) := hV 12 (by decide) (by decide)
  clear hV hst
  simp only [putsL, Act.put, List.setIfInBounds_toArray, List.set_cons_succ, List.set_cons_zero, Nat.reduceAdd, e10, e11, e12]
  clear e10 e11 e12
  have HB10 := Lib.hid (HB9.out.trans (hb.mono HB9.out.size))
  have HA10 := Lib.hid (vec_step HA9.out hb)
  have HR10 := Lib.hid (vec_step HR9.out hb)
  have HX10 := Lib.hid (vec_step HX9.out hb)
  clear HB9 HA9 HR9 HX9 hb  
  go_upto_region 7 with (fail)
  refine wp_region_mixedA 133 (phi2 (k7 y10.heap.size)) ⟨9, 14, 8, 63, 6, 33, #[.int .i64 21474836480, .int .i64 0, .int .i64 1073741824, .int .i64 2147483648]⟩ [] (outs (k7 y10.heap.size)) (by kernel_rfl) rfl (by kernel_rfl) (phi2_mono (k7 y10.heap.size)) (fun k v w9 g9 cur _ h9 _ hg9 _ => phi2_stab (k7 y10.heap.size) _ rfl 0 k v w9 g9 cur h9 hg9) ?hgs (by decide) ?hal ?hrow ?hsj ?hst ?_
  case hgs => intro g hg; cases hg
  case hal =>
    exact fun _ w9 v h => h
  case hrow =>
    exact fun _ w9 v h => h
  case hsj =>
    intro o ho
    simp only [List.getElem?_toArray, List.getElem?_cons_succ, List.getElem?_cons_zero, Option.some.injEq] at ho
    subst ho
    exact ⟨⟨33, rfl, by kernel_rfl⟩, rfl, by kernel_rfl⟩
  case hst =>
    intro A hA F
    have HA_ := Lib.hid hA
    have HA2 := hA
    simp only [putsL, Act.put, List.setIfInBounds_toArray, List.set_cons_succ, List.set_cons_zero, Nat.reduceAdd, outs, k7, List.getD_cons_succ, List.getD_cons_zero, K2.out] at HA2
    have HA3 := Lib.hid HA2
    clear hA HA2
    refine ⟨.inr ?s0, .inr ?s1, .inr ?s2, .inr ?s3, .inr ?s4, .inr ?s5, .inr ?s6, .inr ?s7, .inr ?s8, .inl rfl, .inr ?s10, trivial⟩
    case s0 =>
      refine st_valA HA_.out F rfl (d := 58) (v := (.agg #[.int .i64 0, .int .i64 0, .int .i64 (-21474836480), .int .i64 0, .int .i64 0, .int .i64 4294967296])) rfl (by decide) (fun _ _ h => nomatch h) (look_of (by kernel_rfl)) (fun _ => rfl) ?_
      intro W1 hW1
      rw [← HA3.out]
      have cHA0 := fun d os => cell_regrown (cell_row (vec_step HA10.out hW1) 0 _ rfl) d os
      have cHA1 := fun d os => cell_regrown (cell_row (vec_step HA10.out hW1) 1 _ rfl) d os
      have cHA2 := fun d os => cell_regrown (cell_row (vec_step HA10.out hW1) 2 _ rfl) d os
      have cHA3 := fun d os => cell_regrown (cell_row (vec_step HA10.out hW1) 3 _ rfl) d os
      have cHA4 := fun d os => cell_regrown (cell_row (vec_step HA10.out hW1) 4 _ rfl) d os
      have cHA5 := fun d os => cell_regrown (cell_row (vec_step HA10.out hW1) 5 _ rfl) d os
      go_big_quiet_op
      exact rfl
    case s1 =>
      refine st_valA HA_.out F rfl (d := 59) (v := (.agg #[.int .i64 (-4294967296), .int .i64 (-4294967296), .int .i64 0])) rfl (by decide) (fun _ _ h => nomatch h) (look_of (by kernel_rfl)) (fun _ => rfl) ?_
      intro W1 hW1
      rw [← HA3.out]
      go_big_quiet_op
      apply Exists.intro
      refine ⟨fun _ => ?_, ?_⟩
      · with_reducible exact (qb (P := Try.prog) (fun w2 _ => of_n1_n1_0 w2)) _ _
      exact rfl
    case s2 =>
      refine st_valA HA_.out F rfl (d := 60) (v := (.agg #[.int .i64 4294967296, .int .i64 (-4294967296), .int .i64 0])) rfl (by decide) (fun _ _ h => nomatch h) (look_of (by kernel_rfl)) (fun _ => rfl) ?_
      intro W1 hW1
      rw [← HA3.out]
      go_big_quiet_op
      apply Exists.intro
      refine ⟨fun _ => ?_, ?_⟩
      · with_reducible exact (qb (P := Try.prog) (fun w2 _ => of_1_n1_0 w2)) _ _
      exact rfl
    case s3 =>
      refine st_valA HA_.out F rfl (d := 61) (v := (.agg #[.int .i64 0, .int .i64 4294967296, .int .i64 0])) rfl (by decide) (fun _ _ h => nomatch h) (look_of (by kernel_rfl)) (fun _ => rfl) ?_
      intro W1 hW1
      rw [← HA3.out]
      go_big_quiet_op
      apply Exists.intro
      refine ⟨fun _ => ?_, ?_⟩
      · with_reducible exact (qb (P := Try.prog) (fun w2 _ => of_0_1_0 w2)) _ _
      exact rfl
    case s4 =>
      refine st_valA HA_.out F rfl (d := 62) (v := (.tuple #[.agg #[.int .i64 21474836480, .int .i64 0, .int .i64 1073741824, .int .i64 2147483648], .bool true])) rfl (by decide) (fun _ _ h => nomatch h) (look_of (by kernel_rfl)) (fun _ => rfl) ?_
      intro W1 hW1
      rw [← HA3.out]
      go_big_quiet_op
      apply Exists.intro
      refine ⟨fun _ => ?_, ?_⟩
      · with_reducible exact (qb (P := Try.prog) (fun w2 _ => cTriA w2)) _ _
      exact rfl
    case s5 =>
      refine st_valA HA_.out F rfl (d := 57) (v := (.tuple #[.agg #[.int .i64 21474836480, .int .i64 0, .int .i64 1073741824, .int .i64 2147483648], .bool true])) rfl (by decide) (fun _ _ h => nomatch h) (look_of (by kernel_rfl)) (fun _ => rfl) ?_
      intro W1 hW1
      rw [← HA3.out]
      go_big_quiet_op
      exact rfl
    case s6 =>
      refine st_valA HA_.out F rfl (d := 63) (v := (.agg #[.int .i64 21474836480, .int .i64 0, .int .i64 1073741824, .int .i64 2147483648])) rfl (by decide) (fun _ _ h => nomatch h) (look_of (by kernel_rfl)) (fun _ => rfl) ?_
      intro W1 hW1
      rw [← HA3.out]
      go_big_quiet_op
      exact rfl
    case s7 =>
      refine st_valA HA_.out F rfl (d := 64) (v := (.bool true)) rfl (by decide) (fun _ _ h => nomatch h) (look_of (by kernel_rfl)) (fun _ => rfl) ?_
      intro W1 hW1
      rw [← HA3.out]
      go_big_quiet_op
      exact rfl
    case s8 =>
      intro b w hb hd hk
      rw [alloc_run rfl (alloc_hit w)]
      exact ⟨⟨w.heap.size, _, rfl, hb.size, heap_alloc_new _ _, rfl⟩, ext_alloc _ _⟩
    case s10 =>
      refine st_valA HA_.out F rfl (d := 15) (v := (.bool true)) rfl (by decide) (fun _ _ h => nomatch h) (look_of (by kernel_rfl)) (fun _ => rfl) ?_
      intro W1 hW1
      rw [← HA3.out]
      go_big_quiet_op
      exact rfl
  intro V y11 hb hV hst
  have e10 : V 10 = (.bool true) := hV 10 (by decide) (by decide)
  obtain ⟨gHT, hgv, hgr⟩ := hst (by decide)
  dsimp only at hgv hgr
  clear hV hst
  simp only [putsL, Act.put, List.setIfInBounds_toArray, List.set_cons_succ, List.set_cons_zero, Nat.reduceAdd, e10, hgv, ptr]
  clear hgv e10
  have HB11 := Lib.hid (HB10.out.trans (hb.mono HB10.out.size))
  have HA11 := Lib.hid (vec_step HA10.out hb)
  have HR11 := Lib.hid (vec_step HR10.out hb)
  have HX11 := Lib.hid (vec_step HX10.out hb)
  clear HB10 HA10 HR10 HX10 hb  
  have HT11 := Lib.hid (hgr)
  clear hgr
  go_upto_region 8 with (fail)
  refine wp_region_mixedA 133 (phi2 (k8 y11.heap.size)) ⟨9, 16, 8, 71, 6, 33, #[.int .i64 0, .int .i64 0, .int .i64 0, .int .i64 0]⟩ [] (outs (k8 y11.heap.size)) (by kernel_rfl) rfl (by kernel_rfl) (phi2_mono (k8 y11.heap.size)) (fun k v w9 g9 cur _ h9 _ hg9 _ => phi2_stab (k8 y11.heap.size) _ rfl 0 k v w9 g9 cur h9 hg9) ?hgs (by decide) ?hal ?hrow ?hsj ?hst ?_
  case hgs => intro g hg; cases hg
  case hal =>
    exact fun _ w9 v h => h
  case hrow =>
    exact fun _ w9 v h => h
  case hsj =>
    intro o ho
    simp only [List.getElem?_toArray, List.getElem?_cons_succ, List.getElem?_cons_zero, Option.some.injEq] at ho
    subst ho
    exact ⟨⟨33, rfl, by kernel_rfl⟩, rfl, by kernel_rfl⟩
  case hst =>
    intro A hA F
    have HA_ := Lib.hid hA
    have HA2 := hA
    simp only [putsL, Act.put, List.setIfInBounds_toArray, List.set_cons_succ, List.set_cons_zero, Nat.reduceAdd, outs, k8, List.getD_cons_succ, List.getD_cons_zero, K2.out] at HA2
    have HA3 := Lib.hid HA2
    clear hA HA2
    refine ⟨.inr ?s0, .inr ?s1, .inr ?s2, .inr ?s3, .inr ?s4, .inr ?s5, .inr ?s6, .inr ?s7, .inr ?s8, .inl rfl, .inr ?s10, trivial⟩
    case s0 =>
      refine st_valA HA_.out F rfl (d := 66) (v := (.agg #[.int .i64 21474836480, .int .i64 0, .int .i64 (-21474836480), .int .i64 0, .int .i64 0, .int .i64 4294967296])) rfl (by decide) (fun _ _ h => nomatch h) (look_of (by kernel_rfl)) (fun _ => rfl) ?_
      intro W1 hW1
      rw [← HA3.out]
      have cHR0 := fun d os => cell_regrown (cell_row (vec_step HR11.out hW1) 0 _ rfl) d os
      have cHR1 := fun d os => cell_regrown (cell_row (vec_step HR11.out hW1) 1 _ rfl) d os
      have cHR2 := fun d os => cell_regrown (cell_row (vec_step HR11.out hW1) 2 _ rfl) d os
      have cHR3 := fun d os => cell_regrown (cell_row (vec_step HR11.out hW1) 3 _ rfl) d os
      have cHR4 := fun d os => cell_regrown (cell_row (vec_step HR11.out hW1) 4 _ rfl) d os
      have cHR5 := fun d os => cell_regrown (cell_row (vec_step HR11.out hW1) 5 _ rfl) d os
      go_big_quiet_op
      exact rfl
    case s1 =>
      refine st_valA HA_.out F rfl (d := 67) (v := (.agg #[.int .i64 (-4294967296), .int .i64 (-4294967296), .int .i64 0])) rfl (by decide) (fun _ _ h => nomatch h) (look_of (by kernel_rfl)) (fun _ => rfl) ?_
      intro W1 hW1
      rw [← HA3.out]
      go_big_quiet_op
      apply Exists.intro
      refine ⟨fun _ => ?_, ?_⟩
      · with_reducible exact (qb (P := Try.prog) (fun w2 _ => of_n1_n1_0 w2)) _ _
      exact rfl
    case s2 =>
      refine st_valA HA_.out F rfl (d := 68) (v := (.agg #[.int .i64 4294967296, .int .i64 (-4294967296), .int .i64 0])) rfl (by decide) (fun _ _ h => nomatch h) (look_of (by kernel_rfl)) (fun _ => rfl) ?_
      intro W1 hW1
      rw [← HA3.out]
      go_big_quiet_op
      apply Exists.intro
      refine ⟨fun _ => ?_, ?_⟩
      · with_reducible exact (qb (P := Try.prog) (fun w2 _ => of_1_n1_0 w2)) _ _
      exact rfl
    case s3 =>
      refine st_valA HA_.out F rfl (d := 69) (v := (.agg #[.int .i64 0, .int .i64 4294967296, .int .i64 0])) rfl (by decide) (fun _ _ h => nomatch h) (look_of (by kernel_rfl)) (fun _ => rfl) ?_
      intro W1 hW1
      rw [← HA3.out]
      go_big_quiet_op
      apply Exists.intro
      refine ⟨fun _ => ?_, ?_⟩
      · with_reducible exact (qb (P := Try.prog) (fun w2 _ => of_0_1_0 w2)) _ _
      exact rfl
    case s4 =>
      refine st_valA HA_.out F rfl (d := 70) (v := (.tuple #[.agg #[.int .i64 0, .int .i64 0, .int .i64 0, .int .i64 0], .bool false])) rfl (by decide) (fun _ _ h => nomatch h) (look_of (by kernel_rfl)) (fun _ => rfl) ?_
      intro W1 hW1
      rw [← HA3.out]
      go_big_quiet_op
      apply Exists.intro
      refine ⟨fun _ => ?_, ?_⟩
      · with_reducible exact (qb (P := Try.prog) (fun w2 _ => cTriB w2)) _ _
      exact rfl
    case s5 =>
      refine st_valA HA_.out F rfl (d := 65) (v := (.tuple #[.agg #[.int .i64 0, .int .i64 0, .int .i64 0, .int .i64 0], .bool false])) rfl (by decide) (fun _ _ h => nomatch h) (look_of (by kernel_rfl)) (fun _ => rfl) ?_
      intro W1 hW1
      rw [← HA3.out]
      go_big_quiet_op
      exact rfl
    case s6 =>
      refine st_valA HA_.out F rfl (d := 71) (v := (.agg #[.int .i64 0, .int .i64 0, .int .i64 0, .int .i64 0])) rfl (by decide) (fun _ _ h => nomatch h) (look_of (by kernel_rfl)) (fun _ => rfl) ?_
      intro W1 hW1
      rw [← HA3.out]
      go_big_quiet_op
      exact rfl
    case s7 =>
      refine st_valA HA_.out F rfl (d := 72) (v := (.bool false)) rfl (by decide) (fun _ _ h => nomatch h) (look_of (by kernel_rfl)) (fun _ => rfl) ?_
      intro W1 hW1
      rw [← HA3.out]
      go_big_quiet_op
      exact rfl
    case s8 =>
      intro b w hb hd hk
      rw [alloc_run rfl (alloc_hit w)]
      exact ⟨⟨w.heap.size, _, rfl, hb.size, heap_alloc_new _ _, rfl⟩, ext_alloc _ _⟩
    case s10 =>
      refine st_valA HA_.out F rfl (d := 17) (v := (.bool false)) rfl (by decide) (fun _ _ h => nomatch h) (look_of (by kernel_rfl)) (fun _ => rfl) ?_
      intro W1 hW1
      rw [← HA3.out]
      go_big_quiet_op
      exact rfl
  intro V y12 hb hV hst
  have e10 : V 10 = (.bool false) := hV 10 (by decide) (by decide)
  obtain ⟨gHU, hgv, hgr⟩ := hst (by decide)
  dsimp only at hgv hgr
  clear hV hst
  simp only [putsL, Act.put, List.setIfInBounds_toArray, List.set_cons_succ, List.set_cons_zero, Nat.reduceAdd, e10, hgv, ptr]
  clear hgv e10
  have HB12 := Lib.hid (HB11.out.trans (hb.mono HB11.out.size))
  have HA12 := Lib.hid (vec_step HA11.out hb)
  have HR12 := Lib.hid (vec_step HR11.out hb)
  have HX12 := Lib.hid (vec_step HX11.out hb)
  have HT12 := Lib.hid (vec_step HT11.out hb)
  clear HB11 HA11 HR11 HX11 HT11 hb  
  have HU12 := Lib.hid (hgr)
  clear hgr
  go_upto_region 9 with (fail)
  refine wp_region_mixedA 133 (phi2 (k9 y12.heap.size)) ⟨7, 18, 6, 77, 4, 33, #[.int .i64 25769803776, .int .i64 0, .int .i64 0, .int .i64 0]⟩ [] (outs (k9 y12.heap.size)) (by kernel_rfl) rfl (by kernel_rfl) (phi2_mono (k9 y12.heap.size)) (fun k v w9 g9 cur _ h9 _ hg9 _ => phi2_stab (k9 y12.heap.size) _ rfl 0 k v w9 g9 cur h9 hg9) ?hgs (by decide) ?hal ?hrow ?hsj ?hst ?_
  case hgs => intro g hg; cases hg
  case hal =>
    exact fun _ w9 v h => h
  case hrow =>
    exact fun _ w9 v h => h
  case hsj =>
    intro o ho
    simp only [List.getElem?_toArray, List.getElem?_cons_succ, List.getElem?_cons_zero, Option.some.injEq] at ho
    subst ho
    exact ⟨⟨33, rfl, by kernel_rfl⟩, rfl, by kernel_rfl⟩
  case hst =>
    intro A hA F
    have HA_ := Lib.hid hA
    have HA2 := hA
    simp only [putsL, Act.put, List.setIfInBounds_toArray, List.set_cons_succ, List.set_cons_zero, Nat.reduceAdd, outs, k9, List.getD_cons_succ, List.getD_cons_zero, K2.out] at HA2
    have HA3 := Lib.hid HA2
    clear hA HA2
    refine ⟨.inr ?s0, .inr ?s1, .inr ?s2, .inr ?s3, .inr ?s4, .inr ?s5, .inr ?s6, .inl rfl, .inr ?s8, trivial⟩
    case s0 =>
      intro b w hb hd hk
      rw [call_run (f := 13) (fn := Try.f13) rfl rfl Try.func13 rfl rfl w]
      simp only [List.map_toArray, List.map_nil]
      show Calls Try.prog 13 #[] w _
      refine (bal_any w).mono ?_
      rintro e w9 ⟨v, rfl, h1, h2⟩
      exact ⟨v, rfl, h1, h2⟩
    case s1 =>
      refine st_valA HA_.out F rfl (d := 75) (v := (.agg #[.int .i64 0, .int .i64 0, .int .i64 (-21474836480), .int .i64 0, .int .i64 0, .int .i64 4294967296])) rfl (by decide) (fun _ _ h => nomatch h) (look_of (by kernel_rfl)) (fun _ => rfl) ?_
      intro W1 hW1
      rw [← HA3.out]
      have cHA0 := fun d os => cell_regrown (cell_row (vec_step HA12.out hW1) 0 _ rfl) d os
      have cHA1 := fun d os => cell_regrown (cell_row (vec_step HA12.out hW1) 1 _ rfl) d os
      have cHA2 := fun d os => cell_regrown (cell_row (vec_step HA12.out hW1) 2 _ rfl) d os
      have cHA3 := fun d os => cell_regrown (cell_row (vec_step HA12.out hW1) 3 _ rfl) d os
      have cHA4 := fun d os => cell_regrown (cell_row (vec_step HA12.out hW1) 4 _ rfl) d os
      have cHA5 := fun d os => cell_regrown (cell_row (vec_step HA12.out hW1) 5 _ rfl) d os
      go_big_quiet_op
      exact rfl
    case s2 =>
      intro b w hb hd hk
      have e0 : Bm w (b.eval (.tmp 74)) := hd 74 (by decide) 0 rfl
      have e1 : b.eval (.tmp 75) = .agg #[.int .i64 0, .int .i64 0, .int .i64 (-21474836480), .int .i64 0, .int .i64 0, .int .i64 4294967296] := hd 75 (by decide) 1 rfl
      rw [call_run (f := 15) (fn := Try.f15) rfl rfl Try.func15 rfl rfl w]
      simp only [List.map_toArray, List.map_nil, List.map_cons, ev_const, e1]
      show Calls Try.prog 15 #[b.eval (.tmp 74), .int .i64 0, .agg #[.int .i64 0, .int .i64 0, .int .i64 (-21474836480), .int .i64 0, .int .i64 0, .int .i64 4294967296], .int .i64 21474836480] w _
      refine (cShA _ w e0).mono ?_
      rintro e w9 ⟨rfl, h2⟩
      exact ⟨_, rfl, rfl, h2⟩
    case s3 =>
      refine st_valA HA_.out F rfl (d := 73) (v := (.tuple #[.agg #[.int .i64 25769803776, .int .i64 0, .int .i64 0, .int .i64 0], .bool true])) rfl (by decide) (fun _ _ h => nomatch h) (look_of (by kernel_rfl)) (fun _ => rfl) ?_
      intro W1 hW1
      rw [← HA3.out]
      go_big_quiet_op
      exact rfl
    case s4 =>
      refine st_valA HA_.out F rfl (d := 77) (v := (.agg #[.int .i64 25769803776, .int .i64 0, .int .i64 0, .int .i64 0])) rfl (by decide) (fun _ _ h => nomatch h) (look_of (by kernel_rfl)) (fun _ => rfl) ?_
      intro W1 hW1
      rw [← HA3.out]
      go_big_quiet_op
      exact rfl
    case s5 =>
      refine st_valA HA_.out F rfl (d := 78) (v := (.bool true)) rfl (by decide) (fun _ _ h => nomatch h) (look_of (by kernel_rfl)) (fun _ => rfl) ?_
      intro W1 hW1
      rw [← HA3.out]
      go_big_quiet_op
      exact rfl
    case s6 =>
      intro b w hb hd hk
      rw [alloc_run rfl (alloc_hit w)]
      exact ⟨⟨w.heap.size, _, rfl, hb.size, heap_alloc_new _ _, rfl⟩, ext_alloc _ _⟩
    case s8 =>
      refine st_valA HA_.out F rfl (d := 19) (v := (.bool true)) rfl (by decide) (fun _ _ h => nomatch h) (look_of (by kernel_rfl)) (fun _ => rfl) ?_
      intro W1 hW1
      rw [← HA3.out]
      go_big_quiet_op
      exact rfl
  intro V y13 hb hV hst
  have e8 : V 8 = (.bool true) := hV 8 (by decide) (by decide)
  obtain ⟨gHS, hgv, hgr⟩ := hst (by decide)
  dsimp only at hgv hgr
  clear hV hst
  simp only [putsL, Act.put, List.setIfInBounds_toArray, List.set_cons_succ, List.set_cons_zero, Nat.reduceAdd, e8, hgv, ptr]
  clear hgv e8
  have HB13 := Lib.hid (HB12.out.trans (hb.mono HB12.out.size))
  have HA13 := Lib.hid (vec_step HA12.out hb)
  have HR13 := Lib.hid (vec_step HR12.out hb)
  have HX13 := Lib.hid (vec_step HX12.out hb)
  have HT13 := Lib.hid (vec_step HT12.out hb)
  have HU13 := Lib.hid (vec_step HU12.out hb)
  clear HB12 HA12 HR12 HX12 HT12 HU12 hb  
  have HS13 := Lib.hid (hgr)
  clear hgr
  go_upto_region 10 with (fail)
  refine wp_region_mixedA 133 (phi2 k10) ⟨1000, 0, 0, 0, 0, 33, #[.int .i64 0, .int .i64 0, .int .i64 0, .int .i64 0]⟩ [1, 5, 9, 12, 16, 20, 24, 27, 32, 36, 39, 44] (outs k10) (by kernel_rfl) rfl (by kernel_rfl) (phi2_mono k10) (fun k v w9 g9 cur _ h9 _ hg9 _ => phi2_stab k10 _ rfl 0 k v w9 g9 cur h9 hg9) ?hgs (by decide) ?hal ?hrow ?hsj ?hst ?_
  case hgs =>
    intro g hg w v hv
    simp only [List.mem_cons, List.not_mem_nil, or_false] at hg
    rcases hg with rfl | rfl | rfl | rfl | rfl | rfl | rfl | rfl | rfl | rfl | rfl | rfl <;> exact hv
  case hal => intro h; exact absurd h (by decide)
  case hrow => intro h; exact absurd h (by decide)
  case hsj => intro o ho; simp at ho
  case hst =>
    intro A hA F
    have HA_ := Lib.hid hA
    have HA2 := hA
    simp only [putsL, Act.put, List.setIfInBounds_toArray, List.set_cons_succ, List.set_cons_zero, Nat.reduceAdd, outs, k10, List.getD_cons_succ, List.getD_cons_zero, K2.out] at HA2
    have HA3 := Lib.hid HA2
    clear hA HA2
    refine ⟨.inr ?s0, .inr ?s1, .inr ?s2, .inr ?s3, .inr ?s4, .inr ?s5, .inr ?s6, .inr ?s7, .inr ?s8, .inr ?s9, .inr ?s10, .inr ?s11, .inr ?s12, .inr ?s13, .inr ?s14, .inr ?s15, .inr ?s16, .inr ?s17, .inr ?s18, .inr ?s19, .inr ?s20, .inr ?s21, .inr ?s22, .inr ?s23, .inr ?s24, .inr ?s25, .inr ?s26, .inr ?s27, .inr ?s28, .inr ?s29, .inr ?s30, .inr ?s31, .inr ?s32, .inr ?s33, .inr ?s34, .inr ?s35, .inr ?s36, .inr ?s37, .inr ?s38, .inr ?s39, .inr ?s40, .inr ?s41, .inr ?s42, .inr ?s43, .inr ?s44, .inr ?s45, .inr ?s46, .inr ?s47, .inr ?s48, .inr ?s49, .inr ?s50, .inr ?s51, .inr ?s52, .inr ?s53, .inr ?s54, trivial⟩
    case s0 =>
      refine st_valA HA_.out F rfl (d := 79) (v := (.bool true)) rfl (by decide) (fun _ _ h => nomatch h) (look_of (by kernel_rfl)) (fun _ => rfl) ?_
      intro W1 hW1
      rw [← HA3.out]
      go_big_quiet_op
      exact rfl
    case s1 =>
      refine st_valA HA_.out F rfl (d := 80) (v := (.bool true)) rfl (by decide) (fun _ _ h => nomatch h) (look_of (by kernel_rfl)) (fun _ => rfl) ?_
      intro W1 hW1
      rw [← HA3.out]
      go_big_quiet_op
      exact rfl
    case s2 =>
      refine st_valA HA_.out F rfl (d := 81) (v := (.int .i64 17179869184)) rfl (by decide) (fun _ _ h => nomatch h) (look_of (by kernel_rfl)) (fun _ => rfl) ?_
      intro W1 hW1
      rw [← HA3.out]
      go_big_quiet_op
      exact rfl
    case s3 =>
      refine st_valA HA_.out F rfl (d := 82) (v := (.bool true)) rfl (by decide) (fun _ _ h => nomatch h) (look_of (by kernel_rfl)) (fun _ => rfl) ?_
      intro W1 hW1
      rw [← HA3.out]
      go_big_quiet_op
      exact rfl
    case s4 =>
      refine st_valA HA_.out F rfl (d := 83) (v := (.bool true)) rfl (by decide) (fun _ _ h => nomatch h) (look_of (by kernel_rfl)) (fun _ => rfl) ?_
      intro W1 hW1
      rw [← HA3.out]
      go_big_quiet_op
      exact rfl
    case s5 =>
      refine st_valA HA_.out F rfl (d := 84) (v := (.bool true)) rfl (by decide) (fun _ _ h => nomatch h) (look_of (by kernel_rfl)) (fun _ => rfl) ?_
      intro W1 hW1
      rw [← HA3.out]
      go_big_quiet_op
      exact rfl
    case s6 =>
      refine st_valA HA_.out F rfl (d := 85) (v := (.bool false)) rfl (by decide) (fun _ _ h => nomatch h) (look_of (by kernel_rfl)) (fun _ => rfl) ?_
      intro W1 hW1
      rw [← HA3.out]
      go_big_quiet_op
      exact rfl
    case s7 =>
      refine st_valA HA_.out F rfl (d := 86) (v := (.bool true)) rfl (by decide) (fun _ _ h => nomatch h) (look_of (by kernel_rfl)) (fun _ => rfl) ?_
      intro W1 hW1
      rw [← HA3.out]
      go_big_quiet_op
      exact rfl
    case s8 =>
      refine st_valA HA_.out F rfl (d := 87) (v := (.bool true)) rfl (by decide) (fun _ _ h => nomatch h) (look_of (by kernel_rfl)) (fun _ => rfl) ?_
      intro W1 hW1
      rw [← HA3.out]
      go_big_quiet_op
      exact rfl
    case s9 =>
      refine st_valA HA_.out F rfl (d := 88) (v := (.bool true)) rfl (by decide) (fun _ _ h => nomatch h) (look_of (by kernel_rfl)) (fun _ => rfl) ?_
      intro W1 hW1
      rw [← HA3.out]
      go_big_quiet_op
      exact rfl
    case s10 =>
      refine st_valA HA_.out F rfl (d := 89) (v := (.bool true)) rfl (by decide) (fun _ _ h => nomatch h) (look_of (by kernel_rfl)) (fun _ => rfl) ?_
      intro W1 hW1
      rw [← HA3.out]
      go_big_quiet_op
      exact rfl
    case s11 =>
      refine st_valA HA_.out F rfl (d := 90) (v := (.bool true)) rfl (by decide) (fun _ _ h => nomatch h) (look_of (by kernel_rfl)) (fun _ => rfl) ?_
      intro W1 hW1
      rw [← HA3.out]
      go_big_quiet_op
      exact rfl
    case s12 =>
      refine st_valA HA_.out F rfl (d := 91) (v := (.bool true)) rfl (by decide) (fun _ _ h => nomatch h) (look_of (by kernel_rfl)) (fun _ => rfl) ?_
      intro W1 hW1
      rw [← HA3.out]
      go_big_quiet_op
      exact rfl
    case s13 =>
      refine st_valA HA_.out F rfl (d := 92) (v := (.int .i64 17179869184)) rfl (by decide) (fun _ _ h => nomatch h) (look_of (by kernel_rfl)) (fun _ => rfl) ?_
      intro W1 hW1
      rw [← HA3.out]
      go_big_quiet_op
      exact rfl
    case s14 =>
      refine st_valA HA_.out F rfl (d := 93) (v := (.bool true)) rfl (by decide) (fun _ _ h => nomatch h) (look_of (by kernel_rfl)) (fun _ => rfl) ?_
      intro W1 hW1
      rw [← HA3.out]
      go_big_quiet_op
      exact rfl
    case s15 =>
      refine st_valA HA_.out F rfl (d := 94) (v := (.bool true)) rfl (by decide) (fun _ _ h => nomatch h) (look_of (by kernel_rfl)) (fun _ => rfl) ?_
      intro W1 hW1
      rw [← HA3.out]
      go_big_quiet_op
      exact rfl
    case s16 =>
      refine st_valA HA_.out F rfl (d := 95) (v := (.bool true)) rfl (by decide) (fun _ _ h => nomatch h) (look_of (by kernel_rfl)) (fun _ => rfl) ?_
      intro W1 hW1
      rw [← HA3.out]
      go_big_quiet_op
      exact rfl
    case s17 =>
      refine st_valA HA_.out F rfl (d := 96) (v := (.int .i64 25769803776)) rfl (by decide) (fun _ _ h => nomatch h) (look_of (by kernel_rfl)) (fun _ => rfl) ?_
      intro W1 hW1
      rw [← HA3.out]
      go_big_quiet_op
      exact rfl
    case s18 =>
      refine st_valA HA_.out F rfl (d := 97) (v := (.bool true)) rfl (by decide) (fun _ _ h => nomatch h) (look_of (by kernel_rfl)) (fun _ => rfl) ?_
      intro W1 hW1
      rw [← HA3.out]
      go_big_quiet_op
      exact rfl
    case s19 =>
      refine st_valA HA_.out F rfl (d := 98) (v := (.bool true)) rfl (by decide) (fun _ _ h => nomatch h) (look_of (by kernel_rfl)) (fun _ => rfl) ?_
      intro W1 hW1
      rw [← HA3.out]
      go_big_quiet_op
      exact rfl
    case s20 =>
      refine st_valA HA_.out F rfl (d := 99) (v := (.bool true)) rfl (by decide) (fun _ _ h => nomatch h) (look_of (by kernel_rfl)) (fun _ => rfl) ?_
      intro W1 hW1
      rw [← HA3.out]
      go_big_quiet_op
      exact rfl
    case s21 =>
      refine st_valA HA_.out F rfl (d := 100) (v := (.bool false)) rfl (by decide) (fun _ _ h => nomatch h) (look_of (by kernel_rfl)) (fun _ => rfl) ?_
      intro W1 hW1
      rw [← HA3.out]
      go_big_quiet_op
      exact rfl
    case s22 =>
      refine st_valA HA_.out F rfl (d := 101) (v := (.bool true)) rfl (by decide) (fun _ _ h => nomatch h) (look_of (by kernel_rfl)) (fun _ => rfl) ?_
      intro W1 hW1
      rw [← HA3.out]
      go_big_quiet_op
      exact rfl
    case s23 =>
      refine st_valA HA_.out F rfl (d := 102) (v := (.bool true)) rfl (by decide) (fun _ _ h => nomatch h) (look_of (by kernel_rfl)) (fun _ => rfl) ?_
      intro W1 hW1
      rw [← HA3.out]
      go_big_quiet_op
      exact rfl
    case s24 =>
      refine st_valA HA_.out F rfl (d := 103) (v := (.bool true)) rfl (by decide) (fun _ _ h => nomatch h) (look_of (by kernel_rfl)) (fun _ => rfl) ?_
      intro W1 hW1
      rw [← HA3.out]
      go_big_quiet_op
      exact rfl
    case s25 =>
      refine st_valA HA_.out F rfl (d := 104) (v := (.bool true)) rfl (by decide) (fun _ _ h => nomatch h) (look_of (by kernel_rfl)) (fun _ => rfl) ?_
      intro W1 hW1
      rw [← HA3.out]
      go_big_quiet_op
      exact rfl
    case s26 =>
      refine st_valA HA_.out F rfl (d := 105) (v := (.bool true)) rfl (by decide) (fun _ _ h => nomatch h) (look_of (by kernel_rfl)) (fun _ => rfl) ?_
      intro W1 hW1
      rw [← HA3.out]
      go_big_quiet_op
      exact rfl
    case s27 =>
      refine st_valA HA_.out F rfl (d := 106) (v := (.bool true)) rfl (by decide) (fun _ _ h => nomatch h) (look_of (by kernel_rfl)) (fun _ => rfl) ?_
      intro W1 hW1
      rw [← HA3.out]
      go_big_quiet_op
      exact rfl
    case s28 =>
      refine st_valA HA_.out F rfl (d := 107) (v := (.agg #[.int .i64 21474836480, .int .i64 0, .int .i64 1073741824, .int .i64 2147483648])) rfl (by decide) (fun _ _ h => nomatch h) (look_of (by kernel_rfl)) (fun _ => rfl) ?_
      intro W1 hW1
      rw [← HA3.out]
      have d0 := fun d os => cell_regrown (cell_row (vec_step HT13.out hW1) 0 _ rfl) d os
      have d1 := fun d os => cell_regrown (cell_row (vec_step HT13.out hW1) 1 _ rfl) d os
      have d2 := fun d os => cell_regrown (cell_row (vec_step HT13.out hW1) 2 _ rfl) d os
      have d3 := fun d os => cell_regrown (cell_row (vec_step HT13.out hW1) 3 _ rfl) d os
      go_big_quiet_op
      exact rfl
    case s29 =>
      refine st_valA HA_.out F rfl (d := 108) (v := (.agg #[.int .i64 21474836480, .int .i64 0, .int .i64 1073741824, .int .i64 2147483648])) rfl (by decide) (fun _ _ h => nomatch h) (look_of (by kernel_rfl)) (fun _ => rfl) ?_
      intro W1 hW1
      rw [← HA3.out]
      go_big_quiet_op
      exact rfl
    case s30 =>
      refine st_valA HA_.out F rfl (d := 109) (v := (.bool true)) rfl (by decide) (fun _ _ h => nomatch h) (look_of (by kernel_rfl)) (fun _ => rfl) ?_
      intro W1 hW1
      rw [← HA3.out]
      have eh := EHa
      go_big_quiet_op
      exact rfl
    case s31 =>
      refine st_valA HA_.out F rfl (d := 110) (v := (.bool true)) rfl (by decide) (fun _ _ h => nomatch h) (look_of (by kernel_rfl)) (fun _ => rfl) ?_
      intro W1 hW1
      rw [← HA3.out]
      go_big_quiet_op
      exact rfl
    case s32 =>
      refine st_valA HA_.out F rfl (d := 111) (v := (.bool true)) rfl (by decide) (fun _ _ h => nomatch h) (look_of (by kernel_rfl)) (fun _ => rfl) ?_
      intro W1 hW1
      rw [← HA3.out]
      go_big_quiet_op
      exact rfl
    case s33 =>
      refine st_valA HA_.out F rfl (d := 112) (v := (.bool false)) rfl (by decide) (fun _ _ h => nomatch h) (look_of (by kernel_rfl)) (fun _ => rfl) ?_
      intro W1 hW1
      rw [← HA3.out]
      go_big_quiet_op
      exact rfl
    case s34 =>
      refine st_valA HA_.out F rfl (d := 113) (v := (.bool true)) rfl (by decide) (fun _ _ h => nomatch h) (look_of (by kernel_rfl)) (fun _ => rfl) ?_
      intro W1 hW1
      rw [← HA3.out]
      go_big_quiet_op
      exact rfl
    case s35 =>
      refine st_valA HA_.out F rfl (d := 114) (v := (.bool true)) rfl (by decide) (fun _ _ h => nomatch h) (look_of (by kernel_rfl)) (fun _ => rfl) ?_
      intro W1 hW1
      rw [← HA3.out]
      go_big_quiet_op
      exact rfl
    case s36 =>
      refine st_valA HA_.out F rfl (d := 115) (v := (.bool true)) rfl (by decide) (fun _ _ h => nomatch h) (look_of (by kernel_rfl)) (fun _ => rfl) ?_
      intro W1 hW1
      rw [← HA3.out]
      go_big_quiet_op
      exact rfl
    case s37 =>
      refine st_valA HA_.out F rfl (d := 116) (v := (.bool true)) rfl (by decide) (fun _ _ h => nomatch h) (look_of (by kernel_rfl)) (fun _ => rfl) ?_
      intro W1 hW1
      rw [← HA3.out]
      go_big_quiet_op
      exact rfl
    case s38 =>
      refine st_valA HA_.out F rfl (d := 117) (v := (.bool true)) rfl (by decide) (fun _ _ h => nomatch h) (look_of (by kernel_rfl)) (fun _ => rfl) ?_
      intro W1 hW1
      rw [← HA3.out]
      go_big_quiet_op
      exact rfl
    case s39 =>
      refine st_valA HA_.out F rfl (d := 118) (v := (.bool true)) rfl (by decide) (fun _ _ h => nomatch h) (look_of (by kernel_rfl)) (fun _ => rfl) ?_
      intro W1 hW1
      rw [← HA3.out]
      go_big_quiet_op
      exact rfl
    case s40 =>
      refine st_valA HA_.out F rfl (d := 119) (v := (.agg #[.int .i64 25769803776, .int .i64 0, .int .i64 0, .int .i64 0])) rfl (by decide) (fun _ _ h => nomatch h) (look_of (by kernel_rfl)) (fun _ => rfl) ?_
      intro W1 hW1
      rw [← HA3.out]
      have d0 := fun d os => cell_regrown (cell_row (vec_step HS13.out hW1) 0 _ rfl) d os
      have d1 := fun d os => cell_regrown (cell_row (vec_step HS13.out hW1) 1 _ rfl) d os
      have d2 := fun d os => cell_regrown (cell_row (vec_step HS13.out hW1) 2 _ rfl) d os
      have d3 := fun d os => cell_regrown (cell_row (vec_step HS13.out hW1) 3 _ rfl) d os
      go_big_quiet_op
      exact rfl
    case s41 =>
      refine st_valA HA_.out F rfl (d := 120) (v := (.agg #[.int .i64 25769803776, .int .i64 0, .int .i64 0, .int .i64 0])) rfl (by decide) (fun _ _ h => nomatch h) (look_of (by kernel_rfl)) (fun _ => rfl) ?_
      intro W1 hW1
      rw [← HA3.out]
      go_big_quiet_op
      exact rfl
    case s42 =>
      refine st_valA HA_.out F rfl (d := 121) (v := (.bool true)) rfl (by decide) (fun _ _ h => nomatch h) (look_of (by kernel_rfl)) (fun _ => rfl) ?_
      intro W1 hW1
      rw [← HA3.out]
      have eh := EHb
      go_big_quiet_op
      exact rfl
    case s43 =>
      refine st_valA HA_.out F rfl (d := 122) (v := (.bool true)) rfl (by decide) (fun _ _ h => nomatch h) (look_of (by kernel_rfl)) (fun _ => rfl) ?_
      intro W1 hW1
      rw [← HA3.out]
      go_big_quiet_op
      exact rfl
    case s44 =>
      refine st_valA HA_.out F rfl (d := 123) (v := (.bool true)) rfl (by decide) (fun _ _ h => nomatch h) (look_of (by kernel_rfl)) (fun _ => rfl) ?_
      intro W1 hW1
      rw [← HA3.out]
      go_big_quiet_op
      exact rfl
    case s45 =>
      intro b w hb hd hk
      rw [call_run (f := 13) (fn := Try.f13) rfl rfl Try.func13 rfl rfl w]
      simp only [List.map_toArray, List.map_nil]
      show Calls Try.prog 13 #[] w _
      refine (bal_any w).mono ?_
      rintro e w9 ⟨v, rfl, h1, h2⟩
      exact ⟨v, rfl, h1, h2⟩
    case s46 =>
      intro b w hb hd hk
      rw [call_run (f := 13) (fn := Try.f13) rfl rfl Try.func13 rfl rfl w]
      simp only [List.map_toArray, List.map_nil]
      show Calls Try.prog 13 #[] w _
      refine (bal_any w).mono ?_
      rintro e w9 ⟨v, rfl, h1, h2⟩
      exact ⟨v, rfl, h1, h2⟩
    case s47 =>
      refine st_valA HA_.out F rfl (d := 126) (v := (.agg #[.int .i64 0, .int .i64 0, .int .i64 (-21474836480), .int .i64 0, .int .i64 0, .int .i64 4294967296])) rfl (by decide) (fun _ _ h => nomatch h) (look_of (by kernel_rfl)) (fun _ => rfl) ?_
      intro W1 hW1
      rw [← HA3.out]
      have cHA0 := fun d os => cell_regrown (cell_row (vec_step HA13.out hW1) 0 _ rfl) d os
      have cHA1 := fun d os => cell_regrown (cell_row (vec_step HA13.out hW1) 1 _ rfl) d os
      have cHA2 := fun d os => cell_regrown (cell_row (vec_step HA13.out hW1) 2 _ rfl) d os
      have cHA3 := fun d os => cell_regrown (cell_row (vec_step HA13.out hW1) 3 _ rfl) d os
      have cHA4 := fun d os => cell_regrown (cell_row (vec_step HA13.out hW1) 4 _ rfl) d os
      have cHA5 := fun d os => cell_regrown (cell_row (vec_step HA13.out hW1) 5 _ rfl) d os
      go_big_quiet_op
      exact rfl
    case s48 =>
      intro b w hb hd hk
      have e0 : Bm w (b.eval (.tmp 125)) := hd 125 (by decide) 46 rfl
      have e1 : b.eval (.tmp 126) = .agg #[.int .i64 0, .int .i64 0, .int .i64 (-21474836480), .int .i64 0, .int .i64 0, .int .i64 4294967296] := hd 126 (by decide) 47 rfl
      rw [call_run (f := 14) (fn := Try.f14) rfl rfl Try.func14 rfl rfl w]
      simp only [List.map_toArray, List.map_nil, List.map_cons, ev_const, e1]
      show Calls Try.prog 14 #[b.eval (.tmp 125), .agg #[.int .i64 0, .int .i64 0, .int .i64 (-21474836480), .int .i64 0, .int .i64 0, .int .i64 4294967296], .int .i64 0] w _
      refine (cScA _ w e0).mono ?_
      rintro e w9 ⟨rfl, h2⟩
      exact ⟨_, rfl, rfl, h2⟩
    case s49 =>
      refine st_valA HA_.out F rfl (d := 128) (v := (.agg #[.int .i64 0, .int .i64 0, .int .i64 (-21474836480), .int .i64 0, .int .i64 0, .int .i64 4294967296])) rfl (by decide) (fun _ _ h => nomatch h) (look_of (by kernel_rfl)) (fun _ => rfl) ?_
      intro W1 hW1
      rw [← HA3.out]
      have cHA0 := fun d os => cell_regrown (cell_row (vec_step HA13.out hW1) 0 _ rfl) d os
      have cHA1 := fun d os => cell_regrown (cell_row (vec_step HA13.out hW1) 1 _ rfl) d os
      have cHA2 := fun d os => cell_regrown (cell_row (vec_step HA13.out hW1) 2 _ rfl) d os
      have cHA3 := fun d os => cell_regrown (cell_row (vec_step HA13.out hW1) 3 _ rfl) d os
      have cHA4 := fun d os => cell_regrown (cell_row (vec_step HA13.out hW1) 4 _ rfl) d os
      have cHA5 := fun d os => cell_regrown (cell_row (vec_step HA13.out hW1) 5 _ rfl) d os
      go_big_quiet_op
      exact rfl
    case s50 =>
      intro b w hb hd hk
      have e0 : Bm w (b.eval (.tmp 124)) := hd 124 (by decide) 45 rfl
      have e1 : b.eval (.tmp 127) = .agg #[.int .i64 17179869184, .int .i64 0, .int .i64 0, .int .i64 0] := hd 127 (by decide) 48 rfl
      have e2 : b.eval (.tmp 128) = .agg #[.int .i64 0, .int .i64 0, .int .i64 (-21474836480), .int .i64 0, .int .i64 0, .int .i64 4294967296] := hd 128 (by decide) 49 rfl
      rw [call_run (f := 16) (fn := Try.f16) rfl rfl Try.func16 rfl rfl w]
      simp only [List.map_toArray, List.map_nil, List.map_cons, ev_const, e1, e2]
      show Calls Try.prog 16 #[b.eval (.tmp 124), .agg #[.int .i64 17179869184, .int .i64 0, .int .i64 0, .int .i64 0], .agg #[.int .i64 0, .int .i64 0, .int .i64 (-21474836480), .int .i64 0, .int .i64 0, .int .i64 4294967296]] w _
      refine (cNoA _ w e0).mono ?_
      rintro e w9 ⟨rfl, h2⟩
      exact ⟨_, rfl, rfl, h2⟩
    case s51 =>
      refine st_valA HA_.out F rfl (d := 130) (v := (.agg #[.int .i64 0, .int .i64 0, .int .i64 (-4294967296)])) rfl (by decide) (fun _ _ h => nomatch h) (look_of (by kernel_rfl)) (fun _ => rfl) ?_
      intro W1 hW1
      rw [← HA3.out]
      go_big_quiet_op
      apply Exists.intro
      refine ⟨fun _ => ?_, ?_⟩
      · with_reducible exact (qb (P := Try.prog) (fun w2 _ => of_0_0_n1 w2)) _ _
      exact rfl
    case s52 =>
      refine st_valA HA_.out F rfl (d := 131) (v := (.bool true)) rfl (by decide) (fun _ _ h => nomatch h) (look_of (by kernel_rfl)) (fun _ => rfl) ?_
      intro W1 hW1
      rw [← HA3.out]
      have ev := EVc
      go_big_quiet_op
      exact rfl
    case s53 =>
      refine st_valA HA_.out F rfl (d := 132) (v := (.bool true)) rfl (by decide) (fun _ _ h => nomatch h) (look_of (by kernel_rfl)) (fun _ => rfl) ?_
      intro W1 hW1
      rw [← HA3.out]
      go_big_quiet_op
      exact rfl
    case s54 =>
      refine st_valA HA_.out F rfl (d := 0) (v := (.bool true)) rfl (by decide) (fun _ _ h => nomatch h) (look_of (by kernel_rfl)) (fun _ => rfl) ?_
      intro W1 hW1
      rw [← HA3.out]
      go_big_quiet_op
      exact rfl
  intro V y14 hb hV hst
  have e54 : V 54 = (.bool true) := hV 54 (by decide) (by decide)
  clear hV hst
  simp only [putsL, Act.put, List.setIfInBounds_toArray, List.set_cons_succ, List.set_cons_zero, Nat.reduceAdd, e54]
  clear e54
  have HB14 := Lib.hid (HB13.out.trans (hb.mono HB13.out.size))
  have HA14 := Lib.hid (vec_step HA13.out hb)
  have HR14 := Lib.hid (vec_step HR13.out hb)
  have HX14 := Lib.hid (vec_step HX13.out hb)
  have HT14 := Lib.hid (vec_step HT13.out hb)
  have HU14 := Lib.hid (vec_step HU13.out hb)
  have HS14 := Lib.hid (vec_step HS13.out hb)
  clear HB13 HA13 HR13 HX13 HT13 HU13 HS13 hb  
  go_wp2_with fail
  go_ret
  exact ⟨rfl, HB14.out⟩

end Go.Proofs.Ytdmmbhcaejojeaa.HitZ
