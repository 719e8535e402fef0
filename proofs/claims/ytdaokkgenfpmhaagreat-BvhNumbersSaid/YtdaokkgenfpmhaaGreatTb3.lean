/- Joined texts of this claim, part 3: contracts and plain laws that its proof stands on. -/
import Derived.Test.YtdaokkgenfpmhaaGreatTb2
/- The walk of hit.Tri. -/
set_option linter.unusedVariables false
set_option linter.unusedSimpArgs false
namespace Go.Proofs.YtdaokkgenfpmhaaGreat.HitT
open Go.RowKit Go.Sort FixM Base Num FixW FixV FixU FixS FixO FixN FixK Qb Qt Qa Qf VecW VecV VecU VecR LightQ LightC MeshM MeshA MeshD MeshP HitM
theorem hit_size : (Tryz.prog.info? 42).map (·.size) = some 4 := by kernel_rfl
theorem hit_ones (a b c d : Int) : ∀ v ∈ (#[Value.int .i64 a, .int .i64 b, .int .i64 c, .int .i64 d] : Array Value).toList, v.oneCell' = true := by
 intro v hv; simp at hv; rcases hv with rfl | rfl | rfl | rfl <;> rfl
theorem store_hit {ops : Array Oper} {rest : List Oper} {o : Oper} {a : Act} {w : World} {Q : Exit → Act → World → Prop} (hgd : o.guard = none) (x y : Operand) (ho : o.op = .store 42 x y) (hd : o.dst = none)
  (g : Nat) (A B C D : Int) (hx : a.eval x = .pointer (some ⟨g, 0, none⟩)) (hy : a.eval y = .agg #[.int .i64 A, .int .i64 B, .int .i64 C, .int .i64 D]) (cur : Array Value) (hg : w.heap[g]? = some (.cells cur 42)) (hc2 : cur.size = 4)
  (h : wpList Tryz.prog ops Q rest a (w.setRow g #[.int .i64 A, .int .i64 B, .int .i64 C, .int .i64 D])) : wpList Tryz.prog ops Q (o :: rest) a w :=
 wpList_store_arr hgd 42 x y ho g _ hx hy 42 cur hg hit_size (by rw [hc2]; rfl) (hit_ones _ _ _ _) hd h
theorem alloc_vec (w : World) : (Instr.alloc 46 true (.tuple #[])).run Tryz.prog w = .ok (.pointer (some ⟨w.heap.size, 0, none⟩)) (w.alloc (box3 ⟨0, 0, 0⟩)) := by kernel_rfl
theorem drawn_below {f : FuncId} {args : Array Value} {w : World} {v : Value} (h : Calls Tryz.prog f args w (Drawn v w)) : Calls Tryz.prog f args w (VTo v w) :=
 h.mono fun _ _ h => ⟨h.1, by obtain ⟨n, hn⟩ := h.2; rw [hn]; exact ⟨rfl, rfl, rfl, Nat.le_refl _, fun _ _ => rfl⟩⟩
theorem al5 (w : World) (A B C D E : Obj) : (((((w.alloc A).alloc B).alloc C).alloc D).alloc E).heap[w.heap.size]? = some A ∧ (((((w.alloc A).alloc B).alloc C).alloc D).alloc E).heap[w.heap.size + 1]? = some B ∧ (((((w.alloc A).alloc B).alloc C).alloc D).alloc E).heap[w.heap.size + 1 + 1]? = some C ∧ (((((w.alloc A).alloc B).alloc C).alloc D).alloc E).heap[w.heap.size + 1 + 1 + 1]? = some D ∧ (((((w.alloc A).alloc B).alloc C).alloc D).alloc E).heap[w.heap.size + 1 + 1 + 1 + 1]? = some E ∧ Below w.heap.size w (((((w.alloc A).alloc B).alloc C).alloc D).alloc E) := by
 have hb : ∀ (w : World) (o : Obj), Below w.heap.size w (w.alloc o) := fun w o => ext_alloc w o
 have s1 := MeshQ.al_size w A
 have s2 := MeshQ.al_size (w.alloc A) B
 have s3 := MeshQ.al_size ((w.alloc A).alloc B) C
 have s4 := MeshQ.al_size (((w.alloc A).alloc B).alloc C) D
 have h0 := heap_alloc_new w A
 have h1 := heap_alloc_new (w.alloc A) B
 have h2 := heap_alloc_new ((w.alloc A).alloc B) C
 have h3 := heap_alloc_new (((w.alloc A).alloc B).alloc C) D
 have h4 := heap_alloc_new ((((w.alloc A).alloc B).alloc C).alloc D) E
 rw [s1] at h1
 rw [s2, s1] at h2
 rw [s3, s2, s1] at h3
 rw [s4, s3, s2, s1] at h4
 exact ⟨vec_step (vec_step (vec_step (vec_step h0 (hb _ _)) (hb _ _)) (hb _ _)) (hb _ _), vec_step (vec_step (vec_step h1 (hb _ _)) (hb _ _)) (hb _ _), vec_step (vec_step h2 (hb _ _)) (hb _ _), vec_step h3 (hb _ _), h4,
  (((((hb w A).trans ((hb _ B).mono (hb w A).size)).trans ((hb _ C).mono (by rw [s2, s1]; omega))).trans ((hb _ D).mono (by rw [s3, s2, s1]; omega))).trans ((hb _ E).mono (by rw [s4, s3, s2, s1]; omega)))⟩

set_option maxRecDepth 100000 in
set_option maxHeartbeats 16000000 in
theorem tri_any (r : Ry) (a b c : V3) (hr : r.ok) (ha : a.ok) (hb : b.ok) (hc : c.ok) (w : World) : Calls Tryz.prog 55 #[rayV r, vecV a, vecV b, vecV c] w (VTo (triR (triH r a b c)) w) := by
 obtain ⟨e, he⟩ : ∃ e, e = map2 subF b a := ⟨_, rfl⟩
 obtain ⟨f, hf⟩ : ∃ f, f = map2 subF c a := ⟨_, rfl⟩
 obtain ⟨p, hp⟩ : ∃ p, p = crossF r.d f := ⟨_, rfl⟩
 obtain ⟨s, hs⟩ : ∃ s, s = map2 subF r.o a := ⟨_, rfl⟩
 obtain ⟨q, hq⟩ : ∃ q, q = crossF s e := ⟨_, rfl⟩
 obtain ⟨n, hn⟩ : ∃ n, n = dotF e p := ⟨_, rfl⟩
 obtain ⟨u1, hu1⟩ : ∃ zz, zz = dotF s p := ⟨_, rfl⟩
 obtain ⟨u, hu⟩ : ∃ zz, zz = divF u1 n := ⟨_, rfl⟩
 obtain ⟨v1, hv1⟩ : ∃ zz, zz = dotF r.d q := ⟨_, rfl⟩
 obtain ⟨v, hv⟩ : ∃ zz, zz = divF v1 n := ⟨_, rfl⟩
 obtain ⟨sv, hsv⟩ : ∃ zz, zz = addF u v := ⟨_, rfl⟩
 obtain ⟨t1, ht1⟩ : ∃ zz, zz = dotF f q := ⟨_, rfl⟩
 obtain ⟨t, ht⟩ : ∃ zz, zz = divF t1 n := ⟨_, rfl⟩
 have HE : Hid (triH r a b c = if n = 0 then none else if u < 0 ∨ ONE < u then none else if v < 0 ∨ ONE < sv then none else if t < 0 then none else some ⟨t, 0, u, v⟩) := Lib.hid (by
  have e1 : triN r a b c = n := by rw [hn, hp, hf, he]; rfl
  have e2 : triU r a b c = u := by unfold triU; rw [e1, hu, hu1, hs, hp, hf]
  have eq1 : triQ r a b = q := by unfold triQ; rw [hq, hs, he]
  have e3 : triV r a b c = v := by unfold triV; rw [e1, eq1, hv, hv1]
  have e4 : triT r a b c = t := by unfold triT; rw [e1, eq1, ht, ht1, hf]
  unfold triH
  rw [e1, e2, e3, e4, hsv])
 generalize triH r a b c = res at HE ⊢
 have oe : e.ok := by rw [he]; exact ok_map2sub _ _
 have of_ : f.ok := by rw [hf]; exact ok_map2sub _ _
 have op : p.ok := by rw [hp]; exact ok_cross _ _
 have os : s.ok := by rw [hs]; exact ok_map2sub _ _
 have oq : q.ok := by rw [hq]; exact ok_cross _ _
 have in_ : In n := by rw [hn]; exact in_dot _ _
 have iu1 : In u1 := by rw [hu1]; exact in_dot _ _
 have iv1 : In v1 := by rw [hv1]; exact in_dot _ _
 have it1 : In t1 := by rw [ht1]; exact in_dot _ _
 have iu : In u := by rw [hu]; exact in_div _ _
 have iv : In v := by rw [hv]; exact in_div _ _
 obtain ⟨⟨ox, oy, oz⟩, ⟨dx, dy, dz⟩⟩ := r
 dsimp only at *
 have CE : Hid (∀ w, Calls Tryz.prog 75 #[vecV b, vecV a] w (VTo (vecV e) w)) := Lib.hid (fun w => by have := vsub_any b a hb ha w; rw [← he] at this; exact this)
 have CF : Hid (∀ w, Calls Tryz.prog 75 #[vecV c, vecV a] w (VTo (vecV f) w)) := Lib.hid (fun w => by have := vsub_any c a hc ha w; rw [← hf] at this; exact this)
 have CP : Hid (∀ w, Calls Tryz.prog 76 #[vecV ⟨dx, dy, dz⟩, vecV f] w (VTo (vecV p) w)) := Lib.hid (fun w => by have := vcross_any ⟨dx, dy, dz⟩ f hr.2 of_ w; rw [← hp] at this; exact this)
 have CN : Hid (∀ w, Calls Tryz.prog 77 #[vecV e, vecV p] w (VTo (.int .i64 n) w)) := Lib.hid (fun w => by have := vdot_any e p oe op w; rw [← hn] at this; exact this)
 have CS : Hid (∀ w, Calls Tryz.prog 75 #[vecV ⟨ox, oy, oz⟩, vecV a] w (VTo (vecV s) w)) := Lib.hid (fun w => by have := vsub_any ⟨ox, oy, oz⟩ a hr.1 ha w; rw [← hs] at this; exact this)
 have CU1 : Hid (∀ w, Calls Tryz.prog 77 #[vecV s, vecV p] w (VTo (.int .i64 u1) w)) := Lib.hid (fun w => by have := vdot_any s p os op w; rw [← hu1] at this; exact this)
 have CU : Hid (∀ w, Calls Tryz.prog 51 #[.int .i64 u1, .int .i64 n] w (VTo (.int .i64 u) w)) := Lib.hid (fun w => by have := drawn_below (div_any u1 n iu1.1 iu1.2 in_.1 in_.2 w); rw [← hu] at this; exact this)
 have CQ : Hid (∀ w, Calls Tryz.prog 76 #[vecV s, vecV e] w (VTo (vecV q) w)) := Lib.hid (fun w => by have := vcross_any s e os oe w; rw [← hq] at this; exact this)
 have CV1 : Hid (∀ w, Calls Tryz.prog 77 #[vecV ⟨dx, dy, dz⟩, vecV q] w (VTo (.int .i64 v1) w)) := Lib.hid (fun w => by have := vdot_any ⟨dx, dy, dz⟩ q hr.2 oq w; rw [← hv1] at this; exact this)
 have CV : Hid (∀ w, Calls Tryz.prog 51 #[.int .i64 v1, .int .i64 n] w (VTo (.int .i64 v) w)) := Lib.hid (fun w => by have := drawn_below (div_any v1 n iv1.1 iv1.2 in_.1 in_.2 w); rw [← hv] at this; exact this)
 have CA : Hid (∀ w, Calls Tryz.prog 41 #[.int .i64 u, .int .i64 v] w (VTo (.int .i64 sv) w)) := Lib.hid (fun w => by have := same_below (add_any u v iu.1 iu.2 iv.1 iv.2 w); rw [← hsv] at this; exact this)
 have CT1 : Hid (∀ w, Calls Tryz.prog 77 #[vecV f, vecV q] w (VTo (.int .i64 t1) w)) := Lib.hid (fun w => by have := vdot_any f q of_ oq w; rw [← ht1] at this; exact this)
 have CT : Hid (∀ w, Calls Tryz.prog 51 #[.int .i64 t1, .int .i64 n] w (VTo (.int .i64 t) w)) := Lib.hid (fun w => by have := drawn_below (div_any t1 n it1.1 it1.2 in_.1 in_.2 w); rw [← ht] at this; exact this)
 clear he hf hp hs hq hn hu1 hu hv1 hv hsv ht1 ht oe of_ op os oq in_ iu1 iv1 it1 iu iv hr ha hb hc
 obtain ⟨aX, aY, aZ⟩ := a
 obtain ⟨bX, bY, bZ⟩ := b
 obtain ⟨cX, cY, cZ⟩ := c
 obtain ⟨eX, eY, eZ⟩ := e
 obtain ⟨fX, fY, fZ⟩ := f
 obtain ⟨pX, pY, pZ⟩ := p
 obtain ⟨sX, sY, sZ⟩ := s
 obtain ⟨qX, qY, qZ⟩ := q
 dsimp only [vecV, rayV] at *
 obtain ⟨hR, hA, hBb, hC, hZ, hB0⟩ := al5 w (.cells #[.int .i64 ox, .int .i64 oy, .int .i64 oz, .int .i64 dx, .int .i64 dy, .int .i64 dz] 48) (.cells #[.int .i64 aX, .int .i64 aY, .int .i64 aZ] 46) (.cells #[.int .i64 bX, .int .i64 bY, .int .i64 bZ] 46) (.cells #[.int .i64 cX, .int .i64 cY, .int .i64 cZ] 46) (.cells #[.int .i64 0, .int .i64 0, .int .i64 0, .int .i64 0] 42)
 obtain ⟨W, hW⟩ : ∃ W, W = (((((w.alloc (.cells #[.int .i64 ox, .int .i64 oy, .int .i64 oz, .int .i64 dx, .int .i64 dy, .int .i64 dz] 48)).alloc (.cells #[.int .i64 aX, .int .i64 aY, .int .i64 aZ] 46)).alloc (.cells #[.int .i64 bX, .int .i64 bY, .int .i64 bZ] 46)).alloc (.cells #[.int .i64 cX, .int .i64 cY, .int .i64 cZ] 46)).alloc (.cells #[.int .i64 0, .int .i64 0, .int .i64 0, .int .i64 0] 42)) := ⟨_, rfl⟩
 rw [← hW] at hR hA hBb hC hZ hB0
 have HR0 := Lib.hid hR
 have HA0 := Lib.hid hA
 have HBB0 := Lib.hid hBb
 have HC0 := Lib.hid hC
 have HZ0 := Lib.hid hZ
 have HB0 := Lib.hid hB0
 have HWW := Lib.hid hW
 clear hR hA hBb hC hZ hB0 hW
 go_enter Tryz.func55, Tryz.ntmps55
 go_upto_region 1 with (fail)
 rw [← HWW.out]
 clear HWW
 refine wp_region_free 81 [0, 1, 2, 3, 4, 5] [⟨6, 10, #[.int .i64 0, .int .i64 0, .int .i64 0], 46, 8, 21, #[.int .i64 eX, .int .i64 eY, .int .i64 eZ]⟩, ⟨7, 11, #[.int .i64 0, .int .i64 0, .int .i64 0], 46, 9, 24, #[.int .i64 fX, .int .i64 fY, .int .i64 fZ]⟩] (by kernel_rfl) rfl (by kernel_rfl) (by
  intro x hx
  simp only [List.mem_cons, List.not_mem_nil, or_false] at hx
  rcases hx with rfl | rfl
  ·
   exact ⟨⟨_, rfl, ⟨⟨_, rfl, alloc_vec⟩, rfl, rfl⟩⟩, _, rfl, ⟨⟨_, rfl, vec_size⟩, rfl, rfl, rfl, row_one _ _ _⟩⟩
  ·
   exact ⟨⟨_, rfl, ⟨⟨_, rfl, alloc_vec⟩, rfl, rfl⟩⟩, _, rfl, ⟨⟨_, rfl, vec_size⟩, rfl, rfl, rfl, row_one _ _ _⟩⟩) ?_
 have QE := Lib.hid (fun W => qb (P := Tryz.prog) (W := W) (fun w2 _ => CE.out w2))
 have QF := Lib.hid (fun W => qb (P := Tryz.prog) (W := W) (fun w2 _ => CF.out w2))
 refine Walk.step (A := ?A0) (o := ?o0) ?e0 ?w0 19 ?d0 (by simp) ?h0 ?n0
 case e0 => simp only [List.getElem?_toArray, List.getElem?_cons_succ, List.getElem?_cons_zero]; exact rfl
 case w0 => exact rfl
 case d0 => exact rfl
 case h0 =>
  intro W9 hW9
  obtain ⟨z0, z1, z2⟩ := cells3 (vec_step HBB0.out hW9)
  go_big_quiet_op
  exact rfl
 refine Walk.step (A := ?A1) (o := ?o1) ?e1 ?w1 20 ?d1 (by simp) ?h1 ?n1
 case e1 => simp only [List.getElem?_toArray, List.getElem?_cons_succ, List.getElem?_cons_zero]; exact rfl
 case w1 => exact rfl
 case d1 => exact rfl
 case h1 =>
  intro W9 hW9
  obtain ⟨z0, z1, z2⟩ := cells3 (vec_step HA0.out hW9)
  go_big_quiet_op
  exact rfl
 refine Walk.step (A := ?A2) (o := ?o2) ?e2 ?w2 21 ?d2 (by simp) ?h2 ?n2
 case e2 => simp only [List.getElem?_toArray, List.getElem?_cons_succ, List.getElem?_cons_zero]; exact rfl
 case w2 => exact rfl
 case d2 => exact rfl
 case h2 =>
  intro W9 hW9
  go_big_quiet_op
  apply Exists.intro
  refine ⟨fun _ => ?_, ?_⟩
  ·
   with_reducible exact QE.out _ _ _
  exact rfl
 refine Walk.step (A := ?A3) (o := ?o3) ?e3 ?w3 22 ?d3 (by simp) ?h3 ?n3
 case e3 => simp only [List.getElem?_toArray, List.getElem?_cons_succ, List.getElem?_cons_zero]; exact rfl
 case w3 => exact rfl
 case d3 => exact rfl
 case h3 =>
  intro W9 hW9
  obtain ⟨z0, z1, z2⟩ := cells3 (vec_step HC0.out hW9)
  go_big_quiet_op
  exact rfl
 refine Walk.step (A := ?A4) (o := ?o4) ?e4 ?w4 23 ?d4 (by simp) ?h4 ?n4
 case e4 => simp only [List.getElem?_toArray, List.getElem?_cons_succ, List.getElem?_cons_zero]; exact rfl
 case w4 => exact rfl
 case d4 => exact rfl
 case h4 =>
  intro W9 hW9
  obtain ⟨z0, z1, z2⟩ := cells3 (vec_step HA0.out hW9)
  go_big_quiet_op
  exact rfl
 refine Walk.step (A := ?A5) (o := ?o5) ?e5 ?w5 24 ?d5 (by simp) ?h5 ?n5
 case e5 => simp only [List.getElem?_toArray, List.getElem?_cons_succ, List.getElem?_cons_zero]; exact rfl
 case w5 => exact rfl
 case d5 => exact rfl
 case h5 =>
  intro W9 hW9
  go_big_quiet_op
  apply Exists.intro
  refine ⟨fun _ => ?_, ?_⟩
  ·
   with_reducible exact QF.out _ _ _
  exact rfl
 refine ⟨?_, ?_⟩
 ·
  intro x hx
  simp only [List.mem_cons, List.not_mem_nil, or_false] at hx
  rcases hx with rfl | rfl <;> rfl
 intro G hG hne w5 hb hk
 have k7 := hk _ (List.mem_cons_self ..)
 have k8 := hk _ (List.mem_cons_of_mem _ (List.mem_cons_self ..))
 dsimp only at k7 k8
 simp only [lay, Act.put, List.setIfInBounds_toArray, List.set_cons_succ, List.set_cons_zero, ptr]
 generalize G 6 = g10 at k7 ⊢
 generalize G 7 = g11 at k8 ⊢
 clear hG hne hk QE QF CE CF
 have HR1 := Lib.hid (vec_step HR0.out hb)
 have HA1 := Lib.hid (vec_step HA0.out hb)
 have HBB1 := Lib.hid (vec_step HBB0.out hb)
 have HC1 := Lib.hid (vec_step HC0.out hb)
 have HZ1 := Lib.hid (vec_step HZ0.out hb)
 have HB1 := Lib.hid (HB0.out.trans (hb.mono HB0.out.size))
 clear HR0 HA0 HBB0 HC0 HZ0 HB0 hb  
 have HE_1 := Lib.hid (k7)
 have HF1 := Lib.hid (k8)
 clear k7 k8
 have cHR3 := cell_row HR1.out 3 _ rfl
 have cHR4 := cell_row HR1.out 4 _ rfl
 have cHR5 := cell_row HR1.out 5 _ rfl
 have cHF0 := cell_row HF1.out 0 _ rfl
 have cHF1 := cell_row HF1.out 1 _ rfl
 have cHF2 := cell_row HF1.out 2 _ rfl
 go_wp2_with fail
 refine (CP.out _).mono ?_
 rintro e y1 ⟨rfl, hb⟩
 have HR2 := Lib.hid (vec_step HR1.out hb)
 have HA2 := Lib.hid (vec_step HA1.out hb)
 have HBB2 := Lib.hid (vec_step HBB1.out hb)
 have HC2 := Lib.hid (vec_step HC1.out hb)
 have HZ2 := Lib.hid (vec_step HZ1.out hb)
 have HB2 := Lib.hid (HB1.out.trans (hb.mono HB1.out.size))
 have HE_2 := Lib.hid (vec_step HE_1.out hb)
 have HF2 := Lib.hid (vec_step HF1.out hb)
 clear HR1 HA1 HBB1 HC1 HZ1 HB1 HE_1 HF1 hb cHR3 cHR4 cHR5 cHF0 cHF1 cHF2 
 go_upto_region 3 with (fail)
 have hx := ext_alloc y1 (.cells #[.int .i64 pX, .int .i64 pY, .int .i64 pZ] 46)
 have hn := heap_alloc_new y1 (.cells #[.int .i64 pX, .int .i64 pY, .int .i64 pZ] 46)
 obtain ⟨y2, hW⟩ : ∃ W, W = y1.alloc (.cells #[.int .i64 pX, .int .i64 pY, .int .i64 pZ] 46) := ⟨_, rfl⟩
 rw [← hW] at hx hn ⊢
 clear hW
 have HR3 := Lib.hid (vec_step HR2.out hx)
 have HA3 := Lib.hid (vec_step HA2.out hx)
 have HBB3 := Lib.hid (vec_step HBB2.out hx)
 have HC3 := Lib.hid (vec_step HC2.out hx)
 have HZ3 := Lib.hid (vec_step HZ2.out hx)
 have HB3 := Lib.hid (HB2.out.trans (hx.mono HB2.out.size))
 have HE_3 := Lib.hid (vec_step HE_2.out hx)
 have HF3 := Lib.hid (vec_step HF2.out hx)
 clear HR2 HA2 HBB2 HC2 HZ2 HB2 HE_2 HF2 hx  
 have HP3 := Lib.hid (hn)
 clear hn
 generalize y1.heap.size = gHP at HP3 ⊢
 have cHE_0 := cell_row HE_3.out 0 _ rfl
 have cHE_1 := cell_row HE_3.out 1 _ rfl
 have cHE_2 := cell_row HE_3.out 2 _ rfl
 have cHP0 := cell_row HP3.out 0 _ rfl
 have cHP1 := cell_row HP3.out 1 _ rfl
 have cHP2 := cell_row HP3.out 2 _ rfl
 go_wp2_with fail
 refine (CN.out _).mono ?_
 rintro e y3 ⟨rfl, hb⟩
 have HR4 := Lib.hid (vec_step HR3.out hb)
 have HA4 := Lib.hid (vec_step HA3.out hb)
 have HBB4 := Lib.hid (vec_step HBB3.out hb)
 have HC4 := Lib.hid (vec_step HC3.out hb)
 have HZ4 := Lib.hid (vec_step HZ3.out hb)
 have HB4 := Lib.hid (HB3.out.trans (hb.mono HB3.out.size))
 have HE_4 := Lib.hid (vec_step HE_3.out hb)
 have HF4 := Lib.hid (vec_step HF3.out hb)
 have HP4 := Lib.hid (vec_step HP3.out hb)
 clear HR3 HA3 HBB3 HC3 HZ3 HB3 HE_3 HF3 HP3 hb cHE_0 cHE_1 cHE_2 cHP0 cHP1 cHP2 CP CN
 by_cases hn0 : n = 0
 ·
  have dn : decide (n = 0) = true := decide_eq_true hn0
  have dn2 : (n == 0) = true := by simp [hn0]
  have hres : res = none := by rw [HE.out, if_pos hn0]
  subst hres
  go_wp2_with (with_reducible refine store_hit rfl (.tmp 8) (.tmp 34) rfl rfl (w.heap.size + 1 + 1 + 1 + 1) 0 0 0 0 rfl rfl _ HZ4.out rfl ?_)
  refine bodyPost_ret (results_row_tmp rfl _ _ _ (w.heap.size + 1 + 1 + 1 + 1) 42 _ _ _ rfl (setRow_heap _ _ _ _ _ _ HZ4.out) Tryz.underlying42 hit_size) rfl ?_
  exact ⟨rfl, below_setRow HB4.out (by omega) _⟩
 ·
  have dn : decide (n = 0) = false := decide_eq_false hn0
  have dn2 : (n == 0) = false := by simp [hn0]
  have HE1 : Hid (res = if u < 0 ∨ ONE < u then none else if v < 0 ∨ ONE < sv then none else if t < 0 then none else some ⟨t, 0, u, v⟩) := Lib.hid (by rw [HE.out, if_neg hn0])
  clear HE hn0
  have cHR0 := cell_row HR4.out 0 _ rfl
  have cHR1 := cell_row HR4.out 1 _ rfl
  have cHR2 := cell_row HR4.out 2 _ rfl
  have cHA0 := cell_row HA4.out 0 _ rfl
  have cHA1 := cell_row HA4.out 1 _ rfl
  have cHA2 := cell_row HA4.out 2 _ rfl
  go_wp2_with fail
  refine (CS.out _).mono ?_
  rintro e y4 ⟨rfl, hb⟩
  have HR5 := Lib.hid (vec_step HR4.out hb)
  have HA5 := Lib.hid (vec_step HA4.out hb)
  have HBB5 := Lib.hid (vec_step HBB4.out hb)
  have HC5 := Lib.hid (vec_step HC4.out hb)
  have HZ5 := Lib.hid (vec_step HZ4.out hb)
  have HB5 := Lib.hid (HB4.out.trans (hb.mono HB4.out.size))
  have HE_5 := Lib.hid (vec_step HE_4.out hb)
  have HF5 := Lib.hid (vec_step HF4.out hb)
  have HP5 := Lib.hid (vec_step HP4.out hb)
  clear HR4 HA4 HBB4 HC4 HZ4 HB4 HE_4 HF4 HP4 hb cHR0 cHR1 cHR2 cHA0 cHA1 cHA2 CS
  go_upto_region 7 with (fail)
  have hx := ext_alloc y4 (.cells #[.int .i64 sX, .int .i64 sY, .int .i64 sZ] 46)
  have hn := heap_alloc_new y4 (.cells #[.int .i64 sX, .int .i64 sY, .int .i64 sZ] 46)
  obtain ⟨y5, hW⟩ : ∃ W, W = y4.alloc (.cells #[.int .i64 sX, .int .i64 sY, .int .i64 sZ] 46) := ⟨_, rfl⟩
  rw [← hW] at hx hn ⊢
  clear hW
  have HR6 := Lib.hid (vec_step HR5.out hx)
  have HA6 := Lib.hid (vec_step HA5.out hx)
  have HBB6 := Lib.hid (vec_step HBB5.out hx)
  have HC6 := Lib.hid (vec_step HC5.out hx)
  have HZ6 := Lib.hid (vec_step HZ5.out hx)
  have HB6 := Lib.hid (HB5.out.trans (hx.mono HB5.out.size))
  have HE_6 := Lib.hid (vec_step HE_5.out hx)
  have HF6 := Lib.hid (vec_step HF5.out hx)
  have HP6 := Lib.hid (vec_step HP5.out hx)
  clear HR5 HA5 HBB5 HC5 HZ5 HB5 HE_5 HF5 HP5 hx  
  have HS6 := Lib.hid (hn)
  clear hn
  generalize y4.heap.size = gHS at HS6 ⊢
  have cHS0 := cell_row HS6.out 0 _ rfl
  have cHS1 := cell_row HS6.out 1 _ rfl
  have cHS2 := cell_row HS6.out 2 _ rfl
  have cHP0 := cell_row HP6.out 0 _ rfl
  have cHP1 := cell_row HP6.out 1 _ rfl
  have cHP2 := cell_row HP6.out 2 _ rfl
  go_wp2_with fail
  refine (CU1.out _).mono ?_
  rintro e y6 ⟨rfl, hb⟩
  have HR7 := Lib.hid (vec_step HR6.out hb)
  have HA7 := Lib.hid (vec_step HA6.out hb)
  have HBB7 := Lib.hid (vec_step HBB6.out hb)
  have HC7 := Lib.hid (vec_step HC6.out hb)
  have HZ7 := Lib.hid (vec_step HZ6.out hb)
  have HB7 := Lib.hid (HB6.out.trans (hb.mono HB6.out.size))
  have HE_7 := Lib.hid (vec_step HE_6.out hb)
  have HF7 := Lib.hid (vec_step HF6.out hb)
  have HP7 := Lib.hid (vec_step HP6.out hb)
  have HS7 := Lib.hid (vec_step HS6.out hb)
  clear HR6 HA6 HBB6 HC6 HZ6 HB6 HE_6 HF6 HP6 HS6 hb cHS0 cHS1 cHS2 cHP0 cHP1 cHP2 CU1
  go_wp2_with fail
  refine (CU.out _).mono ?_
  rintro e y7 ⟨rfl, hb⟩
  have HR8 := Lib.hid (vec_step HR7.out hb)
  have HA8 := Lib.hid (vec_step HA7.out hb)
  have HBB8 := Lib.hid (vec_step HBB7.out hb)
  have HC8 := Lib.hid (vec_step HC7.out hb)
  have HZ8 := Lib.hid (vec_step HZ7.out hb)
  have HB8 := Lib.hid (HB7.out.trans (hb.mono HB7.out.size))
  have HE_8 := Lib.hid (vec_step HE_7.out hb)
  have HF8 := Lib.hid (vec_step HF7.out hb)
  have HP8 := Lib.hid (vec_step HP7.out hb)
  have HS8 := Lib.hid (vec_step HS7.out hb)
  clear HR7 HA7 HBB7 HC7 HZ7 HB7 HE_7 HF7 HP7 HS7 hb  CU
  by_cases hu0 : u < 0
  ·
   have du : decide (u < 0) = true := decide_eq_true hu0
   have hres : res = none := by rw [HE1.out, if_pos (.inl hu0)]
   subst hres
   go_wp2_with (with_reducible refine store_hit rfl (.tmp 8) (.tmp 50) rfl rfl (w.heap.size + 1 + 1 + 1 + 1) 0 0 0 0 rfl rfl _ HZ8.out rfl ?_)
   refine bodyPost_ret (results_row_tmp rfl _ _ _ (w.heap.size + 1 + 1 + 1 + 1) 42 _ _ _ rfl (setRow_heap _ _ _ _ _ _ HZ8.out) Tryz.underlying42 hit_size) rfl ?_
   exact ⟨rfl, below_setRow HB8.out (by omega) _⟩
  ·
   have du : decide (u < 0) = false := decide_eq_false hu0
   by_cases hu1 : 4294967296 < u
   ·
    have du2 : decide (4294967296 < u) = true := decide_eq_true hu1
    have hres : res = none := by rw [HE1.out, if_pos (.inr hu1)]
    subst hres
    go_wp2_with (with_reducible refine store_hit rfl (.tmp 8) (.tmp 50) rfl rfl (w.heap.size + 1 + 1 + 1 + 1) 0 0 0 0 rfl rfl _ HZ8.out rfl ?_)
    refine bodyPost_ret (results_row_tmp rfl _ _ _ (w.heap.size + 1 + 1 + 1 + 1) 42 _ _ _ rfl (setRow_heap _ _ _ _ _ _ HZ8.out) Tryz.underlying42 hit_size) rfl ?_
    exact ⟨rfl, below_setRow HB8.out (by omega) _⟩
   ·
    have du2 : decide (4294967296 < u) = false := decide_eq_false hu1
    have HE2 : Hid (res = if v < 0 ∨ ONE < sv then none else if t < 0 then none else some ⟨t, 0, u, v⟩) := Lib.hid (by rw [HE1.out, if_neg (by unfold ONE; omega)])
    clear HE1
    have cHS0 := cell_row HS8.out 0 _ rfl
    have cHS1 := cell_row HS8.out 1 _ rfl
    have cHS2 := cell_row HS8.out 2 _ rfl
    have cHE_0 := cell_row HE_8.out 0 _ rfl
    have cHE_1 := cell_row HE_8.out 1 _ rfl
    have cHE_2 := cell_row HE_8.out 2 _ rfl
    go_wp2_with fail
    refine (CQ.out _).mono ?_
    rintro e y8 ⟨rfl, hb⟩
    have HR9 := Lib.hid (vec_step HR8.out hb)
    have HA9 := Lib.hid (vec_step HA8.out hb)
    have HBB9 := Lib.hid (vec_step HBB8.out hb)
    have HC9 := Lib.hid (vec_step HC8.out hb)
    have HZ9 := Lib.hid (vec_step HZ8.out hb)
    have HB9 := Lib.hid (HB8.out.trans (hb.mono HB8.out.size))
    have HE_9 := Lib.hid (vec_step HE_8.out hb)
    have HF9 := Lib.hid (vec_step HF8.out hb)
    have HP9 := Lib.hid (vec_step HP8.out hb)
    have HS9 := Lib.hid (vec_step HS8.out hb)
    clear HR8 HA8 HBB8 HC8 HZ8 HB8 HE_8 HF8 HP8 HS8 hb cHS0 cHS1 cHS2 cHE_0 cHE_1 cHE_2 CQ
    go_upto_region 11 with (fail)
    have hx := ext_alloc y8 (.cells #[.int .i64 qX, .int .i64 qY, .int .i64 qZ] 46)
    have hn := heap_alloc_new y8 (.cells #[.int .i64 qX, .int .i64 qY, .int .i64 qZ] 46)
    obtain ⟨y9, hW⟩ : ∃ W, W = y8.alloc (.cells #[.int .i64 qX, .int .i64 qY, .int .i64 qZ] 46) := ⟨_, rfl⟩
    rw [← hW] at hx hn ⊢
    clear hW
    have HR10 := Lib.hid (vec_step HR9.out hx)
    have HA10 := Lib.hid (vec_step HA9.out hx)
    have HBB10 := Lib.hid (vec_step HBB9.out hx)
    have HC10 := Lib.hid (vec_step HC9.out hx)
    have HZ10 := Lib.hid (vec_step HZ9.out hx)
    have HB10 := Lib.hid (HB9.out.trans (hx.mono HB9.out.size))
    have HE_10 := Lib.hid (vec_step HE_9.out hx)
    have HF10 := Lib.hid (vec_step HF9.out hx)
    have HP10 := Lib.hid (vec_step HP9.out hx)
    have HS10 := Lib.hid (vec_step HS9.out hx)
    clear HR9 HA9 HBB9 HC9 HZ9 HB9 HE_9 HF9 HP9 HS9 hx  
    have HQ10 := Lib.hid (hn)
    clear hn
    generalize y8.heap.size = gHQ at HQ10 ⊢
    have cHR3 := cell_row HR10.out 3 _ rfl
    have cHR4 := cell_row HR10.out 4 _ rfl
    have cHR5 := cell_row HR10.out 5 _ rfl
    have cHQ0 := cell_row HQ10.out 0 _ rfl
    have cHQ1 := cell_row HQ10.out 1 _ rfl
    have cHQ2 := cell_row HQ10.out 2 _ rfl
    go_wp2_with fail
    refine (CV1.out _).mono ?_
    rintro e y10 ⟨rfl, hb⟩
    have HR11 := Lib.hid (vec_step HR10.out hb)
    have HA11 := Lib.hid (vec_step HA10.out hb)
    have HBB11 := Lib.hid (vec_step HBB10.out hb)
    have HC11 := Lib.hid (vec_step HC10.out hb)
    have HZ11 := Lib.hid (vec_step HZ10.out hb)
    have HB11 := Lib.hid (HB10.out.trans (hb.mono HB10.out.size))
    have HE_11 := Lib.hid (vec_step HE_10.out hb)
    have HF11 := Lib.hid (vec_step HF10.out hb)
    have HP11 := Lib.hid (vec_step HP10.out hb)
    have HS11 := Lib.hid (vec_step HS10.out hb)
    have HQ11 := Lib.hid (vec_step HQ10.out hb)
    clear HR10 HA10 HBB10 HC10 HZ10 HB10 HE_10 HF10 HP10 HS10 HQ10 hb cHR3 cHR4 cHR5 cHQ0 cHQ1 cHQ2 CV1
    go_wp2_with fail
    refine (CV.out _).mono ?_
    rintro e y11 ⟨rfl, hb⟩
    have HR12 := Lib.hid (vec_step HR11.out hb)
    have HA12 := Lib.hid (vec_step HA11.out hb)
    have HBB12 := Lib.hid (vec_step HBB11.out hb)
    have HC12 := Lib.hid (vec_step HC11.out hb)
    have HZ12 := Lib.hid (vec_step HZ11.out hb)
    have HB12 := Lib.hid (HB11.out.trans (hb.mono HB11.out.size))
    have HE_12 := Lib.hid (vec_step HE_11.out hb)
    have HF12 := Lib.hid (vec_step HF11.out hb)
    have HP12 := Lib.hid (vec_step HP11.out hb)
    have HS12 := Lib.hid (vec_step HS11.out hb)
    have HQ12 := Lib.hid (vec_step HQ11.out hb)
    clear HR11 HA11 HBB11 HC11 HZ11 HB11 HE_11 HF11 HP11 HS11 HQ11 hb  CV
    by_cases hv0 : v < 0
    ·
     have dv : decide (v < 0) = true := decide_eq_true hv0
     have hres : res = none := by rw [HE2.out, if_pos (.inl hv0)]
     subst hres
     go_wp2_with (with_reducible refine store_hit rfl (.tmp 8) (.tmp 68) rfl rfl (w.heap.size + 1 + 1 + 1 + 1) 0 0 0 0 rfl rfl _ HZ12.out rfl ?_)
     refine bodyPost_ret (results_row_tmp rfl _ _ _ (w.heap.size + 1 + 1 + 1 + 1) 42 _ _ _ rfl (setRow_heap _ _ _ _ _ _ HZ12.out) Tryz.underlying42 hit_size) rfl ?_
     exact ⟨rfl, below_setRow HB12.out (by omega) _⟩
    ·
     have dv : decide (v < 0) = false := decide_eq_false hv0
     go_wp2_with fail
     refine (CA.out _).mono ?_
     rintro e y12 ⟨rfl, hb⟩
     have HR13 := Lib.hid (vec_step HR12.out hb)
     have HA13 := Lib.hid (vec_step HA12.out hb)
     have HBB13 := Lib.hid (vec_step HBB12.out hb)
     have HC13 := Lib.hid (vec_step HC12.out hb)
     have HZ13 := Lib.hid (vec_step HZ12.out hb)
     have HB13 := Lib.hid (HB12.out.trans (hb.mono HB12.out.size))
     have HE_13 := Lib.hid (vec_step HE_12.out hb)
     have HF13 := Lib.hid (vec_step HF12.out hb)
     have HP13 := Lib.hid (vec_step HP12.out hb)
     have HS13 := Lib.hid (vec_step HS12.out hb)
     have HQ13 := Lib.hid (vec_step HQ12.out hb)
     clear HR12 HA12 HBB12 HC12 HZ12 HB12 HE_12 HF12 HP12 HS12 HQ12 hb  CA
     by_cases hv1 : 4294967296 < sv
     ·
      have dv2 : decide (4294967296 < sv) = true := decide_eq_true hv1
      have hres : res = none := by rw [HE2.out, if_pos (.inr hv1)]
      subst hres
      go_wp2_with (with_reducible refine store_hit rfl (.tmp 8) (.tmp 68) rfl rfl (w.heap.size + 1 + 1 + 1 + 1) 0 0 0 0 rfl rfl _ HZ13.out rfl ?_)
      refine bodyPost_ret (results_row_tmp rfl _ _ _ (w.heap.size + 1 + 1 + 1 + 1) 42 _ _ _ rfl (setRow_heap _ _ _ _ _ _ HZ13.out) Tryz.underlying42 hit_size) rfl ?_
      exact ⟨rfl, below_setRow HB13.out (by omega) _⟩
     ·
      have dv2 : decide (4294967296 < sv) = false := decide_eq_false hv1
      have HE3 : Hid (res = if t < 0 then none else some ⟨t, 0, u, v⟩) := Lib.hid (by rw [HE2.out, if_neg (by unfold ONE; omega)])
      clear HE2
      have cHF0 := cell_row HF13.out 0 _ rfl
      have cHF1 := cell_row HF13.out 1 _ rfl
      have cHF2 := cell_row HF13.out 2 _ rfl
      have cHQ0 := cell_row HQ13.out 0 _ rfl
      have cHQ1 := cell_row HQ13.out 1 _ rfl
      have cHQ2 := cell_row HQ13.out 2 _ rfl
      go_wp2_with fail
      refine (CT1.out _).mono ?_
      rintro e y13 ⟨rfl, hb⟩
      have HR14 := Lib.hid (vec_step HR13.out hb)
      have HA14 := Lib.hid (vec_step HA13.out hb)
      have HBB14 := Lib.hid (vec_step HBB13.out hb)
      have HC14 := Lib.hid (vec_step HC13.out hb)
      have HZ14 := Lib.hid (vec_step HZ13.out hb)
      have HB14 := Lib.hid (HB13.out.trans (hb.mono HB13.out.size))
      have HE_14 := Lib.hid (vec_step HE_13.out hb)
      have HF14 := Lib.hid (vec_step HF13.out hb)
      have HP14 := Lib.hid (vec_step HP13.out hb)
      have HS14 := Lib.hid (vec_step HS13.out hb)
      have HQ14 := Lib.hid (vec_step HQ13.out hb)
      clear HR13 HA13 HBB13 HC13 HZ13 HB13 HE_13 HF13 HP13 HS13 HQ13 hb cHF0 cHF1 cHF2 cHQ0 cHQ1 cHQ2 CT1
      go_wp2_with fail
      refine (CT.out _).mono ?_
      rintro e y14 ⟨rfl, hb⟩
      have HR15 := Lib.hid (vec_step HR14.out hb)
      have HA15 := Lib.hid (vec_step HA14.out hb)
      have HBB15 := Lib.hid (vec_step HBB14.out hb)
      have HC15 := Lib.hid (vec_step HC14.out hb)
      have HZ15 := Lib.hid (vec_step HZ14.out hb)
      have HB15 := Lib.hid (HB14.out.trans (hb.mono HB14.out.size))
      have HE_15 := Lib.hid (vec_step HE_14.out hb)
      have HF15 := Lib.hid (vec_step HF14.out hb)
      have HP15 := Lib.hid (vec_step HP14.out hb)
      have HS15 := Lib.hid (vec_step HS14.out hb)
      have HQ15 := Lib.hid (vec_step HQ14.out hb)
      clear HR14 HA14 HBB14 HC14 HZ14 HB14 HE_14 HF14 HP14 HS14 HQ14 hb  CT
      by_cases ht0 : t < 0
      ·
       have dt : decide (t < 0) = true := decide_eq_true ht0
       have hres : res = none := by rw [HE3.out, if_pos (ht0)]
       subst hres
       go_wp2_with (with_reducible refine store_hit rfl (.tmp 8) (.tmp 76) rfl rfl (w.heap.size + 1 + 1 + 1 + 1) 0 0 0 0 rfl rfl _ HZ15.out rfl ?_)
       refine bodyPost_ret (results_row_tmp rfl _ _ _ (w.heap.size + 1 + 1 + 1 + 1) 42 _ _ _ rfl (setRow_heap _ _ _ _ _ _ HZ15.out) Tryz.underlying42 hit_size) rfl ?_
       exact ⟨rfl, below_setRow HB15.out (by omega) _⟩
      ·
       have dt : decide (t < 0) = false := decide_eq_false ht0
       have hres : res = some ⟨t, 0, u, v⟩ := by rw [HE3.out, if_neg ht0]
       subst hres
       go_wp2_with (with_reducible refine store_hit rfl (.tmp 8) (.tmp 80) rfl rfl (w.heap.size + 1 + 1 + 1 + 1) t 0 u v rfl rfl _ HZ15.out rfl ?_)
       refine bodyPost_ret (results_row_tmp rfl _ _ _ (w.heap.size + 1 + 1 + 1 + 1) 42 _ _ _ rfl (setRow_heap _ _ _ _ _ _ HZ15.out) Tryz.underlying42 hit_size) rfl ?_
       exact ⟨rfl, below_setRow HB15.out (by omega) _⟩

set_option maxRecDepth 100000 in
set_option maxHeartbeats 16000000 in
theorem rtri_any (r : Ry) (a b c : V3) (hr : r.ok) (ha : a.ok) (hb : b.ok) (hc : c.ok) (w : World) : Calls Tryz.prog 80 #[rayV r, vecV a, vecV b, vecV c] w (VTo (triR (triH r a b c)) w) := by
 obtain ⟨e, he⟩ : ∃ e, e = map2 subF b a := ⟨_, rfl⟩
 obtain ⟨f, hf⟩ : ∃ f, f = map2 subF c a := ⟨_, rfl⟩
 obtain ⟨p, hp⟩ : ∃ p, p = crossF r.d f := ⟨_, rfl⟩
 obtain ⟨s, hs⟩ : ∃ s, s = map2 subF r.o a := ⟨_, rfl⟩
 obtain ⟨q, hq⟩ : ∃ q, q = crossF s e := ⟨_, rfl⟩
 obtain ⟨n, hn⟩ : ∃ n, n = dotF e p := ⟨_, rfl⟩
 obtain ⟨u1, hu1⟩ : ∃ zz, zz = dotF s p := ⟨_, rfl⟩
 obtain ⟨u, hu⟩ : ∃ zz, zz = divF u1 n := ⟨_, rfl⟩
 obtain ⟨v1, hv1⟩ : ∃ zz, zz = dotF r.d q := ⟨_, rfl⟩
 obtain ⟨v, hv⟩ : ∃ zz, zz = divF v1 n := ⟨_, rfl⟩
 obtain ⟨sv, hsv⟩ : ∃ zz, zz = addF u v := ⟨_, rfl⟩
 obtain ⟨t1, ht1⟩ : ∃ zz, zz = dotF f q := ⟨_, rfl⟩
 obtain ⟨t, ht⟩ : ∃ zz, zz = divF t1 n := ⟨_, rfl⟩
 have HE : Hid (triH r a b c = if n = 0 then none else if u < 0 ∨ ONE < u then none else if v < 0 ∨ ONE < sv then none else if t < 0 then none else some ⟨t, 0, u, v⟩) := Lib.hid (by
  have e1 : triN r a b c = n := by rw [hn, hp, hf, he]; rfl
  have e2 : triU r a b c = u := by unfold triU; rw [e1, hu, hu1, hs, hp, hf]
  have eq1 : triQ r a b = q := by unfold triQ; rw [hq, hs, he]
  have e3 : triV r a b c = v := by unfold triV; rw [e1, eq1, hv, hv1]
  have e4 : triT r a b c = t := by unfold triT; rw [e1, eq1, ht, ht1, hf]
  unfold triH
  rw [e1, e2, e3, e4, hsv])
 generalize triH r a b c = res at HE ⊢
 have oe : e.ok := by rw [he]; exact ok_map2sub _ _
 have of_ : f.ok := by rw [hf]; exact ok_map2sub _ _
 have op : p.ok := by rw [hp]; exact ok_cross _ _
 have os : s.ok := by rw [hs]; exact ok_map2sub _ _
 have oq : q.ok := by rw [hq]; exact ok_cross _ _
 have in_ : In n := by rw [hn]; exact in_dot _ _
 have iu1 : In u1 := by rw [hu1]; exact in_dot _ _
 have iv1 : In v1 := by rw [hv1]; exact in_dot _ _
 have it1 : In t1 := by rw [ht1]; exact in_dot _ _
 have iu : In u := by rw [hu]; exact in_div _ _
 have iv : In v := by rw [hv]; exact in_div _ _
 obtain ⟨⟨ox, oy, oz⟩, ⟨dx, dy, dz⟩⟩ := r
 dsimp only at *
 have CE : Hid (∀ w, Calls Tryz.prog 97 #[vecV b, vecV a] w (VTo (vecV e) w)) := Lib.hid (fun w => by have := vrsub_any b a hb ha w; rw [← he] at this; exact this)
 have CF : Hid (∀ w, Calls Tryz.prog 97 #[vecV c, vecV a] w (VTo (vecV f) w)) := Lib.hid (fun w => by have := vrsub_any c a hc ha w; rw [← hf] at this; exact this)
 have CP : Hid (∀ w, Calls Tryz.prog 98 #[vecV ⟨dx, dy, dz⟩, vecV f] w (VTo (vecV p) w)) := Lib.hid (fun w => by have := vrcross_any ⟨dx, dy, dz⟩ f hr.2 of_ w; rw [← hp] at this; exact this)
 have CN : Hid (∀ w, Calls Tryz.prog 99 #[vecV e, vecV p] w (VTo (.int .i64 n) w)) := Lib.hid (fun w => by have := vrdot_any e p oe op w; rw [← hn] at this; exact this)
 have CS : Hid (∀ w, Calls Tryz.prog 97 #[vecV ⟨ox, oy, oz⟩, vecV a] w (VTo (vecV s) w)) := Lib.hid (fun w => by have := vrsub_any ⟨ox, oy, oz⟩ a hr.1 ha w; rw [← hs] at this; exact this)
 have CU1 : Hid (∀ w, Calls Tryz.prog 99 #[vecV s, vecV p] w (VTo (.int .i64 u1) w)) := Lib.hid (fun w => by have := vrdot_any s p os op w; rw [← hu1] at this; exact this)
 have CU : Hid (∀ w, Calls Tryz.prog 78 #[.int .i64 u1, .int .i64 n] w (VTo (.int .i64 u) w)) := Lib.hid (fun w => by have := same_below (rdiv_any u1 n iu1.1 iu1.2 in_.1 in_.2 w); rw [← hu] at this; exact this)
 have CQ : Hid (∀ w, Calls Tryz.prog 98 #[vecV s, vecV e] w (VTo (vecV q) w)) := Lib.hid (fun w => by have := vrcross_any s e os oe w; rw [← hq] at this; exact this)
 have CV1 : Hid (∀ w, Calls Tryz.prog 99 #[vecV ⟨dx, dy, dz⟩, vecV q] w (VTo (.int .i64 v1) w)) := Lib.hid (fun w => by have := vrdot_any ⟨dx, dy, dz⟩ q hr.2 oq w; rw [← hv1] at this; exact this)
 have CV : Hid (∀ w, Calls Tryz.prog 78 #[.int .i64 v1, .int .i64 n] w (VTo (.int .i64 v) w)) := Lib.hid (fun w => by have := same_below (rdiv_any v1 n iv1.1 iv1.2 in_.1 in_.2 w); rw [← hv] at this; exact this)
 have CA : Hid (∀ w, Calls Tryz.prog 70 #[.int .i64 u, .int .i64 v] w (VTo (.int .i64 sv) w)) := Lib.hid (fun w => by have := same_below (radd_any u v iu.1 iu.2 iv.1 iv.2 w); rw [← hsv] at this; exact this)
 have CT1 : Hid (∀ w, Calls Tryz.prog 99 #[vecV f, vecV q] w (VTo (.int .i64 t1) w)) := Lib.hid (fun w => by have := vrdot_any f q of_ oq w; rw [← ht1] at this; exact this)
 have CT : Hid (∀ w, Calls Tryz.prog 78 #[.int .i64 t1, .int .i64 n] w (VTo (.int .i64 t) w)) := Lib.hid (fun w => by have := same_below (rdiv_any t1 n it1.1 it1.2 in_.1 in_.2 w); rw [← ht] at this; exact this)
 clear he hf hp hs hq hn hu1 hu hv1 hv hsv ht1 ht oe of_ op os oq in_ iu1 iv1 it1 iu iv hr ha hb hc
 obtain ⟨aX, aY, aZ⟩ := a
 obtain ⟨bX, bY, bZ⟩ := b
 obtain ⟨cX, cY, cZ⟩ := c
 obtain ⟨eX, eY, eZ⟩ := e
 obtain ⟨fX, fY, fZ⟩ := f
 obtain ⟨pX, pY, pZ⟩ := p
 obtain ⟨sX, sY, sZ⟩ := s
 obtain ⟨qX, qY, qZ⟩ := q
 dsimp only [vecV, rayV] at *
 obtain ⟨hR, hA, hBb, hC, hZ, hB0⟩ := al5 w (.cells #[.int .i64 ox, .int .i64 oy, .int .i64 oz, .int .i64 dx, .int .i64 dy, .int .i64 dz] 48) (.cells #[.int .i64 aX, .int .i64 aY, .int .i64 aZ] 46) (.cells #[.int .i64 bX, .int .i64 bY, .int .i64 bZ] 46) (.cells #[.int .i64 cX, .int .i64 cY, .int .i64 cZ] 46) (.cells #[.int .i64 0, .int .i64 0, .int .i64 0, .int .i64 0] 42)
 obtain ⟨W, hW⟩ : ∃ W, W = (((((w.alloc (.cells #[.int .i64 ox, .int .i64 oy, .int .i64 oz, .int .i64 dx, .int .i64 dy, .int .i64 dz] 48)).alloc (.cells #[.int .i64 aX, .int .i64 aY, .int .i64 aZ] 46)).alloc (.cells #[.int .i64 bX, .int .i64 bY, .int .i64 bZ] 46)).alloc (.cells #[.int .i64 cX, .int .i64 cY, .int .i64 cZ] 46)).alloc (.cells #[.int .i64 0, .int .i64 0, .int .i64 0, .int .i64 0] 42)) := ⟨_, rfl⟩
 rw [← hW] at hR hA hBb hC hZ hB0
 have HR0 := Lib.hid hR
 have HA0 := Lib.hid hA
 have HBB0 := Lib.hid hBb
 have HC0 := Lib.hid hC
 have HZ0 := Lib.hid hZ
 have HB0 := Lib.hid hB0
 have HWW := Lib.hid hW
 clear hR hA hBb hC hZ hB0 hW
 go_enter Tryz.func80, Tryz.ntmps80
 go_upto_region 1 with (fail)
 rw [← HWW.out]
 clear HWW
 have cHBB0 := cell_row HBB0.out 0 _ rfl
 have cHBB1 := cell_row HBB0.out 1 _ rfl
 have cHBB2 := cell_row HBB0.out 2 _ rfl
 have cHA0 := cell_row HA0.out 0 _ rfl
 have cHA1 := cell_row HA0.out 1 _ rfl
 have cHA2 := cell_row HA0.out 2 _ rfl
 go_wp2_with fail
 refine (CE.out _).mono ?_
 rintro e y15 ⟨rfl, hb⟩
 have HR1 := Lib.hid (vec_step HR0.out hb)
 have HA1 := Lib.hid (vec_step HA0.out hb)
 have HBB1 := Lib.hid (vec_step HBB0.out hb)
 have HC1 := Lib.hid (vec_step HC0.out hb)
 have HZ1 := Lib.hid (vec_step HZ0.out hb)
 have HB1 := Lib.hid (HB0.out.trans (hb.mono HB0.out.size))
 clear HR0 HA0 HBB0 HC0 HZ0 HB0 hb cHBB0 cHBB1 cHBB2 cHA0 cHA1 cHA2 CE
 go_upto_region 2 with (fail)
 have hx := ext_alloc y15 (.cells #[.int .i64 eX, .int .i64 eY, .int .i64 eZ] 46)
 have hn := heap_alloc_new y15 (.cells #[.int .i64 eX, .int .i64 eY, .int .i64 eZ] 46)
 obtain ⟨y16, hW⟩ : ∃ W, W = y15.alloc (.cells #[.int .i64 eX, .int .i64 eY, .int .i64 eZ] 46) := ⟨_, rfl⟩
 rw [← hW] at hx hn ⊢
 clear hW
 have HR2 := Lib.hid (vec_step HR1.out hx)
 have HA2 := Lib.hid (vec_step HA1.out hx)
 have HBB2 := Lib.hid (vec_step HBB1.out hx)
 have HC2 := Lib.hid (vec_step HC1.out hx)
 have HZ2 := Lib.hid (vec_step HZ1.out hx)
 have HB2 := Lib.hid (HB1.out.trans (hx.mono HB1.out.size))
 clear HR1 HA1 HBB1 HC1 HZ1 HB1 hx  
 have HE_2 := Lib.hid (hn)
 clear hn
 generalize y15.heap.size = gHE_ at HE_2 ⊢
 have cHC0 := cell_row HC2.out 0 _ rfl
 have cHC1 := cell_row HC2.out 1 _ rfl
 have cHC2 := cell_row HC2.out 2 _ rfl
 have cHA0 := cell_row HA2.out 0 _ rfl
 have cHA1 := cell_row HA2.out 1 _ rfl
 have cHA2 := cell_row HA2.out 2 _ rfl
 go_wp2_with fail
 refine (CF.out _).mono ?_
 rintro e y17 ⟨rfl, hb⟩
 have HR3 := Lib.hid (vec_step HR2.out hb)
 have HA3 := Lib.hid (vec_step HA2.out hb)
 have HBB3 := Lib.hid (vec_step HBB2.out hb)
 have HC3 := Lib.hid (vec_step HC2.out hb)
 have HZ3 := Lib.hid (vec_step HZ2.out hb)
 have HB3 := Lib.hid (HB2.out.trans (hb.mono HB2.out.size))
 have HE_3 := Lib.hid (vec_step HE_2.out hb)
 clear HR2 HA2 HBB2 HC2 HZ2 HB2 HE_2 hb cHC0 cHC1 cHC2 cHA0 cHA1 cHA2 CF
 go_upto_region 3 with (fail)
 have hx := ext_alloc y17 (.cells #[.int .i64 fX, .int .i64 fY, .int .i64 fZ] 46)
 have hn := heap_alloc_new y17 (.cells #[.int .i64 fX, .int .i64 fY, .int .i64 fZ] 46)
 obtain ⟨y18, hW⟩ : ∃ W, W = y17.alloc (.cells #[.int .i64 fX, .int .i64 fY, .int .i64 fZ] 46) := ⟨_, rfl⟩
 rw [← hW] at hx hn ⊢
 clear hW
 have HR4 := Lib.hid (vec_step HR3.out hx)
 have HA4 := Lib.hid (vec_step HA3.out hx)
 have HBB4 := Lib.hid (vec_step HBB3.out hx)
 have HC4 := Lib.hid (vec_step HC3.out hx)
 have HZ4 := Lib.hid (vec_step HZ3.out hx)
 have HB4 := Lib.hid (HB3.out.trans (hx.mono HB3.out.size))
 have HE_4 := Lib.hid (vec_step HE_3.out hx)
 clear HR3 HA3 HBB3 HC3 HZ3 HB3 HE_3 hx  
 have HF4 := Lib.hid (hn)
 clear hn
 generalize y17.heap.size = gHF at HF4 ⊢
 have cHR3 := cell_row HR4.out 3 _ rfl
 have cHR4 := cell_row HR4.out 4 _ rfl
 have cHR5 := cell_row HR4.out 5 _ rfl
 have cHF0 := cell_row HF4.out 0 _ rfl
 have cHF1 := cell_row HF4.out 1 _ rfl
 have cHF2 := cell_row HF4.out 2 _ rfl
 go_wp2_with fail
 refine (CP.out _).mono ?_
 rintro e y19 ⟨rfl, hb⟩
 have HR5 := Lib.hid (vec_step HR4.out hb)
 have HA5 := Lib.hid (vec_step HA4.out hb)
 have HBB5 := Lib.hid (vec_step HBB4.out hb)
 have HC5 := Lib.hid (vec_step HC4.out hb)
 have HZ5 := Lib.hid (vec_step HZ4.out hb)
 have HB5 := Lib.hid (HB4.out.trans (hb.mono HB4.out.size))
 have HE_5 := Lib.hid (vec_step HE_4.out hb)
 have HF5 := Lib.hid (vec_step HF4.out hb)
 clear HR4 HA4 HBB4 HC4 HZ4 HB4 HE_4 HF4 hb cHR3 cHR4 cHR5 cHF0 cHF1 cHF2 CP
 go_upto_region 4 with (fail)
 have hx := ext_alloc y19 (.cells #[.int .i64 pX, .int .i64 pY, .int .i64 pZ] 46)
 have hn := heap_alloc_new y19 (.cells #[.int .i64 pX, .int .i64 pY, .int .i64 pZ] 46)
 obtain ⟨y20, hW⟩ : ∃ W, W = y19.alloc (.cells #[.int .i64 pX, .int .i64 pY, .int .i64 pZ] 46) := ⟨_, rfl⟩
 rw [← hW] at hx hn ⊢
 clear hW
 have HR6 := Lib.hid (vec_step HR5.out hx)
 have HA6 := Lib.hid (vec_step HA5.out hx)
 have HBB6 := Lib.hid (vec_step HBB5.out hx)
 have HC6 := Lib.hid (vec_step HC5.out hx)
 have HZ6 := Lib.hid (vec_step HZ5.out hx)
 have HB6 := Lib.hid (HB5.out.trans (hx.mono HB5.out.size))
 have HE_6 := Lib.hid (vec_step HE_5.out hx)
 have HF6 := Lib.hid (vec_step HF5.out hx)
 clear HR5 HA5 HBB5 HC5 HZ5 HB5 HE_5 HF5 hx  
 have HP6 := Lib.hid (hn)
 clear hn
 generalize y19.heap.size = gHP at HP6 ⊢
 have cHE_0 := cell_row HE_6.out 0 _ rfl
 have cHE_1 := cell_row HE_6.out 1 _ rfl
 have cHE_2 := cell_row HE_6.out 2 _ rfl
 have cHP0 := cell_row HP6.out 0 _ rfl
 have cHP1 := cell_row HP6.out 1 _ rfl
 have cHP2 := cell_row HP6.out 2 _ rfl
 go_wp2_with fail
 refine (CN.out _).mono ?_
 rintro e y21 ⟨rfl, hb⟩
 have HR7 := Lib.hid (vec_step HR6.out hb)
 have HA7 := Lib.hid (vec_step HA6.out hb)
 have HBB7 := Lib.hid (vec_step HBB6.out hb)
 have HC7 := Lib.hid (vec_step HC6.out hb)
 have HZ7 := Lib.hid (vec_step HZ6.out hb)
 have HB7 := Lib.hid (HB6.out.trans (hb.mono HB6.out.size))
 have HE_7 := Lib.hid (vec_step HE_6.out hb)
 have HF7 := Lib.hid (vec_step HF6.out hb)
 have HP7 := Lib.hid (vec_step HP6.out hb)
 clear HR6 HA6 HBB6 HC6 HZ6 HB6 HE_6 HF6 HP6 hb cHE_0 cHE_1 cHE_2 cHP0 cHP1 cHP2 CN
 by_cases hn0 : n = 0
 ·
  have dn : decide (n = 0) = true := decide_eq_true hn0
  have dn2 : (n == 0) = true := by simp [hn0]
  have hres : res = none := by rw [HE.out, if_pos hn0]
  subst hres
  go_wp2_with (with_reducible refine store_hit rfl (.tmp 8) (.tmp 34) rfl rfl (w.heap.size + 1 + 1 + 1 + 1) 0 0 0 0 rfl rfl _ HZ7.out rfl ?_)
  refine bodyPost_ret (results_row_tmp rfl _ _ _ (w.heap.size + 1 + 1 + 1 + 1) 42 _ _ _ rfl (setRow_heap _ _ _ _ _ _ HZ7.out) Tryz.underlying42 hit_size) rfl ?_
  exact ⟨rfl, below_setRow HB7.out (by omega) _⟩
 ·
  have dn : decide (n = 0) = false := decide_eq_false hn0
  have dn2 : (n == 0) = false := by simp [hn0]
  have HE1 : Hid (res = if u < 0 ∨ ONE < u then none else if v < 0 ∨ ONE < sv then none else if t < 0 then none else some ⟨t, 0, u, v⟩) := Lib.hid (by rw [HE.out, if_neg hn0])
  clear HE hn0
  have cHR0 := cell_row HR7.out 0 _ rfl
  have cHR1 := cell_row HR7.out 1 _ rfl
  have cHR2 := cell_row HR7.out 2 _ rfl
  have cHA0 := cell_row HA7.out 0 _ rfl
  have cHA1 := cell_row HA7.out 1 _ rfl
  have cHA2 := cell_row HA7.out 2 _ rfl
  go_wp2_with fail
  refine (CS.out _).mono ?_
  rintro e y22 ⟨rfl, hb⟩
  have HR8 := Lib.hid (vec_step HR7.out hb)
  have HA8 := Lib.hid (vec_step HA7.out hb)
  have HBB8 := Lib.hid (vec_step HBB7.out hb)
  have HC8 := Lib.hid (vec_step HC7.out hb)
  have HZ8 := Lib.hid (vec_step HZ7.out hb)
  have HB8 := Lib.hid (HB7.out.trans (hb.mono HB7.out.size))
  have HE_8 := Lib.hid (vec_step HE_7.out hb)
  have HF8 := Lib.hid (vec_step HF7.out hb)
  have HP8 := Lib.hid (vec_step HP7.out hb)
  clear HR7 HA7 HBB7 HC7 HZ7 HB7 HE_7 HF7 HP7 hb cHR0 cHR1 cHR2 cHA0 cHA1 cHA2 CS
  go_upto_region 8 with (fail)
  have hx := ext_alloc y22 (.cells #[.int .i64 sX, .int .i64 sY, .int .i64 sZ] 46)
  have hn := heap_alloc_new y22 (.cells #[.int .i64 sX, .int .i64 sY, .int .i64 sZ] 46)
  obtain ⟨y23, hW⟩ : ∃ W, W = y22.alloc (.cells #[.int .i64 sX, .int .i64 sY, .int .i64 sZ] 46) := ⟨_, rfl⟩
  rw [← hW] at hx hn ⊢
  clear hW
  have HR9 := Lib.hid (vec_step HR8.out hx)
  have HA9 := Lib.hid (vec_step HA8.out hx)
  have HBB9 := Lib.hid (vec_step HBB8.out hx)
  have HC9 := Lib.hid (vec_step HC8.out hx)
  have HZ9 := Lib.hid (vec_step HZ8.out hx)
  have HB9 := Lib.hid (HB8.out.trans (hx.mono HB8.out.size))
  have HE_9 := Lib.hid (vec_step HE_8.out hx)
  have HF9 := Lib.hid (vec_step HF8.out hx)
  have HP9 := Lib.hid (vec_step HP8.out hx)
  clear HR8 HA8 HBB8 HC8 HZ8 HB8 HE_8 HF8 HP8 hx  
  have HS9 := Lib.hid (hn)
  clear hn
  generalize y22.heap.size = gHS at HS9 ⊢
  have cHS0 := cell_row HS9.out 0 _ rfl
  have cHS1 := cell_row HS9.out 1 _ rfl
  have cHS2 := cell_row HS9.out 2 _ rfl
  have cHP0 := cell_row HP9.out 0 _ rfl
  have cHP1 := cell_row HP9.out 1 _ rfl
  have cHP2 := cell_row HP9.out 2 _ rfl
  go_wp2_with fail
  refine (CU1.out _).mono ?_
  rintro e y24 ⟨rfl, hb⟩
  have HR10 := Lib.hid (vec_step HR9.out hb)
  have HA10 := Lib.hid (vec_step HA9.out hb)
  have HBB10 := Lib.hid (vec_step HBB9.out hb)
  have HC10 := Lib.hid (vec_step HC9.out hb)
  have HZ10 := Lib.hid (vec_step HZ9.out hb)
  have HB10 := Lib.hid (HB9.out.trans (hb.mono HB9.out.size))
  have HE_10 := Lib.hid (vec_step HE_9.out hb)
  have HF10 := Lib.hid (vec_step HF9.out hb)
  have HP10 := Lib.hid (vec_step HP9.out hb)
  have HS10 := Lib.hid (vec_step HS9.out hb)
  clear HR9 HA9 HBB9 HC9 HZ9 HB9 HE_9 HF9 HP9 HS9 hb cHS0 cHS1 cHS2 cHP0 cHP1 cHP2 CU1
  go_wp2_with fail
  refine (CU.out _).mono ?_
  rintro e y25 ⟨rfl, hb⟩
  have HR11 := Lib.hid (vec_step HR10.out hb)
  have HA11 := Lib.hid (vec_step HA10.out hb)
  have HBB11 := Lib.hid (vec_step HBB10.out hb)
  have HC11 := Lib.hid (vec_step HC10.out hb)
  have HZ11 := Lib.hid (vec_step HZ10.out hb)
  have HB11 := Lib.hid (HB10.out.trans (hb.mono HB10.out.size))
  have HE_11 := Lib.hid (vec_step HE_10.out hb)
  have HF11 := Lib.hid (vec_step HF10.out hb)
  have HP11 := Lib.hid (vec_step HP10.out hb)
  have HS11 := Lib.hid (vec_step HS10.out hb)
  clear HR10 HA10 HBB10 HC10 HZ10 HB10 HE_10 HF10 HP10 HS10 hb  CU
  have cHS0 := cell_row HS11.out 0 _ rfl
  have cHS1 := cell_row HS11.out 1 _ rfl
  have cHS2 := cell_row HS11.out 2 _ rfl
  have cHE_0 := cell_row HE_11.out 0 _ rfl
  have cHE_1 := cell_row HE_11.out 1 _ rfl
  have cHE_2 := cell_row HE_11.out 2 _ rfl
  go_wp2_with fail
  refine (CQ.out _).mono ?_
  rintro e y26 ⟨rfl, hb⟩
  have HR12 := Lib.hid (vec_step HR11.out hb)
  have HA12 := Lib.hid (vec_step HA11.out hb)
  have HBB12 := Lib.hid (vec_step HBB11.out hb)
  have HC12 := Lib.hid (vec_step HC11.out hb)
  have HZ12 := Lib.hid (vec_step HZ11.out hb)
  have HB12 := Lib.hid (HB11.out.trans (hb.mono HB11.out.size))
  have HE_12 := Lib.hid (vec_step HE_11.out hb)
  have HF12 := Lib.hid (vec_step HF11.out hb)
  have HP12 := Lib.hid (vec_step HP11.out hb)
  have HS12 := Lib.hid (vec_step HS11.out hb)
  clear HR11 HA11 HBB11 HC11 HZ11 HB11 HE_11 HF11 HP11 HS11 hb cHS0 cHS1 cHS2 cHE_0 cHE_1 cHE_2 CQ
  go_upto_region 10 with (fail)
  have hx := ext_alloc y26 (.cells #[.int .i64 qX, .int .i64 qY, .int .i64 qZ] 46)
  have hn := heap_alloc_new y26 (.cells #[.int .i64 qX, .int .i64 qY, .int .i64 qZ] 46)
  obtain ⟨y27, hW⟩ : ∃ W, W = y26.alloc (.cells #[.int .i64 qX, .int .i64 qY, .int .i64 qZ] 46) := ⟨_, rfl⟩
  rw [← hW] at hx hn ⊢
  clear hW
  have HR13 := Lib.hid (vec_step HR12.out hx)
  have HA13 := Lib.hid (vec_step HA12.out hx)
  have HBB13 := Lib.hid (vec_step HBB12.out hx)
  have HC13 := Lib.hid (vec_step HC12.out hx)
  have HZ13 := Lib.hid (vec_step HZ12.out hx)
  have HB13 := Lib.hid (HB12.out.trans (hx.mono HB12.out.size))
  have HE_13 := Lib.hid (vec_step HE_12.out hx)
  have HF13 := Lib.hid (vec_step HF12.out hx)
  have HP13 := Lib.hid (vec_step HP12.out hx)
  have HS13 := Lib.hid (vec_step HS12.out hx)
  clear HR12 HA12 HBB12 HC12 HZ12 HB12 HE_12 HF12 HP12 HS12 hx  
  have HQ13 := Lib.hid (hn)
  clear hn
  generalize y26.heap.size = gHQ at HQ13 ⊢
  have cHR3 := cell_row HR13.out 3 _ rfl
  have cHR4 := cell_row HR13.out 4 _ rfl
  have cHR5 := cell_row HR13.out 5 _ rfl
  have cHQ0 := cell_row HQ13.out 0 _ rfl
  have cHQ1 := cell_row HQ13.out 1 _ rfl
  have cHQ2 := cell_row HQ13.out 2 _ rfl
  go_wp2_with fail
  refine (CV1.out _).mono ?_
  rintro e y28 ⟨rfl, hb⟩
  have HR14 := Lib.hid (vec_step HR13.out hb)
  have HA14 := Lib.hid (vec_step HA13.out hb)
  have HBB14 := Lib.hid (vec_step HBB13.out hb)
  have HC14 := Lib.hid (vec_step HC13.out hb)
  have HZ14 := Lib.hid (vec_step HZ13.out hb)
  have HB14 := Lib.hid (HB13.out.trans (hb.mono HB13.out.size))
  have HE_14 := Lib.hid (vec_step HE_13.out hb)
  have HF14 := Lib.hid (vec_step HF13.out hb)
  have HP14 := Lib.hid (vec_step HP13.out hb)
  have HS14 := Lib.hid (vec_step HS13.out hb)
  have HQ14 := Lib.hid (vec_step HQ13.out hb)
  clear HR13 HA13 HBB13 HC13 HZ13 HB13 HE_13 HF13 HP13 HS13 HQ13 hb cHR3 cHR4 cHR5 cHQ0 cHQ1 cHQ2 CV1
  go_wp2_with fail
  refine (CV.out _).mono ?_
  rintro e y29 ⟨rfl, hb⟩
  have HR15 := Lib.hid (vec_step HR14.out hb)
  have HA15 := Lib.hid (vec_step HA14.out hb)
  have HBB15 := Lib.hid (vec_step HBB14.out hb)
  have HC15 := Lib.hid (vec_step HC14.out hb)
  have HZ15 := Lib.hid (vec_step HZ14.out hb)
  have HB15 := Lib.hid (HB14.out.trans (hb.mono HB14.out.size))
  have HE_15 := Lib.hid (vec_step HE_14.out hb)
  have HF15 := Lib.hid (vec_step HF14.out hb)
  have HP15 := Lib.hid (vec_step HP14.out hb)
  have HS15 := Lib.hid (vec_step HS14.out hb)
  have HQ15 := Lib.hid (vec_step HQ14.out hb)
  clear HR14 HA14 HBB14 HC14 HZ14 HB14 HE_14 HF14 HP14 HS14 HQ14 hb  CV
  have cHF0 := cell_row HF15.out 0 _ rfl
  have cHF1 := cell_row HF15.out 1 _ rfl
  have cHF2 := cell_row HF15.out 2 _ rfl
  have cHQ0 := cell_row HQ15.out 0 _ rfl
  have cHQ1 := cell_row HQ15.out 1 _ rfl
  have cHQ2 := cell_row HQ15.out 2 _ rfl
  go_wp2_with fail
  refine (CT1.out _).mono ?_
  rintro e y30 ⟨rfl, hb⟩
  have HR16 := Lib.hid (vec_step HR15.out hb)
  have HA16 := Lib.hid (vec_step HA15.out hb)
  have HBB16 := Lib.hid (vec_step HBB15.out hb)
  have HC16 := Lib.hid (vec_step HC15.out hb)
  have HZ16 := Lib.hid (vec_step HZ15.out hb)
  have HB16 := Lib.hid (HB15.out.trans (hb.mono HB15.out.size))
  have HE_16 := Lib.hid (vec_step HE_15.out hb)
  have HF16 := Lib.hid (vec_step HF15.out hb)
  have HP16 := Lib.hid (vec_step HP15.out hb)
  have HS16 := Lib.hid (vec_step HS15.out hb)
  have HQ16 := Lib.hid (vec_step HQ15.out hb)
  clear HR15 HA15 HBB15 HC15 HZ15 HB15 HE_15 HF15 HP15 HS15 HQ15 hb cHF0 cHF1 cHF2 cHQ0 cHQ1 cHQ2 CT1
  go_wp2_with fail
  refine (CT.out _).mono ?_
  rintro e y31 ⟨rfl, hb⟩
  have HR17 := Lib.hid (vec_step HR16.out hb)
  have HA17 := Lib.hid (vec_step HA16.out hb)
  have HBB17 := Lib.hid (vec_step HBB16.out hb)
  have HC17 := Lib.hid (vec_step HC16.out hb)
  have HZ17 := Lib.hid (vec_step HZ16.out hb)
  have HB17 := Lib.hid (HB16.out.trans (hb.mono HB16.out.size))
  have HE_17 := Lib.hid (vec_step HE_16.out hb)
  have HF17 := Lib.hid (vec_step HF16.out hb)
  have HP17 := Lib.hid (vec_step HP16.out hb)
  have HS17 := Lib.hid (vec_step HS16.out hb)
  have HQ17 := Lib.hid (vec_step HQ16.out hb)
  clear HR16 HA16 HBB16 HC16 HZ16 HB16 HE_16 HF16 HP16 HS16 HQ16 hb  CT
  by_cases hu0 : u < 0
  ·
   have du : decide (u < 0) = true := decide_eq_true hu0
   have hres : res = none := by rw [HE1.out, if_pos (.inl hu0)]
   subst hres
   go_wp2_with (with_reducible refine store_hit rfl (.tmp 8) (.tmp 78) rfl rfl (w.heap.size + 1 + 1 + 1 + 1) 0 0 0 0 rfl rfl _ HZ17.out rfl ?_)
   refine bodyPost_ret (results_row_tmp rfl _ _ _ (w.heap.size + 1 + 1 + 1 + 1) 42 _ _ _ rfl (setRow_heap _ _ _ _ _ _ HZ17.out) Tryz.underlying42 hit_size) rfl ?_
   exact ⟨rfl, below_setRow HB17.out (by omega) _⟩
  ·
   have du : decide (u < 0) = false := decide_eq_false hu0
   by_cases hu1 : 4294967296 < u
   ·
    have du2 : decide (4294967296 < u) = true := decide_eq_true hu1
    have hres : res = none := by rw [HE1.out, if_pos (.inr hu1)]
    subst hres
    go_wp2_with (with_reducible refine store_hit rfl (.tmp 8) (.tmp 78) rfl rfl (w.heap.size + 1 + 1 + 1 + 1) 0 0 0 0 rfl rfl _ HZ17.out rfl ?_)
    refine bodyPost_ret (results_row_tmp rfl _ _ _ (w.heap.size + 1 + 1 + 1 + 1) 42 _ _ _ rfl (setRow_heap _ _ _ _ _ _ HZ17.out) Tryz.underlying42 hit_size) rfl ?_
    exact ⟨rfl, below_setRow HB17.out (by omega) _⟩
   ·
    have du2 : decide (4294967296 < u) = false := decide_eq_false hu1
    have HE2 : Hid (res = if v < 0 ∨ ONE < sv then none else if t < 0 then none else some ⟨t, 0, u, v⟩) := Lib.hid (by rw [HE1.out, if_neg (by unfold ONE; omega)])
    clear HE1
    by_cases hv0 : v < 0
    ·
     have dv : decide (v < 0) = true := decide_eq_true hv0
     have hres : res = none := by rw [HE2.out, if_pos (.inl hv0)]
     subst hres
     go_wp2_with (with_reducible refine store_hit rfl (.tmp 8) (.tmp 78) rfl rfl (w.heap.size + 1 + 1 + 1 + 1) 0 0 0 0 rfl rfl _ HZ17.out rfl ?_)
     refine bodyPost_ret (results_row_tmp rfl _ _ _ (w.heap.size + 1 + 1 + 1 + 1) 42 _ _ _ rfl (setRow_heap _ _ _ _ _ _ HZ17.out) Tryz.underlying42 hit_size) rfl ?_
     exact ⟨rfl, below_setRow HB17.out (by omega) _⟩
    ·
     have dv : decide (v < 0) = false := decide_eq_false hv0
     go_wp2_with fail
     refine (CA.out _).mono ?_
     rintro e y32 ⟨rfl, hb⟩
     have HR18 := Lib.hid (vec_step HR17.out hb)
     have HA18 := Lib.hid (vec_step HA17.out hb)
     have HBB18 := Lib.hid (vec_step HBB17.out hb)
     have HC18 := Lib.hid (vec_step HC17.out hb)
     have HZ18 := Lib.hid (vec_step HZ17.out hb)
     have HB18 := Lib.hid (HB17.out.trans (hb.mono HB17.out.size))
     have HE_18 := Lib.hid (vec_step HE_17.out hb)
     have HF18 := Lib.hid (vec_step HF17.out hb)
     have HP18 := Lib.hid (vec_step HP17.out hb)
     have HS18 := Lib.hid (vec_step HS17.out hb)
     have HQ18 := Lib.hid (vec_step HQ17.out hb)
     clear HR17 HA17 HBB17 HC17 HZ17 HB17 HE_17 HF17 HP17 HS17 HQ17 hb  CA
     by_cases hv1 : 4294967296 < sv
     ·
      have dv2 : decide (4294967296 < sv) = true := decide_eq_true hv1
      have hres : res = none := by rw [HE2.out, if_pos (.inr hv1)]
      subst hres
      go_wp2_with (with_reducible refine store_hit rfl (.tmp 8) (.tmp 78) rfl rfl (w.heap.size + 1 + 1 + 1 + 1) 0 0 0 0 rfl rfl _ HZ18.out rfl ?_)
      refine bodyPost_ret (results_row_tmp rfl _ _ _ (w.heap.size + 1 + 1 + 1 + 1) 42 _ _ _ rfl (setRow_heap _ _ _ _ _ _ HZ18.out) Tryz.underlying42 hit_size) rfl ?_
      exact ⟨rfl, below_setRow HB18.out (by omega) _⟩
     ·
      have dv2 : decide (4294967296 < sv) = false := decide_eq_false hv1
      have HE3 : Hid (res = if t < 0 then none else some ⟨t, 0, u, v⟩) := Lib.hid (by rw [HE2.out, if_neg (by unfold ONE; omega)])
      clear HE2
      by_cases ht0 : t < 0
      ·
       have dt : decide (t < 0) = true := decide_eq_true ht0
       have hres : res = none := by rw [HE3.out, if_pos (ht0)]
       subst hres
       go_wp2_with (with_reducible refine store_hit rfl (.tmp 8) (.tmp 78) rfl rfl (w.heap.size + 1 + 1 + 1 + 1) 0 0 0 0 rfl rfl _ HZ18.out rfl ?_)
       refine bodyPost_ret (results_row_tmp rfl _ _ _ (w.heap.size + 1 + 1 + 1 + 1) 42 _ _ _ rfl (setRow_heap _ _ _ _ _ _ HZ18.out) Tryz.underlying42 hit_size) rfl ?_
       exact ⟨rfl, below_setRow HB18.out (by omega) _⟩
      ·
       have dt : decide (t < 0) = false := decide_eq_false ht0
       have hres : res = some ⟨t, 0, u, v⟩ := by rw [HE3.out, if_neg ht0]
       subst hres
       go_wp2_with (with_reducible refine store_hit rfl (.tmp 8) (.tmp 82) rfl rfl (w.heap.size + 1 + 1 + 1 + 1) t 0 u v rfl rfl _ HZ18.out rfl ?_)
       refine bodyPost_ret (results_row_tmp rfl _ _ _ (w.heap.size + 1 + 1 + 1 + 1) 42 _ _ _ rfl (setRow_heap _ _ _ _ _ _ HZ18.out) Tryz.underlying42 hit_size) rfl ?_
       exact ⟨rfl, below_setRow HB18.out (by omega) _⟩

end Go.Proofs.YtdaokkgenfpmhaaGreat.HitT

/- The walks of hit.Ball and ref13 Ball. -/
set_option linter.unusedVariables false
set_option linter.unusedSimpArgs false
namespace Go.Proofs.YtdaokkgenfpmhaaGreat.HitB
open Go.RowKit Go.Sort FixM Base Num FixW FixV FixU FixS FixO FixN FixK Qb Qt Qa Qf VecW VecV VecU VecR LightQ LightC MeshM MeshA MeshD MeshP HitM HitT

set_option maxRecDepth 100000 in
set_option maxHeartbeats 16000000 in
theorem ball_any (r : Ry) (b : B4) (hr : r.ok) (hbc : b.c.ok) (hbr : In b.r) (w : World) : Calls Tryz.prog 74 #[rayV r, .agg #[.int .i64 b.c.x, .int .i64 b.c.y, .int .i64 b.c.z, .int .i64 b.r]] w (VTo (ballR (ballH r b)) w) := by
 obtain ⟨g, hg⟩ : ∃ zz, zz = map2 subF r.o b.c := ⟨_, rfl⟩
 obtain ⟨A, hA⟩ : ∃ zz, zz = dotF r.d r.d := ⟨_, rfl⟩
 obtain ⟨h, hh_⟩ : ∃ zz, zz = dotF g r.d := ⟨_, rfl⟩
 obtain ⟨gg, hgg⟩ : ∃ zz, zz = dotF g g := ⟨_, rfl⟩
 obtain ⟨rr, hrr⟩ : ∃ zz, zz = mulF b.r b.r := ⟨_, rfl⟩
 obtain ⟨C, hC⟩ : ∃ zz, zz = subF gg rr := ⟨_, rfl⟩
 obtain ⟨hh, hhh⟩ : ∃ zz, zz = mulF h h := ⟨_, rfl⟩
 obtain ⟨ac, hac⟩ : ∃ zz, zz = mulF A C := ⟨_, rfl⟩
 obtain ⟨W, hW⟩ : ∃ zz, zz = subF hh ac := ⟨_, rfl⟩
 obtain ⟨rt, hrt⟩ : ∃ zz, zz = sqrtF W := ⟨_, rfl⟩
 obtain ⟨nh, hnh⟩ : ∃ zz, zz = negF h := ⟨_, rfl⟩
 obtain ⟨x1, hx1⟩ : ∃ zz, zz = subF nh rt := ⟨_, rfl⟩
 obtain ⟨X, hX⟩ : ∃ zz, zz = divF x1 A := ⟨_, rfl⟩
 obtain ⟨y1, hy1⟩ : ∃ zz, zz = addF nh rt := ⟨_, rfl⟩
 obtain ⟨Y, hY⟩ : ∃ zz, zz = divF y1 A := ⟨_, rfl⟩
 have HE : Hid (ballH r b = if A = 0 ∨ W < 0 then none else some (X, Y)) := Lib.hid (by
  have e1 : ballA r = A := hA.symm
  have e2 : ballHh r b = h := by unfold ballHh; rw [← hg, ← hh_]
  have e3 : ballC r b = C := by unfold ballC; rw [← hg, ← hgg, ← hrr, ← hC]
  have e4 : ballW r b = W := by unfold ballW; rw [e1, e2, e3, ← hhh, ← hac, ← hW]
  have e5 : ballX r b = X := by unfold ballX; rw [e1, e2, e4, ← hnh, ← hrt, ← hx1, ← hX]
  have e6 : ballY r b = Y := by unfold ballY; rw [e1, e2, e4, ← hnh, ← hrt, ← hy1, ← hY]
  unfold ballH
  rw [e1, e4, e5, e6])
 generalize ballH r b = res at HE ⊢
 have og : g.ok := by rw [hg]; exact ok_map2sub _ _
 have iA : In A := by rw [hA]; exact in_dot _ _
 have ih : In h := by rw [hh_]; exact in_dot _ _
 have igg : In gg := by rw [hgg]; exact in_dot _ _
 have irr : In rr := by rw [hrr]; exact in_mul _ _
 have iC : In C := by rw [hC]; exact in_sub _ _
 have ihh : In hh := by rw [hhh]; exact in_mul _ _
 have iac : In ac := by rw [hac]; exact in_mul _ _
 have iW : In W := by rw [hW]; exact in_sub _ _
 have irt : In rt := by rw [hrt]; exact in_sqrt iW
 have inh : In nh := by rw [hnh]; exact in_neg _
 have ix1 : In x1 := by rw [hx1]; exact in_sub _ _
 have iy1 : In y1 := by rw [hy1]; exact in_add _ _
 obtain ⟨⟨oX, oY, oZ⟩, ⟨dX, dY, dZ⟩⟩ := r
 obtain ⟨⟨cX, cY, cZ⟩, br⟩ := b
 dsimp only at *
 have CG : Hid (∀ w, Calls Tryz.prog 75 #[vecV ⟨oX, oY, oZ⟩, vecV ⟨cX, cY, cZ⟩] w (VTo (vecV g) w)) := Lib.hid (fun w => by have := vsub_any ⟨oX, oY, oZ⟩ ⟨cX, cY, cZ⟩ hr.1 hbc w; rw [← hg] at this; exact this)
 have CA : Hid (∀ w, Calls Tryz.prog 77 #[vecV ⟨dX, dY, dZ⟩, vecV ⟨dX, dY, dZ⟩] w (VTo (.int .i64 A) w)) := Lib.hid (fun w => by have := vdot_any ⟨dX, dY, dZ⟩ ⟨dX, dY, dZ⟩ hr.2 hr.2 w; rw [← hA] at this; exact this)
 have CH : Hid (∀ w, Calls Tryz.prog 77 #[vecV g, vecV ⟨dX, dY, dZ⟩] w (VTo (.int .i64 h) w)) := Lib.hid (fun w => by have := vdot_any g ⟨dX, dY, dZ⟩ og hr.2 w; rw [← hh_] at this; exact this)
 have CGG : Hid (∀ w, Calls Tryz.prog 77 #[vecV g, vecV g] w (VTo (.int .i64 gg) w)) := Lib.hid (fun w => by have := vdot_any g g og og w; rw [← hgg] at this; exact this)
 have CRR : Hid (∀ w, Calls Tryz.prog 90 #[.int .i64 br, .int .i64 br] w (VTo (.int .i64 rr) w)) := Lib.hid (fun w => by have := same_below (mul_any br br hbr.1 hbr.2 hbr.1 hbr.2 w); rw [← hrr] at this; exact this)
 have CC : Hid (∀ w, Calls Tryz.prog 40 #[.int .i64 gg, .int .i64 rr] w (VTo (.int .i64 C) w)) := Lib.hid (fun w => by have := same_below (sub_any gg rr igg.1 igg.2 irr.1 irr.2 w); rw [← hC] at this; exact this)
 have CHH : Hid (∀ w, Calls Tryz.prog 90 #[.int .i64 h, .int .i64 h] w (VTo (.int .i64 hh) w)) := Lib.hid (fun w => by have := same_below (mul_any h h ih.1 ih.2 ih.1 ih.2 w); rw [← hhh] at this; exact this)
 have CAC : Hid (∀ w, Calls Tryz.prog 90 #[.int .i64 A, .int .i64 C] w (VTo (.int .i64 ac) w)) := Lib.hid (fun w => by have := same_below (mul_any A C iA.1 iA.2 iC.1 iC.2 w); rw [← hac] at this; exact this)
 have CW : Hid (∀ w, Calls Tryz.prog 40 #[.int .i64 hh, .int .i64 ac] w (VTo (.int .i64 W) w)) := Lib.hid (fun w => by have := same_below (sub_any hh ac ihh.1 ihh.2 iac.1 iac.2 w); rw [← hW] at this; exact this)
 have CRT : Hid (∀ w, Calls Tryz.prog 91 #[.int .i64 W] w (VTo (.int .i64 rt) w)) := Lib.hid (fun w => by have := same_below (sqrt_any W iW.1 iW.2 w); rw [← hrt] at this; exact this)
 have CNH : Hid (∀ w, Calls Tryz.prog 92 #[.int .i64 h] w (VTo (.int .i64 nh) w)) := Lib.hid (fun w => by have := same_below (neg_any h ih.1 ih.2 w); rw [← hnh] at this; exact this)
 have CX1 : Hid (∀ w, Calls Tryz.prog 40 #[.int .i64 nh, .int .i64 rt] w (VTo (.int .i64 x1) w)) := Lib.hid (fun w => by have := same_below (sub_any nh rt inh.1 inh.2 irt.1 irt.2 w); rw [← hx1] at this; exact this)
 have CX : Hid (∀ w, Calls Tryz.prog 51 #[.int .i64 x1, .int .i64 A] w (VTo (.int .i64 X) w)) := Lib.hid (fun w => by have := drawn_below (div_any x1 A ix1.1 ix1.2 iA.1 iA.2 w); rw [← hX] at this; exact this)
 have CY1 : Hid (∀ w, Calls Tryz.prog 41 #[.int .i64 nh, .int .i64 rt] w (VTo (.int .i64 y1) w)) := Lib.hid (fun w => by have := same_below (add_any nh rt inh.1 inh.2 irt.1 irt.2 w); rw [← hy1] at this; exact this)
 have CY : Hid (∀ w, Calls Tryz.prog 51 #[.int .i64 y1, .int .i64 A] w (VTo (.int .i64 Y) w)) := Lib.hid (fun w => by have := drawn_below (div_any y1 A iy1.1 iy1.2 iA.1 iA.2 w); rw [← hY] at this; exact this)
 clear hg hA hh_ hgg hrr hC hhh hac hW hrt hnh hx1 hX hy1 hY og iA ih igg irr iC ihh iac iW irt inh ix1 iy1 hr hbc hbr
 obtain ⟨gX, gY, gZ⟩ := g
 dsimp only [vecV, rayV] at *
 obtain ⟨W0, hW0⟩ : ∃ W, W = (w.alloc (.cells #[.int .i64 oX, .int .i64 oY, .int .i64 oZ, .int .i64 dX, .int .i64 dY, .int .i64 dZ] 48)).alloc (.cells #[.int .i64 cX, .int .i64 cY, .int .i64 cZ, .int .i64 br] 51) := ⟨_, rfl⟩
 have hR : W0.heap[w.heap.size]? = some (.cells #[.int .i64 oX, .int .i64 oY, .int .i64 oZ, .int .i64 dX, .int .i64 dY, .int .i64 dZ] 48) := by rw [hW0]; exact alloc2_0 _ _ _
 have hBa : W0.heap[w.heap.size + 1]? = some (.cells #[.int .i64 cX, .int .i64 cY, .int .i64 cZ, .int .i64 br] 51) := by rw [hW0]; exact alloc2_1 _ _ _
 have hB : Below w.heap.size w W0 := by rw [hW0]; exact alloc2_below _ _ _
 have HR0 := Lib.hid hR
 have HA0 := Lib.hid hBa
 have HB0 := Lib.hid hB
 have HWW := Lib.hid hW0
 clear hR hBa hB hW0
 go_enter Tryz.func74, Tryz.ntmps74
 go_upto_region 1 with (fail)
 rw [← HWW.out]
 clear HWW
 have cHR0 := cell_row HR0.out 0 _ rfl
 have cHR1 := cell_row HR0.out 1 _ rfl
 have cHR2 := cell_row HR0.out 2 _ rfl
 have cHA0 := cell_row HA0.out 0 _ rfl
 have cHA1 := cell_row HA0.out 1 _ rfl
 have cHA2 := cell_row HA0.out 2 _ rfl
 go_wp2_with fail
 refine (CG.out _).mono ?_
 rintro e y1 ⟨rfl, hb⟩
 have HR1 := Lib.hid (vec_step HR0.out hb)
 have HA1 := Lib.hid (vec_step HA0.out hb)
 have HB1 := Lib.hid (HB0.out.trans (hb.mono HB0.out.size))
 clear HR0 HA0 HB0 hb cHR0 cHR1 cHR2 cHA0 cHA1 cHA2 CG
 go_upto_region 2 with (fail)
 have hx := ext_alloc y1 (.cells #[.int .i64 gX, .int .i64 gY, .int .i64 gZ] 46)
 have hn := heap_alloc_new y1 (.cells #[.int .i64 gX, .int .i64 gY, .int .i64 gZ] 46)
 obtain ⟨y2, hW⟩ : ∃ W, W = y1.alloc (.cells #[.int .i64 gX, .int .i64 gY, .int .i64 gZ] 46) := ⟨_, rfl⟩
 rw [← hW] at hx hn ⊢
 clear hW
 have HR2 := Lib.hid (vec_step HR1.out hx)
 have HA2 := Lib.hid (vec_step HA1.out hx)
 have HB2 := Lib.hid (HB1.out.trans (hx.mono HB1.out.size))
 clear HR1 HA1 HB1 hx  
 have HG2 := Lib.hid (hn)
 clear hn
 generalize y1.heap.size = gHG at HG2 ⊢
 have cHR3 := cell_row HR2.out 3 _ rfl
 have cHR4 := cell_row HR2.out 4 _ rfl
 have cHR5 := cell_row HR2.out 5 _ rfl
 go_wp2_with fail
 refine (CA.out _).mono ?_
 rintro e y3 ⟨rfl, hb⟩
 have HR3 := Lib.hid (vec_step HR2.out hb)
 have HA3 := Lib.hid (vec_step HA2.out hb)
 have HB3 := Lib.hid (HB2.out.trans (hb.mono HB2.out.size))
 have HG3 := Lib.hid (vec_step HG2.out hb)
 clear HR2 HA2 HB2 HG2 hb cHR3 cHR4 cHR5 CA
 by_cases hA0 : A = 0
 ·
  have dA : decide (A = 0) = true := decide_eq_true hA0
  have dA2 : (A == 0) = true := by simp [hA0]
  have hres : res = none := by rw [HE.out, if_pos (.inl hA0)]
  subst hres
  go_wp2_with fail
  go_ret3
  exact ⟨rfl, HB3.out⟩
 ·
  have dA : decide (A = 0) = false := decide_eq_false hA0
  have dA2 : (A == 0) = false := by simp [hA0]
  have cHG0 := cell_row HG3.out 0 _ rfl
  have cHG1 := cell_row HG3.out 1 _ rfl
  have cHG2 := cell_row HG3.out 2 _ rfl
  have cHR3 := cell_row HR3.out 3 _ rfl
  have cHR4 := cell_row HR3.out 4 _ rfl
  have cHR5 := cell_row HR3.out 5 _ rfl
  go_wp2_with fail
  refine (CH.out _).mono ?_
  rintro e y4 ⟨rfl, hb⟩
  have HR4 := Lib.hid (vec_step HR3.out hb)
  have HA4 := Lib.hid (vec_step HA3.out hb)
  have HB4 := Lib.hid (HB3.out.trans (hb.mono HB3.out.size))
  have HG4 := Lib.hid (vec_step HG3.out hb)
  clear HR3 HA3 HB3 HG3 hb cHG0 cHG1 cHG2 cHR3 cHR4 cHR5 CH
  go_upto_region 6 with (fail)
  have Q1 := Lib.hid (qb (P := Tryz.prog) (W := y4) (fun w2 hb => CGG.out w2))
  have Q2 := Lib.hid (qb (P := Tryz.prog) (W := y4) (fun w2 hb => CRR.out w2))
  have Q3 := Lib.hid (qb (P := Tryz.prog) (W := y4) (fun w2 hb => CC.out w2))
  have fHG0 := fun d os => cell_regrown (cell_row HG4.out 0 _ rfl) d os
  have fHG1 := fun d os => cell_regrown (cell_row HG4.out 1 _ rfl) d os
  have fHG2 := fun d os => cell_regrown (cell_row HG4.out 2 _ rfl) d os
  have fHA3 := fun d os => cell_regrown (cell_row HA4.out 3 _ rfl) d os
  refine wp_region_quiet_below (by kernel_rfl) (by kernel_rfl) ?_
  repeat (go_big_quiet_step (first | (with_reducible exact Q1.out _ _) | (with_reducible exact Q2.out _ _) | (with_reducible exact Q3.out _ _)))
  refine wpQuiet_nil ?_
  first | (rintro _ ⟨⟨dq, osq⟩, rfl⟩) | (rintro ⟨dq, osq⟩)
  have hb := below_regrown y4 dq osq
  obtain ⟨y5, hW⟩ : ∃ W, W = grow (redrawn y4 dq) osq := ⟨_, rfl⟩
  rw [← hW] at hb ⊢
  clear hW
  have HR5 := Lib.hid (vec_step HR4.out hb)
  have HA5 := Lib.hid (vec_step HA4.out hb)
  have HB5 := Lib.hid (HB4.out.trans (hb.mono HB4.out.size))
  have HG5 := Lib.hid (vec_step HG4.out hb)
  clear HR4 HA4 HB4 HG4 hb  fHG0 fHG1 fHG2 fHA3
  clear Q1 Q2 Q3 CGG CRR CC
  go_wp2_with fail
  refine (CHH.out _).mono ?_
  rintro e y6 ⟨rfl, hb⟩
  have HR6 := Lib.hid (vec_step HR5.out hb)
  have HA6 := Lib.hid (vec_step HA5.out hb)
  have HB6 := Lib.hid (HB5.out.trans (hb.mono HB5.out.size))
  have HG6 := Lib.hid (vec_step HG5.out hb)
  clear HR5 HA5 HB5 HG5 hb  CHH
  go_wp2_with fail
  refine (CAC.out _).mono ?_
  rintro e y7 ⟨rfl, hb⟩
  have HR7 := Lib.hid (vec_step HR6.out hb)
  have HA7 := Lib.hid (vec_step HA6.out hb)
  have HB7 := Lib.hid (HB6.out.trans (hb.mono HB6.out.size))
  have HG7 := Lib.hid (vec_step HG6.out hb)
  clear HR6 HA6 HB6 HG6 hb  CAC
  go_wp2_with fail
  refine (CW.out _).mono ?_
  rintro e y8 ⟨rfl, hb⟩
  have HR8 := Lib.hid (vec_step HR7.out hb)
  have HA8 := Lib.hid (vec_step HA7.out hb)
  have HB8 := Lib.hid (HB7.out.trans (hb.mono HB7.out.size))
  have HG8 := Lib.hid (vec_step HG7.out hb)
  clear HR7 HA7 HB7 HG7 hb  CW
  by_cases hW0 : W < 0
  ·
   have dW : decide (W < 0) = true := decide_eq_true hW0
   have hres : res = none := by rw [HE.out, if_pos (.inr hW0)]
   subst hres
   go_wp2_with fail
   go_ret3
   exact ⟨rfl, HB8.out⟩
  ·
   have dW : decide (W < 0) = false := decide_eq_false hW0
   have hres : res = some (X, Y) := by rw [HE.out, if_neg (by omega)]
   go_wp2_with fail
   refine (CRT.out _).mono ?_
   rintro e y9 ⟨rfl, hb⟩
   have HR9 := Lib.hid (vec_step HR8.out hb)
   have HA9 := Lib.hid (vec_step HA8.out hb)
   have HB9 := Lib.hid (HB8.out.trans (hb.mono HB8.out.size))
   have HG9 := Lib.hid (vec_step HG8.out hb)
   clear HR8 HA8 HB8 HG8 hb  CRT
   go_wp2_with fail
   refine (CNH.out _).mono ?_
   rintro e y10 ⟨rfl, hb⟩
   have HR10 := Lib.hid (vec_step HR9.out hb)
   have HA10 := Lib.hid (vec_step HA9.out hb)
   have HB10 := Lib.hid (HB9.out.trans (hb.mono HB9.out.size))
   have HG10 := Lib.hid (vec_step HG9.out hb)
   clear HR9 HA9 HB9 HG9 hb  
   go_wp2_with fail
   refine (CX1.out _).mono ?_
   rintro e y11 ⟨rfl, hb⟩
   have HR11 := Lib.hid (vec_step HR10.out hb)
   have HA11 := Lib.hid (vec_step HA10.out hb)
   have HB11 := Lib.hid (HB10.out.trans (hb.mono HB10.out.size))
   have HG11 := Lib.hid (vec_step HG10.out hb)
   clear HR10 HA10 HB10 HG10 hb  CX1
   go_wp2_with fail
   refine (CX.out _).mono ?_
   rintro e y12 ⟨rfl, hb⟩
   have HR12 := Lib.hid (vec_step HR11.out hb)
   have HA12 := Lib.hid (vec_step HA11.out hb)
   have HB12 := Lib.hid (HB11.out.trans (hb.mono HB11.out.size))
   have HG12 := Lib.hid (vec_step HG11.out hb)
   clear HR11 HA11 HB11 HG11 hb  CX
   go_wp2_with fail
   refine (CNH.out _).mono ?_
   rintro e y13 ⟨rfl, hb⟩
   have HR13 := Lib.hid (vec_step HR12.out hb)
   have HA13 := Lib.hid (vec_step HA12.out hb)
   have HB13 := Lib.hid (HB12.out.trans (hb.mono HB12.out.size))
   have HG13 := Lib.hid (vec_step HG12.out hb)
   clear HR12 HA12 HB12 HG12 hb  CNH
   go_wp2_with fail
   refine (CY1.out _).mono ?_
   rintro e y14 ⟨rfl, hb⟩
   have HR14 := Lib.hid (vec_step HR13.out hb)
   have HA14 := Lib.hid (vec_step HA13.out hb)
   have HB14 := Lib.hid (HB13.out.trans (hb.mono HB13.out.size))
   have HG14 := Lib.hid (vec_step HG13.out hb)
   clear HR13 HA13 HB13 HG13 hb  CY1
   go_wp2_with fail
   refine (CY.out _).mono ?_
   rintro e y15 ⟨rfl, hb⟩
   have HR15 := Lib.hid (vec_step HR14.out hb)
   have HA15 := Lib.hid (vec_step HA14.out hb)
   have HB15 := Lib.hid (HB14.out.trans (hb.mono HB14.out.size))
   have HG15 := Lib.hid (vec_step HG14.out hb)
   clear HR14 HA14 HB14 HG14 hb  CY
   subst hres
   go_wp2_with fail
   go_ret3
   exact ⟨rfl, HB15.out⟩

set_option maxRecDepth 100000 in
set_option maxHeartbeats 16000000 in
theorem rball_any (r : Ry) (b : B4) (hr : r.ok) (hbc : b.c.ok) (hbr : In b.r) (w : World) : Calls Tryz.prog 82 #[rayV r, .agg #[.int .i64 b.c.x, .int .i64 b.c.y, .int .i64 b.c.z, .int .i64 b.r]] w (VTo (ballR (ballH r b)) w) := by
 obtain ⟨g, hg⟩ : ∃ zz, zz = map2 subF r.o b.c := ⟨_, rfl⟩
 obtain ⟨A, hA⟩ : ∃ zz, zz = dotF r.d r.d := ⟨_, rfl⟩
 obtain ⟨h, hh_⟩ : ∃ zz, zz = dotF g r.d := ⟨_, rfl⟩
 obtain ⟨gg, hgg⟩ : ∃ zz, zz = dotF g g := ⟨_, rfl⟩
 obtain ⟨rr, hrr⟩ : ∃ zz, zz = mulF b.r b.r := ⟨_, rfl⟩
 obtain ⟨C, hC⟩ : ∃ zz, zz = subF gg rr := ⟨_, rfl⟩
 obtain ⟨hh, hhh⟩ : ∃ zz, zz = mulF h h := ⟨_, rfl⟩
 obtain ⟨ac, hac⟩ : ∃ zz, zz = mulF A C := ⟨_, rfl⟩
 obtain ⟨W, hW⟩ : ∃ zz, zz = subF hh ac := ⟨_, rfl⟩
 obtain ⟨rt, hrt⟩ : ∃ zz, zz = sqrtF W := ⟨_, rfl⟩
 obtain ⟨nh, hnh⟩ : ∃ zz, zz = negF h := ⟨_, rfl⟩
 obtain ⟨x1, hx1⟩ : ∃ zz, zz = subF nh rt := ⟨_, rfl⟩
 obtain ⟨X, hX⟩ : ∃ zz, zz = divF x1 A := ⟨_, rfl⟩
 obtain ⟨y1, hy1⟩ : ∃ zz, zz = addF nh rt := ⟨_, rfl⟩
 obtain ⟨Y, hY⟩ : ∃ zz, zz = divF y1 A := ⟨_, rfl⟩
 have HE : Hid (ballH r b = if A = 0 ∨ W < 0 then none else some (X, Y)) := Lib.hid (by
  have e1 : ballA r = A := hA.symm
  have e2 : ballHh r b = h := by unfold ballHh; rw [← hg, ← hh_]
  have e3 : ballC r b = C := by unfold ballC; rw [← hg, ← hgg, ← hrr, ← hC]
  have e4 : ballW r b = W := by unfold ballW; rw [e1, e2, e3, ← hhh, ← hac, ← hW]
  have e5 : ballX r b = X := by unfold ballX; rw [e1, e2, e4, ← hnh, ← hrt, ← hx1, ← hX]
  have e6 : ballY r b = Y := by unfold ballY; rw [e1, e2, e4, ← hnh, ← hrt, ← hy1, ← hY]
  unfold ballH
  rw [e1, e4, e5, e6])
 generalize ballH r b = res at HE ⊢
 have og : g.ok := by rw [hg]; exact ok_map2sub _ _
 have iA : In A := by rw [hA]; exact in_dot _ _
 have ih : In h := by rw [hh_]; exact in_dot _ _
 have igg : In gg := by rw [hgg]; exact in_dot _ _
 have irr : In rr := by rw [hrr]; exact in_mul _ _
 have iC : In C := by rw [hC]; exact in_sub _ _
 have ihh : In hh := by rw [hhh]; exact in_mul _ _
 have iac : In ac := by rw [hac]; exact in_mul _ _
 have iW : In W := by rw [hW]; exact in_sub _ _
 have irt : In rt := by rw [hrt]; exact in_sqrt iW
 have inh : In nh := by rw [hnh]; exact in_neg _
 have ix1 : In x1 := by rw [hx1]; exact in_sub _ _
 have iy1 : In y1 := by rw [hy1]; exact in_add _ _
 obtain ⟨⟨oX, oY, oZ⟩, ⟨dX, dY, dZ⟩⟩ := r
 obtain ⟨⟨cX, cY, cZ⟩, br⟩ := b
 dsimp only at *
 have CG : Hid (∀ w, Calls Tryz.prog 97 #[vecV ⟨oX, oY, oZ⟩, vecV ⟨cX, cY, cZ⟩] w (VTo (vecV g) w)) := Lib.hid (fun w => by have := vrsub_any ⟨oX, oY, oZ⟩ ⟨cX, cY, cZ⟩ hr.1 hbc w; rw [← hg] at this; exact this)
 have CA : Hid (∀ w, Calls Tryz.prog 99 #[vecV ⟨dX, dY, dZ⟩, vecV ⟨dX, dY, dZ⟩] w (VTo (.int .i64 A) w)) := Lib.hid (fun w => by have := vrdot_any ⟨dX, dY, dZ⟩ ⟨dX, dY, dZ⟩ hr.2 hr.2 w; rw [← hA] at this; exact this)
 have CH : Hid (∀ w, Calls Tryz.prog 99 #[vecV g, vecV ⟨dX, dY, dZ⟩] w (VTo (.int .i64 h) w)) := Lib.hid (fun w => by have := vrdot_any g ⟨dX, dY, dZ⟩ og hr.2 w; rw [← hh_] at this; exact this)
 have CGG : Hid (∀ w, Calls Tryz.prog 99 #[vecV g, vecV g] w (VTo (.int .i64 gg) w)) := Lib.hid (fun w => by have := vrdot_any g g og og w; rw [← hgg] at this; exact this)
 have CRR : Hid (∀ w, Calls Tryz.prog 100 #[.int .i64 br, .int .i64 br] w (VTo (.int .i64 rr) w)) := Lib.hid (fun w => by have := same_below (rmul_any br br hbr.1 hbr.2 hbr.1 hbr.2 w); rw [← hrr] at this; exact this)
 have CC : Hid (∀ w, Calls Tryz.prog 69 #[.int .i64 gg, .int .i64 rr] w (VTo (.int .i64 C) w)) := Lib.hid (fun w => by have := same_below (rsub_any gg rr igg.1 igg.2 irr.1 irr.2 w); rw [← hC] at this; exact this)
 have CHH : Hid (∀ w, Calls Tryz.prog 100 #[.int .i64 h, .int .i64 h] w (VTo (.int .i64 hh) w)) := Lib.hid (fun w => by have := same_below (rmul_any h h ih.1 ih.2 ih.1 ih.2 w); rw [← hhh] at this; exact this)
 have CAC : Hid (∀ w, Calls Tryz.prog 100 #[.int .i64 A, .int .i64 C] w (VTo (.int .i64 ac) w)) := Lib.hid (fun w => by have := same_below (rmul_any A C iA.1 iA.2 iC.1 iC.2 w); rw [← hac] at this; exact this)
 have CW : Hid (∀ w, Calls Tryz.prog 69 #[.int .i64 hh, .int .i64 ac] w (VTo (.int .i64 W) w)) := Lib.hid (fun w => by have := same_below (rsub_any hh ac ihh.1 ihh.2 iac.1 iac.2 w); rw [← hW] at this; exact this)
 have CRT : Hid (∀ w, Calls Tryz.prog 101 #[.int .i64 W] w (VTo (.int .i64 rt) w)) := Lib.hid (fun w => by have := same_below (rsqrt_any W iW.1 iW.2 w); rw [← hrt] at this; exact this)
 have CNH : Hid (∀ w, Calls Tryz.prog 102 #[.int .i64 h] w (VTo (.int .i64 nh) w)) := Lib.hid (fun w => by have := same_below (rneg_any h ih.1 ih.2 w); rw [← hnh] at this; exact this)
 have CX1 : Hid (∀ w, Calls Tryz.prog 69 #[.int .i64 nh, .int .i64 rt] w (VTo (.int .i64 x1) w)) := Lib.hid (fun w => by have := same_below (rsub_any nh rt inh.1 inh.2 irt.1 irt.2 w); rw [← hx1] at this; exact this)
 have CX : Hid (∀ w, Calls Tryz.prog 78 #[.int .i64 x1, .int .i64 A] w (VTo (.int .i64 X) w)) := Lib.hid (fun w => by have := same_below (rdiv_any x1 A ix1.1 ix1.2 iA.1 iA.2 w); rw [← hX] at this; exact this)
 have CY1 : Hid (∀ w, Calls Tryz.prog 70 #[.int .i64 nh, .int .i64 rt] w (VTo (.int .i64 y1) w)) := Lib.hid (fun w => by have := same_below (radd_any nh rt inh.1 inh.2 irt.1 irt.2 w); rw [← hy1] at this; exact this)
 have CY : Hid (∀ w, Calls Tryz.prog 78 #[.int .i64 y1, .int .i64 A] w (VTo (.int .i64 Y) w)) := Lib.hid (fun w => by have := same_below (rdiv_any y1 A iy1.1 iy1.2 iA.1 iA.2 w); rw [← hY] at this; exact this)
 clear hg hA hh_ hgg hrr hC hhh hac hW hrt hnh hx1 hX hy1 hY og iA ih igg irr iC ihh iac iW irt inh ix1 iy1 hr hbc hbr
 obtain ⟨gX, gY, gZ⟩ := g
 dsimp only [vecV, rayV] at *
 obtain ⟨W0, hW0⟩ : ∃ W, W = (w.alloc (.cells #[.int .i64 oX, .int .i64 oY, .int .i64 oZ, .int .i64 dX, .int .i64 dY, .int .i64 dZ] 48)).alloc (.cells #[.int .i64 cX, .int .i64 cY, .int .i64 cZ, .int .i64 br] 51) := ⟨_, rfl⟩
 have hR : W0.heap[w.heap.size]? = some (.cells #[.int .i64 oX, .int .i64 oY, .int .i64 oZ, .int .i64 dX, .int .i64 dY, .int .i64 dZ] 48) := by rw [hW0]; exact alloc2_0 _ _ _
 have hBa : W0.heap[w.heap.size + 1]? = some (.cells #[.int .i64 cX, .int .i64 cY, .int .i64 cZ, .int .i64 br] 51) := by rw [hW0]; exact alloc2_1 _ _ _
 have hB : Below w.heap.size w W0 := by rw [hW0]; exact alloc2_below _ _ _
 have HR0 := Lib.hid hR
 have HA0 := Lib.hid hBa
 have HB0 := Lib.hid hB
 have HWW := Lib.hid hW0
 clear hR hBa hB hW0
 go_enter Tryz.func82, Tryz.ntmps82
 go_upto_region 1 with (fail)
 rw [← HWW.out]
 clear HWW
 have cHR0 := cell_row HR0.out 0 _ rfl
 have cHR1 := cell_row HR0.out 1 _ rfl
 have cHR2 := cell_row HR0.out 2 _ rfl
 have cHA0 := cell_row HA0.out 0 _ rfl
 have cHA1 := cell_row HA0.out 1 _ rfl
 have cHA2 := cell_row HA0.out 2 _ rfl
 go_wp2_with fail
 refine (CG.out _).mono ?_
 rintro e y16 ⟨rfl, hb⟩
 have HR1 := Lib.hid (vec_step HR0.out hb)
 have HA1 := Lib.hid (vec_step HA0.out hb)
 have HB1 := Lib.hid (HB0.out.trans (hb.mono HB0.out.size))
 clear HR0 HA0 HB0 hb cHR0 cHR1 cHR2 cHA0 cHA1 cHA2 CG
 go_upto_region 2 with (fail)
 have hx := ext_alloc y16 (.cells #[.int .i64 gX, .int .i64 gY, .int .i64 gZ] 46)
 have hn := heap_alloc_new y16 (.cells #[.int .i64 gX, .int .i64 gY, .int .i64 gZ] 46)
 obtain ⟨y17, hW⟩ : ∃ W, W = y16.alloc (.cells #[.int .i64 gX, .int .i64 gY, .int .i64 gZ] 46) := ⟨_, rfl⟩
 rw [← hW] at hx hn ⊢
 clear hW
 have HR2 := Lib.hid (vec_step HR1.out hx)
 have HA2 := Lib.hid (vec_step HA1.out hx)
 have HB2 := Lib.hid (HB1.out.trans (hx.mono HB1.out.size))
 clear HR1 HA1 HB1 hx  
 have HG2 := Lib.hid (hn)
 clear hn
 generalize y16.heap.size = gHG at HG2 ⊢
 have cHR3 := cell_row HR2.out 3 _ rfl
 have cHR4 := cell_row HR2.out 4 _ rfl
 have cHR5 := cell_row HR2.out 5 _ rfl
 go_wp2_with fail
 refine (CA.out _).mono ?_
 rintro e y18 ⟨rfl, hb⟩
 have HR3 := Lib.hid (vec_step HR2.out hb)
 have HA3 := Lib.hid (vec_step HA2.out hb)
 have HB3 := Lib.hid (HB2.out.trans (hb.mono HB2.out.size))
 have HG3 := Lib.hid (vec_step HG2.out hb)
 clear HR2 HA2 HB2 HG2 hb cHR3 cHR4 cHR5 CA
 have cHG0 := cell_row HG3.out 0 _ rfl
 have cHG1 := cell_row HG3.out 1 _ rfl
 have cHG2 := cell_row HG3.out 2 _ rfl
 have cHR3 := cell_row HR3.out 3 _ rfl
 have cHR4 := cell_row HR3.out 4 _ rfl
 have cHR5 := cell_row HR3.out 5 _ rfl
 go_wp2_with fail
 refine (CH.out _).mono ?_
 rintro e y19 ⟨rfl, hb⟩
 have HR4 := Lib.hid (vec_step HR3.out hb)
 have HA4 := Lib.hid (vec_step HA3.out hb)
 have HB4 := Lib.hid (HB3.out.trans (hb.mono HB3.out.size))
 have HG4 := Lib.hid (vec_step HG3.out hb)
 clear HR3 HA3 HB3 HG3 hb cHG0 cHG1 cHG2 cHR3 cHR4 cHR5 CH
 go_upto_region 4 with (fail)
 have Q1 := Lib.hid (qb (P := Tryz.prog) (W := y19) (fun w2 hb => CGG.out w2))
 have Q2 := Lib.hid (qb (P := Tryz.prog) (W := y19) (fun w2 hb => CRR.out w2))
 have Q3 := Lib.hid (qb (P := Tryz.prog) (W := y19) (fun w2 hb => CC.out w2))
 have fHG0 := fun d os => cell_regrown (cell_row HG4.out 0 _ rfl) d os
 have fHG1 := fun d os => cell_regrown (cell_row HG4.out 1 _ rfl) d os
 have fHG2 := fun d os => cell_regrown (cell_row HG4.out 2 _ rfl) d os
 have fHA3 := fun d os => cell_regrown (cell_row HA4.out 3 _ rfl) d os
 refine wp_region_quiet_below (by kernel_rfl) (by kernel_rfl) ?_
 repeat (go_big_quiet_step (first | (with_reducible exact Q1.out _ _) | (with_reducible exact Q2.out _ _) | (with_reducible exact Q3.out _ _)))
 refine wpQuiet_nil ?_
 first | (rintro _ ⟨⟨dq, osq⟩, rfl⟩) | (rintro ⟨dq, osq⟩)
 have hb := below_regrown y19 dq osq
 obtain ⟨y20, hW⟩ : ∃ W, W = grow (redrawn y19 dq) osq := ⟨_, rfl⟩
 rw [← hW] at hb ⊢
 clear hW
 have HR5 := Lib.hid (vec_step HR4.out hb)
 have HA5 := Lib.hid (vec_step HA4.out hb)
 have HB5 := Lib.hid (HB4.out.trans (hb.mono HB4.out.size))
 have HG5 := Lib.hid (vec_step HG4.out hb)
 clear HR4 HA4 HB4 HG4 hb  fHG0 fHG1 fHG2 fHA3
 clear Q1 Q2 Q3 CGG CRR CC
 go_wp2_with fail
 refine (CHH.out _).mono ?_
 rintro e y21 ⟨rfl, hb⟩
 have HR6 := Lib.hid (vec_step HR5.out hb)
 have HA6 := Lib.hid (vec_step HA5.out hb)
 have HB6 := Lib.hid (HB5.out.trans (hb.mono HB5.out.size))
 have HG6 := Lib.hid (vec_step HG5.out hb)
 clear HR5 HA5 HB5 HG5 hb  CHH
 go_wp2_with fail
 refine (CAC.out _).mono ?_
 rintro e y22 ⟨rfl, hb⟩
 have HR7 := Lib.hid (vec_step HR6.out hb)
 have HA7 := Lib.hid (vec_step HA6.out hb)
 have HB7 := Lib.hid (HB6.out.trans (hb.mono HB6.out.size))
 have HG7 := Lib.hid (vec_step HG6.out hb)
 clear HR6 HA6 HB6 HG6 hb  CAC
 go_wp2_with fail
 refine (CW.out _).mono ?_
 rintro e y23 ⟨rfl, hb⟩
 have HR8 := Lib.hid (vec_step HR7.out hb)
 have HA8 := Lib.hid (vec_step HA7.out hb)
 have HB8 := Lib.hid (HB7.out.trans (hb.mono HB7.out.size))
 have HG8 := Lib.hid (vec_step HG7.out hb)
 clear HR7 HA7 HB7 HG7 hb  CW
 by_cases hA0 : A = 0
 ·
  have dA : decide (A = 0) = true := decide_eq_true hA0
  have dA2 : (A == 0) = true := by simp [hA0]
  have hres : res = none := by rw [HE.out, if_pos (.inl hA0)]
  subst hres
  go_wp2_with fail
  go_ret3
  exact ⟨rfl, HB8.out⟩
 ·
  have dA : decide (A = 0) = false := decide_eq_false hA0
  have dA2 : (A == 0) = false := by simp [hA0]
  by_cases hW0 : W < 0
  ·
   have dW : decide (W < 0) = true := decide_eq_true hW0
   have hres : res = none := by rw [HE.out, if_pos (.inr hW0)]
   subst hres
   go_wp2_with fail
   go_ret3
   exact ⟨rfl, HB8.out⟩
  ·
   have dW : decide (W < 0) = false := decide_eq_false hW0
   have hres : res = some (X, Y) := by rw [HE.out, if_neg (by omega)]
   go_wp2_with fail
   refine (CRT.out _).mono ?_
   rintro e y24 ⟨rfl, hb⟩
   have HR9 := Lib.hid (vec_step HR8.out hb)
   have HA9 := Lib.hid (vec_step HA8.out hb)
   have HB9 := Lib.hid (HB8.out.trans (hb.mono HB8.out.size))
   have HG9 := Lib.hid (vec_step HG8.out hb)
   clear HR8 HA8 HB8 HG8 hb  CRT
   go_wp2_with fail
   refine (CNH.out _).mono ?_
   rintro e y25 ⟨rfl, hb⟩
   have HR10 := Lib.hid (vec_step HR9.out hb)
   have HA10 := Lib.hid (vec_step HA9.out hb)
   have HB10 := Lib.hid (HB9.out.trans (hb.mono HB9.out.size))
   have HG10 := Lib.hid (vec_step HG9.out hb)
   clear HR9 HA9 HB9 HG9 hb  
   go_wp2_with fail
   refine (CX1.out _).mono ?_
   rintro e y26 ⟨rfl, hb⟩
   have HR11 := Lib.hid (vec_step HR10.out hb)
   have HA11 := Lib.hid (vec_step HA10.out hb)
   have HB11 := Lib.hid (HB10.out.trans (hb.mono HB10.out.size))
   have HG11 := Lib.hid (vec_step HG10.out hb)
   clear HR10 HA10 HB10 HG10 hb  CX1
   go_wp2_with fail
   refine (CX.out _).mono ?_
   rintro e y27 ⟨rfl, hb⟩
   have HR12 := Lib.hid (vec_step HR11.out hb)
   have HA12 := Lib.hid (vec_step HA11.out hb)
   have HB12 := Lib.hid (HB11.out.trans (hb.mono HB11.out.size))
   have HG12 := Lib.hid (vec_step HG11.out hb)
   clear HR11 HA11 HB11 HG11 hb  CX
   go_wp2_with fail
   refine (CNH.out _).mono ?_
   rintro e y28 ⟨rfl, hb⟩
   have HR13 := Lib.hid (vec_step HR12.out hb)
   have HA13 := Lib.hid (vec_step HA12.out hb)
   have HB13 := Lib.hid (HB12.out.trans (hb.mono HB12.out.size))
   have HG13 := Lib.hid (vec_step HG12.out hb)
   clear HR12 HA12 HB12 HG12 hb  CNH
   go_wp2_with fail
   refine (CY1.out _).mono ?_
   rintro e y29 ⟨rfl, hb⟩
   have HR14 := Lib.hid (vec_step HR13.out hb)
   have HA14 := Lib.hid (vec_step HA13.out hb)
   have HB14 := Lib.hid (HB13.out.trans (hb.mono HB13.out.size))
   have HG14 := Lib.hid (vec_step HG13.out hb)
   clear HR13 HA13 HB13 HG13 hb  CY1
   go_wp2_with fail
   refine (CY.out _).mono ?_
   rintro e y30 ⟨rfl, hb⟩
   have HR15 := Lib.hid (vec_step HR14.out hb)
   have HA15 := Lib.hid (vec_step HA14.out hb)
   have HB15 := Lib.hid (HB14.out.trans (hb.mono HB14.out.size))
   have HG15 := Lib.hid (vec_step HG14.out hb)
   clear HR14 HA14 HB14 HG14 hb  CY
   subst hres
   go_wp2_with fail
   go_ret3
   exact ⟨rfl, HB15.out⟩

end Go.Proofs.YtdaokkgenfpmhaaGreat.HitB

/- The walk of hit.Box. -/
set_option linter.unusedVariables false
set_option linter.unusedSimpArgs false
namespace Go.Proofs.YtdaokkgenfpmhaaGreat.HitX
open Go.RowKit Go.Sort FixM Base Num FixW FixV FixU FixS FixO FixN FixK Qb Qt Qa Qf VecW VecV VecU VecR LightQ LightC MeshM MeshA MeshC MeshD MeshP HitM HitT
def sideOk (d : Int) (x : Option (Int × Int)) : Bool := match x with
 | none => false
 | some s => if d = 0 then true else decide (s.1 ≤ s.2)
/-- what the closure leaves -/
structure Sd (w w' : World) (g1 g2 : Nat) (s : Int × Int) : Prop where
 h1 : w'.heap[g1]? = some (.cells #[.int .i64 s.1] 2)
 h2 : w'.heap[g2]? = some (.cells #[.int .i64 s.2] 2)
 k : Keeps (fun j => j = g1 ∨ j = g2) w w'
theorem max2_at {x y n : Int} (h : n = maxI x y) (ts : Array TypeId) (t : TypeId) (w : World) : (Builtin.max_ ts t #[.int .i64 x, .int .i64 y]).run Tryz.prog w = .ok (.int .i64 n) w := by
 rw [h]; simp [Builtin.max_, Builtin.max2, maxI]
theorem min2_at {x y n : Int} (h : n = minI x y) (ts : Array TypeId) (t : TypeId) (w : World) : (Builtin.min_ ts t #[.int .i64 x, .int .i64 y]).run Tryz.prog w = .ok (.int .i64 n) w := by
 rw [h]; simp [Builtin.min_, Builtin.min2, minI]

set_option maxRecDepth 100000 in
set_option maxHeartbeats 8000000 in
theorem side_any (w : World) (g1 g2 : Nat) (n f o d lo hi : Int) (h1 : w.heap[g1]? = some (.cells #[.int .i64 n] 2)) (h2 : w.heap[g2]? = some (.cells #[.int .i64 f] 2)) (hne : g1 ≠ g2) (io : In o) (id' : In d) (il : In lo) (ih : In hi) :
  Calls Tryz.prog 50 #[.int .i64 o, .int .i64 d, .int .i64 lo, .int .i64 hi, .pointer (some ⟨g1, 0, none⟩), .pointer (some ⟨g2, 0, none⟩)] w (fun e w' => e = .returned (.bool (sideOk d (sideF o d lo hi (n, f)))) ∧ Sd w w' g1 g2 ((sideF o d lo hi (n, f)).getD (n, f))) := by
 by_cases hd : d = 0
 ·
  have dd : decide (d = 0) = true := decide_eq_true hd
  have dd2 : (d == 0) = true := by simp [hd]
  have HS : sideF o d lo hi (n, f) = if lo ≤ o ∧ o ≤ hi then some (n, f) else none := by unfold sideF; rw [if_pos hd]
  have HK := Lib.hid (show Sd w w g1 g2 (n, f) from ⟨h1, h2, Keeps.refl _ _⟩)
  by_cases a1 : lo ≤ o
  ·
   have da : decide (lo ≤ o) = true := decide_eq_true a1
   by_cases a2 : o ≤ hi
   ·
    have db : decide (o ≤ hi) = true := decide_eq_true a2
    rw [HS, if_pos ⟨a1, a2⟩]
    have HE : sideOk d (some (n, f)) = true := if_pos hd
    rw [HE]
    clear HS HE h1 h2 a1 a2 hd io id' il ih
    go_enter Tryz.func50, Tryz.ntmps50
    go_wp2_with fail
    go_ret
    exact ⟨rfl, HK.out⟩
   ·
    have db : decide (o ≤ hi) = false := decide_eq_false a2
    rw [HS, if_neg (fun h => a2 h.2)]
    clear HS h1 h2 a1 a2 hd io id' il ih
    go_enter Tryz.func50, Tryz.ntmps50
    go_wp2_with fail
    go_ret
    exact ⟨rfl, HK.out⟩
  ·
   have da : decide (lo ≤ o) = false := decide_eq_false a1
   rw [HS, if_neg (fun h => a1 h.1)]
   clear HS h1 h2 a1 hd io id' il ih
   go_enter Tryz.func50, Tryz.ntmps50
   go_wp2_with fail
   go_ret
   exact ⟨rfl, HK.out⟩
 have dd : decide (d = 0) = false := decide_eq_false hd
 have dd2 : (d == 0) = false := by simp [hd]
 obtain ⟨a1, ha1⟩ : ∃ zz, zz = subF lo o := ⟨_, rfl⟩
 obtain ⟨a2, ha2⟩ : ∃ zz, zz = subF hi o := ⟨_, rfl⟩
 obtain ⟨x0, hx0⟩ : ∃ zz, zz = divF a1 d := ⟨_, rfl⟩
 obtain ⟨y0, hy0⟩ : ∃ zz, zz = divF a2 d := ⟨_, rfl⟩
 have ia1 : In a1 := by rw [ha1]; exact in_sub _ _
 have ia2 : In a2 := by rw [ha2]; exact in_sub _ _
 have C1 : Hid (∀ w, Calls Tryz.prog 40 #[.int .i64 lo, .int .i64 o] w (VTo (.int .i64 a1) w)) := Lib.hid (fun w => by have := same_below (sub_any lo o il.1 il.2 io.1 io.2 w); rw [← ha1] at this; exact this)
 have C2 : Hid (∀ w, Calls Tryz.prog 40 #[.int .i64 hi, .int .i64 o] w (VTo (.int .i64 a2) w)) := Lib.hid (fun w => by have := same_below (sub_any hi o ih.1 ih.2 io.1 io.2 w); rw [← ha2] at this; exact this)
 have C3 : Hid (∀ w, Calls Tryz.prog 51 #[.int .i64 a1, .int .i64 d] w (VTo (.int .i64 x0) w)) := Lib.hid (fun w => by have := drawn_below (div_any a1 d ia1.1 ia1.2 id'.1 id'.2 w); rw [← hx0] at this; exact this)
 have C4 : Hid (∀ w, Calls Tryz.prog 51 #[.int .i64 a2, .int .i64 d] w (VTo (.int .i64 y0) w)) := Lib.hid (fun w => by have := drawn_below (div_any a2 d ia2.1 ia2.2 id'.1 id'.2 w); rw [← hy0] at this; exact this)
 have HF : Hid (sideF o d lo hi (n, f) = some (maxI n (if d < 0 then y0 else x0), minI f (if d < 0 then x0 else y0))) := Lib.hid (by
  unfold sideF loF hiF
  rw [if_neg hd, ← ha1, ← ha2, ← hx0, ← hy0])
 have HD := Lib.hid hd
 clear ha1 ha2 hx0 hy0 ia1 ia2 io id' il ih hd
 have HG1_0 := Lib.hid h1
 have HB0 := Lib.hid h2
 have HN := Lib.hid hne
 clear h1 h2 hne
 by_cases hd0 : d < 0
 ·
  have dn : decide (d < 0) = true := decide_eq_true hd0
  obtain ⟨n2, hn2⟩ : ∃ zz, zz = maxI n y0 := ⟨_, rfl⟩
  obtain ⟨f2, hf2⟩ : ∃ zz, zz = minI f x0 := ⟨_, rfl⟩
  have MX := max2_at hn2
  have MN := min2_at hf2
  have HR : sideF o d lo hi (n, f) = some (n2, f2) := by rw [HF.out, if_pos hd0, if_pos hd0, ← hn2, ← hf2]
  have HO : sideOk d (some (n2, f2)) = decide (n2 ≤ f2) := if_neg HD.out
  rw [HR, HO]
  clear hn2 hf2 HR HO HF HD hd0
  obtain ⟨rs, hrs⟩ : ∃ zz, zz = decide (n2 ≤ f2) := ⟨_, rfl⟩
  have dr : decide (n2 ≤ f2) = rs := hrs.symm
  rw [← hrs]
  clear hrs
  have HX0 := HG1_0
  have HY0 := HB0
  have HBW0 := Lib.hid (Below.refl w.heap.size w)
  clear HG1_0 HB0
  go_enter Tryz.func50, Tryz.ntmps50
  go_wp2_with fail
  refine (C1.out _).mono ?_
  rintro e y1 ⟨rfl, hb⟩
  have HX1 := Lib.hid (vec_step HX0.out hb)
  have HY1 := Lib.hid (vec_step HY0.out hb)
  have HBW1 := Lib.hid (HBW0.out.trans (hb.mono HBW0.out.size))
  clear HX0 HY0 HBW0 hb  C1
  go_wp2_with fail
  refine (C3.out _).mono ?_
  rintro e y2 ⟨rfl, hb⟩
  have HX2 := Lib.hid (vec_step HX1.out hb)
  have HY2 := Lib.hid (vec_step HY1.out hb)
  have HBW2 := Lib.hid (HBW1.out.trans (hb.mono HBW1.out.size))
  clear HX1 HY1 HBW1 hb  C3
  go_wp2_with fail
  refine (C2.out _).mono ?_
  rintro e y3 ⟨rfl, hb⟩
  have HX3 := Lib.hid (vec_step HX2.out hb)
  have HY3 := Lib.hid (vec_step HY2.out hb)
  have HBW3 := Lib.hid (HBW2.out.trans (hb.mono HBW2.out.size))
  clear HX2 HY2 HBW2 hb  C2
  go_wp2_with fail
  refine (C4.out _).mono ?_
  rintro e y4 ⟨rfl, hb⟩
  have HX4 := Lib.hid (vec_step HX3.out hb)
  have HY4 := Lib.hid (vec_step HY3.out hb)
  have HBW4 := Lib.hid (HBW3.out.trans (hb.mono HBW3.out.size))
  clear HX3 HY3 HBW3 hb  C4
  go_upto_region 6 with (fail)
  have c1 := cell_row HX4.out 0 (.int .i64 n) rfl
  have c2 := cell_row HY4.out 0 (.int .i64 f) rfl
  have t1 := frozen_of_row _ _ 0 _ _ HX4.out
  have t2 := frozen_of_row _ _ 0 _ _ HY4.out
  have ne := HN.out
  have ne2 : g2 ≠ g1 := Ne.symm HN.out
  go_region
  have e2 : ((y4.setCell ⟨g1, 0, none⟩ (.int .i64 n2)).setCell ⟨g2, 0, none⟩ (.int .i64 f2)).heap[g2]? = some (.cells #[.int .i64 f2] 2) := heap_setCell_same _ _ _ _ _ _ ((heap_setCell_other _ _ _ _ (show g2 ≠ g1 from ne2)).trans HY4.out)
  have e1 : ((y4.setCell ⟨g1, 0, none⟩ (.int .i64 n2)).setCell ⟨g2, 0, none⟩ (.int .i64 f2)).heap[g1]? = some (.cells #[.int .i64 n2] 2) := (heap_setCell_other _ _ _ _ (show g1 ≠ g2 from ne)).trans (heap_setCell_same _ _ _ _ _ _ HX4.out)
  have ek : Keeps (fun j => j = g1 ∨ j = g2) w ((y4.setCell ⟨g1, 0, none⟩ (.int .i64 n2)).setCell ⟨g2, 0, none⟩ (.int .i64 f2)) := ((Keeps.of_ext HBW4.out _).setCell g1 0 _ (.inl (.inl rfl))).setCell g2 0 _ (.inl (.inr rfl))
  have HS := Lib.hid (show Sd w ((y4.setCell ⟨g1, 0, none⟩ (.int .i64 n2)).setCell ⟨g2, 0, none⟩ (.int .i64 f2)).drew g1 g2 (n2, f2) from ⟨e1, e2, ⟨ek.os, ek.tape, ek.output, ek.size, ek.block⟩⟩)
  obtain ⟨W5, hW5⟩ : ∃ W, W = ((y4.setCell ⟨g1, 0, none⟩ (.int .i64 n2)).setCell ⟨g2, 0, none⟩ (.int .i64 f2)).drew := ⟨_, rfl⟩
  rw [← hW5] at HS ⊢
  clear hW5 e1 e2 ek c1 c2 t1 t2 ne ne2 MX MN
  have c1 := cell_row HS.out.h1 0 (.int .i64 n2) rfl
  have c2 := cell_row HS.out.h2 0 (.int .i64 f2) rfl
  go_wp2_with fail
  go_ret
  exact ⟨rfl, HS.out⟩
 ·
  have dn : decide (d < 0) = false := decide_eq_false hd0
  obtain ⟨n2, hn2⟩ : ∃ zz, zz = maxI n x0 := ⟨_, rfl⟩
  obtain ⟨f2, hf2⟩ : ∃ zz, zz = minI f y0 := ⟨_, rfl⟩
  have MX := max2_at hn2
  have MN := min2_at hf2
  have HR : sideF o d lo hi (n, f) = some (n2, f2) := by rw [HF.out, if_neg hd0, if_neg hd0, ← hn2, ← hf2]
  have HO : sideOk d (some (n2, f2)) = decide (n2 ≤ f2) := if_neg HD.out
  rw [HR, HO]
  clear hn2 hf2 HR HO HF HD hd0
  obtain ⟨rs, hrs⟩ : ∃ zz, zz = decide (n2 ≤ f2) := ⟨_, rfl⟩
  have dr : decide (n2 ≤ f2) = rs := hrs.symm
  rw [← hrs]
  clear hrs
  have HX0 := HG1_0
  have HY0 := HB0
  have HBW0 := Lib.hid (Below.refl w.heap.size w)
  clear HG1_0 HB0
  go_enter Tryz.func50, Tryz.ntmps50
  go_wp2_with fail
  refine (C1.out _).mono ?_
  rintro e y5 ⟨rfl, hb⟩
  have HX1 := Lib.hid (vec_step HX0.out hb)
  have HY1 := Lib.hid (vec_step HY0.out hb)
  have HBW1 := Lib.hid (HBW0.out.trans (hb.mono HBW0.out.size))
  clear HX0 HY0 HBW0 hb  C1
  go_wp2_with fail
  refine (C3.out _).mono ?_
  rintro e y6 ⟨rfl, hb⟩
  have HX2 := Lib.hid (vec_step HX1.out hb)
  have HY2 := Lib.hid (vec_step HY1.out hb)
  have HBW2 := Lib.hid (HBW1.out.trans (hb.mono HBW1.out.size))
  clear HX1 HY1 HBW1 hb  C3
  go_wp2_with fail
  refine (C2.out _).mono ?_
  rintro e y7 ⟨rfl, hb⟩
  have HX3 := Lib.hid (vec_step HX2.out hb)
  have HY3 := Lib.hid (vec_step HY2.out hb)
  have HBW3 := Lib.hid (HBW2.out.trans (hb.mono HBW2.out.size))
  clear HX2 HY2 HBW2 hb  C2
  go_wp2_with fail
  refine (C4.out _).mono ?_
  rintro e y8 ⟨rfl, hb⟩
  have HX4 := Lib.hid (vec_step HX3.out hb)
  have HY4 := Lib.hid (vec_step HY3.out hb)
  have HBW4 := Lib.hid (HBW3.out.trans (hb.mono HBW3.out.size))
  clear HX3 HY3 HBW3 hb  C4
  go_upto_region 6 with (fail)
  have c1 := cell_row HX4.out 0 (.int .i64 n) rfl
  have c2 := cell_row HY4.out 0 (.int .i64 f) rfl
  have t1 := frozen_of_row _ _ 0 _ _ HX4.out
  have t2 := frozen_of_row _ _ 0 _ _ HY4.out
  have ne := HN.out
  have ne2 : g2 ≠ g1 := Ne.symm HN.out
  go_region
  have e2 : ((y8.setCell ⟨g1, 0, none⟩ (.int .i64 n2)).setCell ⟨g2, 0, none⟩ (.int .i64 f2)).heap[g2]? = some (.cells #[.int .i64 f2] 2) := heap_setCell_same _ _ _ _ _ _ ((heap_setCell_other _ _ _ _ (show g2 ≠ g1 from ne2)).trans HY4.out)
  have e1 : ((y8.setCell ⟨g1, 0, none⟩ (.int .i64 n2)).setCell ⟨g2, 0, none⟩ (.int .i64 f2)).heap[g1]? = some (.cells #[.int .i64 n2] 2) := (heap_setCell_other _ _ _ _ (show g1 ≠ g2 from ne)).trans (heap_setCell_same _ _ _ _ _ _ HX4.out)
  have ek : Keeps (fun j => j = g1 ∨ j = g2) w ((y8.setCell ⟨g1, 0, none⟩ (.int .i64 n2)).setCell ⟨g2, 0, none⟩ (.int .i64 f2)) := ((Keeps.of_ext HBW4.out _).setCell g1 0 _ (.inl (.inl rfl))).setCell g2 0 _ (.inl (.inr rfl))
  have HS := Lib.hid (show Sd w ((y8.setCell ⟨g1, 0, none⟩ (.int .i64 n2)).setCell ⟨g2, 0, none⟩ (.int .i64 f2)).drew g1 g2 (n2, f2) from ⟨e1, e2, ⟨ek.os, ek.tape, ek.output, ek.size, ek.block⟩⟩)
  obtain ⟨W5, hW5⟩ : ∃ W, W = ((y8.setCell ⟨g1, 0, none⟩ (.int .i64 n2)).setCell ⟨g2, 0, none⟩ (.int .i64 f2)).drew := ⟨_, rfl⟩
  rw [← hW5] at HS ⊢
  clear hW5 e1 e2 ek c1 c2 t1 t2 ne ne2 MX MN
  have c1 := cell_row HS.out.h1 0 (.int .i64 n2) rfl
  have c2 := cell_row HS.out.h2 0 (.int .i64 f2) rfl
  go_wp2_with fail
  go_ret
  exact ⟨rfl, HS.out⟩

theorem keep_cell {S : Nat → Prop} {w w' : World} {g : Nat} {o : Obj} (hk : Keeps S w w') (h : w.heap[g]? = some o) (hn : ¬ S g) : w'.heap[g]? = some o := (hk.block g (Base.lt_of_heap h) hn).trans h
theorem side_less {o d lo hi : Int} {s s' : Int × Int} (h : sideF o d lo hi s = some s') : s.1 ≤ s'.1 ∧ s'.2 ≤ s.2 := by
 unfold sideF at h
 split at h
 ·
  split at h
  ·
   cases h; exact ⟨Int.le_refl _, Int.le_refl _⟩
  ·
   cases h
 ·
  cases h
  unfold maxI minI
  dsimp only
  constructor <;> split <;> omega
theorem side_ok {o d lo hi : Int} {s s' : Int × Int} (hs : s.1 ≤ s.2) (h : sideF o d lo hi s = some s') : sideOk d (some s') = decide (s'.1 ≤ s'.2) := by
 unfold sideOk
 by_cases hd : d = 0
 ·
  unfold sideF at h
  rw [if_pos hd] at h
  split at h
  ·
   cases h
   dsimp only
   rw [if_pos hd, decide_eq_true hs]
  ·
   cases h
 ·
  dsimp only; rw [if_neg hd]
theorem al4 (w : World) (A B C D : Obj) : ((((w.alloc A).alloc B).alloc C).alloc D).heap[w.heap.size]? = some A ∧ ((((w.alloc A).alloc B).alloc C).alloc D).heap[w.heap.size + 1]? = some B ∧ ((((w.alloc A).alloc B).alloc C).alloc D).heap[w.heap.size + 1 + 1]? = some C ∧ ((((w.alloc A).alloc B).alloc C).alloc D).heap[w.heap.size + 1 + 1 + 1]? = some D ∧ Below w.heap.size w ((((w.alloc A).alloc B).alloc C).alloc D) := by
 have hb : ∀ (w : World) (o : Obj), Below w.heap.size w (w.alloc o) := fun w o => ext_alloc w o
 have s1 := MeshQ.al_size w A
 have s2 := MeshQ.al_size (w.alloc A) B
 have s3 := MeshQ.al_size ((w.alloc A).alloc B) C
 have h0 := heap_alloc_new w A
 have h1 := heap_alloc_new (w.alloc A) B
 have h2 := heap_alloc_new ((w.alloc A).alloc B) C
 have h3 := heap_alloc_new (((w.alloc A).alloc B).alloc C) D
 rw [s1] at h1
 rw [s2, s1] at h2
 rw [s3, s2, s1] at h3
 exact ⟨vec_step (vec_step (vec_step h0 (hb _ _)) (hb _ _)) (hb _ _), vec_step (vec_step h1 (hb _ _)) (hb _ _), vec_step h2 (hb _ _), h3,
  ((((hb w A).trans ((hb _ B).mono (hb w A).size)).trans ((hb _ C).mono (by rw [s2, s1]; omega))).trans ((hb _ D).mono (by rw [s3, s2, s1]; omega)))⟩
theorem box_steps (r : Ry) (b : Bx) : boxH r b =
  if sideOk r.d.x (sideF r.o.x r.d.x b.lo.x b.hi.x (0, MOST)) = true then
   (if sideOk r.d.y (sideF r.o.y r.d.y b.lo.y b.hi.y ((sideF r.o.x r.d.x b.lo.x b.hi.x (0, MOST)).getD (0, MOST))) = true then
    (if sideOk r.d.z (sideF r.o.z r.d.z b.lo.z b.hi.z ((sideF r.o.y r.d.y b.lo.y b.hi.y ((sideF r.o.x r.d.x b.lo.x b.hi.x (0, MOST)).getD (0, MOST))).getD ((sideF r.o.x r.d.x b.lo.x b.hi.x (0, MOST)).getD (0, MOST)))) = true then
     some ((sideF r.o.z r.d.z b.lo.z b.hi.z ((sideF r.o.y r.d.y b.lo.y b.hi.y ((sideF r.o.x r.d.x b.lo.x b.hi.x (0, MOST)).getD (0, MOST))).getD ((sideF r.o.x r.d.x b.lo.x b.hi.x (0, MOST)).getD (0, MOST)))).getD ((sideF r.o.y r.d.y b.lo.y b.hi.y ((sideF r.o.x r.d.x b.lo.x b.hi.x (0, MOST)).getD (0, MOST))).getD ((sideF r.o.x r.d.x b.lo.x b.hi.x (0, MOST)).getD (0, MOST)))).1
    else none) else none) else none := by
 unfold boxH
 have m0 : ((0, MOST) : Int × Int).1 ≤ ((0, MOST) : Int × Int).2 := by unfold MOST; decide
 cases h1 : sideF r.o.x r.d.x b.lo.x b.hi.x (0, MOST) with
 | none => simp [sideOk]
 | some s1 =>
  rw [side_ok m0 h1]
  simp only [Option.getD_some, Option.bind_some]
  by_cases o1 : s1.1 ≤ s1.2
  ·
   rw [decide_eq_true o1, if_pos rfl]
   cases h2 : sideF r.o.y r.d.y b.lo.y b.hi.y s1 with
   | none => simp [sideOk]
   | some s2 =>
    rw [side_ok o1 h2]
    simp only [Option.getD_some, Option.bind_some]
    by_cases o2 : s2.1 ≤ s2.2
    ·
     rw [decide_eq_true o2, if_pos rfl]
     cases h3 : sideF r.o.z r.d.z b.lo.z b.hi.z s2 with
     | none => simp [sideOk]
     | some s3 =>
      rw [side_ok o2 h3]
      simp only [Option.getD_some, Option.bind_some]
      by_cases o3 : s3.1 ≤ s3.2
      ·
       rw [decide_eq_true o3, if_pos o3, if_pos rfl]
      ·
       rw [decide_eq_false o3, if_neg o3]; rfl
    ·
     rw [decide_eq_false o2]
     cases h3 : sideF r.o.z r.d.z b.lo.z b.hi.z s2 with
     | none => rfl
     | some s3 =>
      have := side_less h3
      simp only [Option.bind_some]
      rw [if_neg (by omega)]; rfl
  ·
   rw [decide_eq_false o1]
   cases h2 : sideF r.o.y r.d.y b.lo.y b.hi.y s1 with
   | none => rfl
   | some s2 =>
    have l2 := side_less h2
    simp only [Option.bind_some]
    cases h3 : sideF r.o.z r.d.z b.lo.z b.hi.z s2 with
    | none => rfl
    | some s3 =>
     have := side_less h3
     simp only [Option.bind_some]
     rw [if_neg (by omega)]; rfl

set_option maxRecDepth 100000 in
set_option maxHeartbeats 16000000 in
theorem hbox_any (r : Ry) (b : Bx) (hr : r.ok) (hb : Bx.ok b) (w : World) : Calls Tryz.prog 29 #[rayV r, boxV b] w (VTo (boxR (boxH r b)) w) := by
 have HE := Lib.hid (box_steps r b)
 generalize boxH r b = res at HE ⊢
 obtain ⟨⟨oX, oY, oZ⟩, ⟨dX, dY, dZ⟩⟩ := r
 obtain ⟨⟨lX, lY, lZ⟩, ⟨hX, hY, hZ⟩⟩ := b
 dsimp only [rayV, boxV] at *
 obtain ⟨⟨iox, ioy, ioz⟩, idx, idy, idz⟩ := hr
 obtain ⟨⟨ilx, ily, ilz⟩, ihx, ihy, ihz⟩ := hb
 dsimp only at iox ioy ioz idx idy idz ilx ily ilz ihx ihy ihz
 have C1 := Lib.hid (fun w g1 g2 n f h1 h2 hne => side_any w g1 g2 n f oX dX lX hX h1 h2 hne iox idx ilx ihx)
 have C2 := Lib.hid (fun w g1 g2 n f h1 h2 hne => side_any w g1 g2 n f oY dY lY hY h1 h2 hne ioy idy ily ihy)
 have C3 := Lib.hid (fun w g1 g2 n f h1 h2 hne => side_any w g1 g2 n f oZ dZ lZ hZ h1 h2 hne ioz idz ilz ihz)
 clear iox ioy ioz idx idy idz ilx ily ilz ihx ihy ihz
 have E := enters Tryz.func50 (by kernel_rfl) rfl
 have hmf' := hmf
 have HM : Hid (MOST = 9223372036854775807) := Lib.hid rfl
 obtain ⟨hR, hA, hN, hF, hB0⟩ := al4 w (.cells #[.int .i64 oX, .int .i64 oY, .int .i64 oZ, .int .i64 dX, .int .i64 dY, .int .i64 dZ] 48) (.cells #[.int .i64 lX, .int .i64 lY, .int .i64 lZ, .int .i64 hX, .int .i64 hY, .int .i64 hZ] 72) (.cells #[.int .i64 0] 2) (.cells #[.int .i64 9223372036854775807] 2)
 obtain ⟨W, hW⟩ : ∃ W, W = (((w.alloc (.cells #[.int .i64 oX, .int .i64 oY, .int .i64 oZ, .int .i64 dX, .int .i64 dY, .int .i64 dZ] 48)).alloc (.cells #[.int .i64 lX, .int .i64 lY, .int .i64 lZ, .int .i64 hX, .int .i64 hY, .int .i64 hZ] 72)).alloc (.cells #[.int .i64 0] 2)).alloc (.cells #[.int .i64 9223372036854775807] 2) := ⟨_, rfl⟩
 rw [← hW] at hR hA hN hF hB0
 have HR0 := Lib.hid hR
 have HA0 := Lib.hid hA
 have HN0 := Lib.hid hN
 have HF0 := Lib.hid hF
 have HB0 := Lib.hid hB0
 have HWW := Lib.hid hW
 clear hR hA hN hF hB0 hW
 go_enter Tryz.func29, Tryz.ntmps29
 go_upto_region 3 with (fail)
 rw [← HWW.out]
 clear HWW
 rw [HM.out] at HE
 obtain ⟨sd1, hsd1⟩ : ∃ zz, zz = sideF oX dX lX hX (0, 9223372036854775807) := ⟨_, rfl⟩
 obtain ⟨k1, hk1⟩ : ∃ zz, zz = sideOk dX sd1 := ⟨_, rfl⟩
 obtain ⟨⟨n1, f1⟩, hs1⟩ : ∃ zz, zz = sd1.getD (0, 9223372036854775807) := ⟨_, rfl⟩
 obtain ⟨sd2, hsd2⟩ : ∃ zz, zz = sideF oY dY lY hY (n1, f1) := ⟨_, rfl⟩
 obtain ⟨k2, hk2⟩ : ∃ zz, zz = sideOk dY sd2 := ⟨_, rfl⟩
 obtain ⟨⟨n2, f2⟩, hs2⟩ : ∃ zz, zz = sd2.getD (n1, f1) := ⟨_, rfl⟩
 obtain ⟨sd3, hsd3⟩ : ∃ zz, zz = sideF oZ dZ lZ hZ (n2, f2) := ⟨_, rfl⟩
 obtain ⟨k3, hk3⟩ : ∃ zz, zz = sideOk dZ sd3 := ⟨_, rfl⟩
 obtain ⟨⟨n3, f3⟩, hs3⟩ : ∃ zz, zz = sd3.getD (n2, f2) := ⟨_, rfl⟩
 have HE2 : Hid (res = if k1 = true then (if k2 = true then (if k3 = true then some n3 else none) else none) else none) := Lib.hid (by rw [HE.out, ← hsd1, ← hk1, ← hs1, ← hsd2, ← hk2, ← hs2, ← hsd3, ← hk3, ← hs3])
 clear HE HM
 have D1 : Hid (∀ w g1 g2, w.heap[g1]? = some (.cells #[.int .i64 0] 2) → w.heap[g2]? = some (.cells #[.int .i64 9223372036854775807] 2) → g1 ≠ g2 → Calls Tryz.prog 50 #[.int .i64 oX, .int .i64 dX, .int .i64 lX, .int .i64 hX, .pointer (some ⟨g1, 0, none⟩), .pointer (some ⟨g2, 0, none⟩)] w (fun e w' => e = .returned (.bool k1) ∧ Sd w w' g1 g2 (n1, f1))) := Lib.hid (fun w g1 g2 h1 h2 hne => by have := C1.out w g1 g2 _ _ h1 h2 hne; rw [← hsd1, ← hk1, ← hs1] at this; exact this)
 have D2 : Hid (∀ w g1 g2, w.heap[g1]? = some (.cells #[.int .i64 n1] 2) → w.heap[g2]? = some (.cells #[.int .i64 f1] 2) → g1 ≠ g2 → Calls Tryz.prog 50 #[.int .i64 oY, .int .i64 dY, .int .i64 lY, .int .i64 hY, .pointer (some ⟨g1, 0, none⟩), .pointer (some ⟨g2, 0, none⟩)] w (fun e w' => e = .returned (.bool k2) ∧ Sd w w' g1 g2 (n2, f2))) := Lib.hid (fun w g1 g2 h1 h2 hne => by have := C2.out w g1 g2 _ _ h1 h2 hne; rw [← hsd2, ← hk2, ← hs2] at this; exact this)
 have D3 : Hid (∀ w g1 g2, w.heap[g1]? = some (.cells #[.int .i64 n2] 2) → w.heap[g2]? = some (.cells #[.int .i64 f2] 2) → g1 ≠ g2 → Calls Tryz.prog 50 #[.int .i64 oZ, .int .i64 dZ, .int .i64 lZ, .int .i64 hZ, .pointer (some ⟨g1, 0, none⟩), .pointer (some ⟨g2, 0, none⟩)] w (fun e w' => e = .returned (.bool k3) ∧ Sd w w' g1 g2 (n3, f3))) := Lib.hid (fun w g1 g2 h1 h2 hne => by have := C3.out w g1 g2 _ _ h1 h2 hne; rw [← hsd3, ← hk3, ← hs3] at this; exact this)
 clear hsd1 hk1 hs1 hsd2 hk2 hs2 hsd3 hk3 hs3 C1 C2 C3
 have c0 := cell_row HR0.out 0 _ rfl
 have c3 := cell_row HR0.out 3 _ rfl
 have b0 := cell_row HA0.out 0 _ rfl
 have b3 := cell_row HA0.out 3 _ rfl
 go_wp2_with fail
 clear c0 c3 b0 b3
 refine (D1.out _ _ _ HN0.out HF0.out (by omega)).mono ?_
 rintro e x1 ⟨rfl, hsd⟩
 have HR1 := Lib.hid (keep_cell hsd.k HR0.out (fun e => by omega))
 have HA1 := Lib.hid (keep_cell hsd.k HA0.out (fun e => by omega))
 have HN1 := Lib.hid hsd.h1
 have HF1 := Lib.hid hsd.h2
 have HB1 := Lib.hid (HB0.out.trans (hsd.k.below w.heap.size HB0.out.size (fun j hj => by omega)))
 clear hsd HR0 HA0 HN0 HF0 HB0 D1
 cases k1
 ·
  have hres : res = none := by rw [HE2.out]; rfl
  subst hres
  go_wp2_with fail
  go_ret2
  exact ⟨rfl, HB1.out⟩
 ·
  have c1 := cell_row HR1.out 1 _ rfl
  have c4 := cell_row HR1.out 4 _ rfl
  have b1 := cell_row HA1.out 1 _ rfl
  have b4 := cell_row HA1.out 4 _ rfl
  go_wp2_with fail
  clear c1 c4 b1 b4
  refine (D2.out _ _ _ HN1.out HF1.out (by omega)).mono ?_
  rintro e x2 ⟨rfl, hsd⟩
  have HR2 := Lib.hid (keep_cell hsd.k HR1.out (fun e => by omega))
  have HA2 := Lib.hid (keep_cell hsd.k HA1.out (fun e => by omega))
  have HN2 := Lib.hid hsd.h1
  have HF2 := Lib.hid hsd.h2
  have HB2 := Lib.hid (HB1.out.trans (hsd.k.below w.heap.size HB1.out.size (fun j hj => by omega)))
  clear hsd HR1 HA1 HN1 HF1 HB1 D2
  cases k2
  ·
   have hres : res = none := by rw [HE2.out]; rfl
   subst hres
   go_wp2_with fail
   go_ret2
   exact ⟨rfl, HB2.out⟩
  ·
   have c2 := cell_row HR2.out 2 _ rfl
   have c5 := cell_row HR2.out 5 _ rfl
   have b2 := cell_row HA2.out 2 _ rfl
   have b5 := cell_row HA2.out 5 _ rfl
   go_wp2_with fail
   clear c2 c5 b2 b5
   refine (D3.out _ _ _ HN2.out HF2.out (by omega)).mono ?_
   rintro e x3 ⟨rfl, hsd⟩
   have HR3 := Lib.hid (keep_cell hsd.k HR2.out (fun e => by omega))
   have HA3 := Lib.hid (keep_cell hsd.k HA2.out (fun e => by omega))
   have HN3 := Lib.hid hsd.h1
   have HF3 := Lib.hid hsd.h2
   have HB3 := Lib.hid (HB2.out.trans (hsd.k.below w.heap.size HB2.out.size (fun j hj => by omega)))
   clear hsd HR2 HA2 HN2 HF2 HB2 D3
   cases k3
   ·
    have hres : res = none := by rw [HE2.out]; rfl
    subst hres
    go_wp2_with fail
    go_ret2
    exact ⟨rfl, HB3.out⟩
   ·
    have hres : res = some n3 := by rw [HE2.out]; rfl
    subst hres
    have cn := cell_row HN3.out 0 (.int .i64 n3) rfl
    go_wp2_with fail
    go_ret2
    exact ⟨rfl, HB3.out⟩

end Go.Proofs.YtdaokkgenfpmhaaGreat.HitX

/- Which shape of a mesh a ray meets: what layer 13 reckons of meshes. Plain. -/
set_option linter.unusedVariables false
set_option linter.unusedSimpArgs false
namespace Go.Proofs.YtdaokkgenfpmhaaGreat.HitN
open Go FixM VecW VecV VecU MeshM MeshP HitM

def cornersF (m : Msh) (i : Int) : Option (V3 × V3 × V3) :=
 if i < 0 ∨ (m.ts.length : Int) ≤ i then none
 else if hasF m.ps.length (m.ts.getD i.toNat v0) then some (ptF m (m.ts.getD i.toNat v0).x, ptF m (m.ts.getD i.toNat v0).y, ptF m (m.ts.getD i.toNat v0).z) else none
def cornersR (x : Option (V3 × V3 × V3)) : Value := .tuple #[vecV (x.getD (v0, v0, v0)).1, vecV (x.getD (v0, v0, v0)).2.1, vecV (x.getD (v0, v0, v0)).2.2, .bool x.isSome]
def ballAt (m : Msh) (i : Int) : B4 := m.bs.getD (i - (m.ts.length : Int)).toNat ⟨v0, 0⟩
def pickF (i near least x y : Int) : Option Ht :=
 if 0 ≤ x ∧ least ≤ maxI x near then some ⟨maxI x near, i, 0, 0⟩
 else if 0 ≤ y ∧ least ≤ maxI y near then some ⟨maxI y near, i, 0, 0⟩ else none
def ballShapeF (m : Msh) (i : Int) (r : Ry) (least : Int) : Option Ht :=
 (boxH r (boxF m i)).bind fun near => (ballH r (ballAt m i)).bind fun p => pickF i near least p.1 p.2
def triShapeF (m : Msh) (i : Int) (r : Ry) (least : Int) : Option Ht :=
 (cornersF m i).bind fun c => (boxH r (boxF m i)).bind fun near => (triH r c.1 c.2.1 c.2.2).bind fun h => if maxI h.t near < least then none else some ⟨maxI h.t near, i, h.u, h.v⟩
def shapeF (m : Msh) (i : Int) (r : Ry) (least : Int) : Option Ht :=
 if i < 0 ∨ (m.ts.length : Int) + (m.bs.length : Int) ≤ i then none
 else if (m.ts.length : Int) ≤ i then ballShapeF m i r least
 else triShapeF m i r least
def shapeR (x : Option Ht) : Value := .tuple #[hitV (x.getD htN), .bool x.isSome]
end Go.Proofs.YtdaokkgenfpmhaaGreat.HitN

/- The walks of hit.none and hit.corners. -/
set_option linter.unusedVariables false
set_option linter.unusedSimpArgs false
namespace Go.Proofs.YtdaokkgenfpmhaaGreat.HitC
open Go.RowKit Go.Sort FixM Base Num FixW Qb Qt Qa Qf Qg VecW VecV VecU LightQ LightC MeshM Rec MeshA MeshB MeshC MeshD MeshE MeshP HitM HitT HitX HitN
set_option maxRecDepth 100000 in
theorem none_any (w : World) : Calls Tryz.prog 52 #[] w (VTo (hitV htN) w) := by
 go_enter Tryz.func52, Tryz.ntmps52
 go_wp2_with (with_reducible refine store_hit rfl (.tmp 0) (.tmp 1) rfl rfl w.heap.size 0 (-1) 0 0 rfl rfl _ (heap_alloc_new _ _) rfl ?_)
 refine bodyPost_ret (results_cell_row rfl _ _ w.heap.size 42 _ _ _ rfl (setRow_heap _ _ _ _ _ _ (heap_alloc_new _ _)) Tryz.underlying42 rfl hit_size) rfl ?_
 exact ⟨rfl, put_ext _ _ _⟩
theorem results_rows3 {fn : Func} {p q r u : Tmp} {ty : TypeId} (h : fn.results = #[.cell p ty, .cell q ty, .cell r ty, .tmp u]) (tmps : Array Value) (P : Program) (w : World) (g1 g2 g3 : Nat) (t : TypeId) (c1 c2 c3 : Array Value) (fs : _)
  (hp : tmps.getD p undef = .pointer (some ⟨g1, 0, none⟩)) (hq : tmps.getD q undef = .pointer (some ⟨g2, 0, none⟩)) (hr : tmps.getD r undef = .pointer (some ⟨g3, 0, none⟩)) (h1 : w.heap[g1]? = some (.cells c1 t)) (h2 : w.heap[g2]? = some (.cells c2 t)) (h3 : w.heap[g3]? = some (.cells c3 t))
  (hu : P.underlying ty = some (.struct fs)) (i1 : (P.info? ty).map (·.size) = some c1.size) (i2 : (P.info? ty).map (·.size) = some c2.size) (i3 : (P.info? ty).map (·.size) = some c3.size) :
  (results fn tmps).run P w = .ok (.tuple #[.agg c1, .agg c2, .agg c3, tmps.getD u undef]) w := by
 have hp' : tmps[p]?.getD undef = .pointer (some ⟨g1, 0, none⟩) := by simpa using hp
 have hq' : tmps[q]?.getD undef = .pointer (some ⟨g2, 0, none⟩) := by simpa using hq
 have hr' : tmps[r]?.getD undef = .pointer (some ⟨g3, 0, none⟩) := by simpa using hr
 simp [results, h, hp', hq', hr', asAddr, run_loadVar_row w g1 t ty c1 _ _ h1 hu rfl i1, run_loadVar_row w g2 t ty c2 _ _ h2 hu rfl i2, run_loadVar_row w g3 t ty c3 _ _ h3 hu rfl i3]

theorem idx3_0 (a b c : Int) (w : World) : (Instr.index 52 (.agg #[.int .i64 a, .int .i64 b, .int .i64 c]) (.int .i64 0)).run Tryz.prog w = .ok (.int .i64 a) w := by kernel_rfl
theorem idx3_1 (a b c : Int) (w : World) : (Instr.index 52 (.agg #[.int .i64 a, .int .i64 b, .int .i64 c]) (.int .i64 1)).run Tryz.prog w = .ok (.int .i64 b) w := by kernel_rfl
theorem idx3_2 (a b c : Int) (w : World) : (Instr.index 52 (.agg #[.int .i64 a, .int .i64 b, .int .i64 c]) (.int .i64 2)).run Tryz.prog w = .ok (.int .i64 c) w := by kernel_rfl
theorem rows3 {w W : World} {B g1 g2 g3 : Nat} {T : TypeId} {z1 z2 z3 : Array Value} (h1 : W.heap[g1]? = some (.cells z1 T)) (h2 : W.heap[g2]? = some (.cells z2 T)) (h3 : W.heap[g3]? = some (.cells z3 T)) (n12 : g1 ≠ g2) (n13 : g1 ≠ g3) (n23 : g2 ≠ g3) (t1 t2 t3 : Array Value) (hb : Below B w W) (b1 : B ≤ g1) (b2 : B ≤ g2) (b3 : B ≤ g3) :
  (W.setRow g1 t1).heap[g2]? = some (.cells z2 T) ∧ ((W.setRow g1 t1).setRow g2 t2).heap[g3]? = some (.cells z3 T) ∧ (((W.setRow g1 t1).setRow g2 t2).setRow g3 t3).heap[g1]? = some (.cells t1 T) ∧ (((W.setRow g1 t1).setRow g2 t2).setRow g3 t3).heap[g2]? = some (.cells t2 T) ∧ (((W.setRow g1 t1).setRow g2 t2).setRow g3 t3).heap[g3]? = some (.cells t3 T) ∧ Below B w (((W.setRow g1 t1).setRow g2 t2).setRow g3 t3) := by
 have s2 := (setRow_other W g1 g2 t1 (Ne.symm n12)).trans h2
 have s3 := (setRow_other (W.setRow g1 t1) g2 g3 t2 (Ne.symm n23)).trans ((setRow_other W g1 g3 t1 (Ne.symm n13)).trans h3)
 exact ⟨s2, s3, (setRow_other _ g3 g1 t3 n13).trans ((setRow_other _ g2 g1 t2 n12).trans (setRow_heap _ _ _ _ _ _ h1)), (setRow_other _ g3 g2 t3 n23).trans (setRow_heap _ _ _ _ _ _ s2), setRow_heap _ _ _ _ _ _ s3, below_setRow (below_setRow (below_setRow hb b1 _) b2 _) b3 _⟩

set_option maxRecDepth 100000 in
set_option maxHeartbeats 8000000 in
theorem corners_neg (w : World) (a0 : Option Addr) (n0 c0 : Nat) (a1 : Option Addr) (n1 c1 : Nat) (a2 : Option Addr) (n2 c2 : Nat) (i : Int) (h : i < 0) : Calls Tryz.prog 54 #[mvals a0 n0 c0 a1 n1 c1 a2 n2 c2, .int .i64 i] w (VTo (cornersR none) w) := by
 have d0 : decide (i < 0) = true := decide_eq_true h
 clear h
 unfold mvals
 obtain ⟨hR, hA, hC, hD, hB0⟩ := al4 w (.cells #[.slice a0 n0 c0, .slice a1 n1 c1, .slice a2 n2 c2] 31) (.cells #[.int .i64 0, .int .i64 0, .int .i64 0] 46) (.cells #[.int .i64 0, .int .i64 0, .int .i64 0] 46) (.cells #[.int .i64 0, .int .i64 0, .int .i64 0] 46)
 obtain ⟨W, hW⟩ : ∃ W, W = (((w.alloc (.cells #[.slice a0 n0 c0, .slice a1 n1 c1, .slice a2 n2 c2] 31)).alloc (.cells #[.int .i64 0, .int .i64 0, .int .i64 0] 46)).alloc (.cells #[.int .i64 0, .int .i64 0, .int .i64 0] 46)).alloc (.cells #[.int .i64 0, .int .i64 0, .int .i64 0] 46) := ⟨_, rfl⟩
 rw [← hW] at hR hA hC hD hB0
 have HR0 := Lib.hid hR
 have HA0 := Lib.hid hA
 have HC0 := Lib.hid hC
 have HD0 := Lib.hid hD
 have HB0 := Lib.hid hB0
 have HWW := Lib.hid hW
 clear hR hA hC hD hB0 hW
 go_enter Tryz.func54, Tryz.ntmps54
 go_upto_region 1 with (fail)
 rw [← HWW.out]
 clear HWW
 obtain ⟨s2, s3, r1, r2, r3, hb⟩ := rows3 HA0.out HC0.out HD0.out (by omega) (by omega) (by omega) #[.int .i64 0, .int .i64 0, .int .i64 0] #[.int .i64 0, .int .i64 0, .int .i64 0] #[.int .i64 0, .int .i64 0, .int .i64 0] HB0.out (by omega) (by omega) (by omega)
 have HS2 := Lib.hid s2
 have HS3 := Lib.hid s3
 have R1 := Lib.hid r1
 have R2 := Lib.hid r2
 have R3 := Lib.hid r3
 have HBF := Lib.hid hb
 clear s2 s3 r1 r2 r3 hb
 go_wp2_with (first | (with_reducible refine store_vec rfl (.tmp 4) (.tmp 20) rfl rfl (w.heap.size + 1) 0 0 0 rfl rfl _ _ _ HA0.out ?_) | (with_reducible refine store_vec rfl (.tmp 5) (.tmp 21) rfl rfl (w.heap.size + 1 + 1) 0 0 0 rfl rfl _ _ _ HS2.out ?_) | (with_reducible refine store_vec rfl (.tmp 6) (.tmp 22) rfl rfl (w.heap.size + 1 + 1 + 1) 0 0 0 rfl rfl _ _ _ HS3.out ?_))
 refine bodyPost_ret (results_rows3 rfl _ _ _ (w.heap.size + 1) (w.heap.size + 1 + 1) (w.heap.size + 1 + 1 + 1) 46 _ _ _ _ rfl rfl rfl R1.out R2.out R3.out Tryz.underlying46 vec_size vec_size vec_size) rfl ?_
 exact ⟨rfl, HBF.out⟩

set_option maxRecDepth 100000 in
set_option maxHeartbeats 8000000 in
theorem corners_far (w : World) (a0 : Option Addr) (n0 c0 : Nat) (a1 : Option Addr) (n1 c1 : Nat) (a2 : Option Addr) (n2 c2 : Nat) (i : Int) (h0 : 0 ≤ i) (h : (n1 : Int) ≤ i) : Calls Tryz.prog 54 #[mvals a0 n0 c0 a1 n1 c1 a2 n2 c2, .int .i64 i] w (VTo (cornersR none) w) := by
 have d0 : decide (i < 0) = false := decide_eq_false (by omega)
 have d1 : decide ((n1 : Int) ≤ i) = true := decide_eq_true h
 clear h h0
 unfold mvals
 obtain ⟨hR, hA, hC, hD, hB0⟩ := al4 w (.cells #[.slice a0 n0 c0, .slice a1 n1 c1, .slice a2 n2 c2] 31) (.cells #[.int .i64 0, .int .i64 0, .int .i64 0] 46) (.cells #[.int .i64 0, .int .i64 0, .int .i64 0] 46) (.cells #[.int .i64 0, .int .i64 0, .int .i64 0] 46)
 obtain ⟨W, hW⟩ : ∃ W, W = (((w.alloc (.cells #[.slice a0 n0 c0, .slice a1 n1 c1, .slice a2 n2 c2] 31)).alloc (.cells #[.int .i64 0, .int .i64 0, .int .i64 0] 46)).alloc (.cells #[.int .i64 0, .int .i64 0, .int .i64 0] 46)).alloc (.cells #[.int .i64 0, .int .i64 0, .int .i64 0] 46) := ⟨_, rfl⟩
 rw [← hW] at hR hA hC hD hB0
 have HR0 := Lib.hid hR
 have HA0 := Lib.hid hA
 have HC0 := Lib.hid hC
 have HD0 := Lib.hid hD
 have HB0 := Lib.hid hB0
 have HWW := Lib.hid hW
 clear hR hA hC hD hB0 hW
 go_enter Tryz.func54, Tryz.ntmps54
 go_upto_region 1 with (fail)
 rw [← HWW.out]
 clear HWW
 have cHR0 := cell_row HR0.out 0 _ rfl
 have cHR1 := cell_row HR0.out 1 _ rfl
 have cHR2 := cell_row HR0.out 2 _ rfl
 obtain ⟨s2, s3, r1, r2, r3, hb⟩ := rows3 HA0.out HC0.out HD0.out (by omega) (by omega) (by omega) #[.int .i64 0, .int .i64 0, .int .i64 0] #[.int .i64 0, .int .i64 0, .int .i64 0] #[.int .i64 0, .int .i64 0, .int .i64 0] HB0.out (by omega) (by omega) (by omega)
 have HS2 := Lib.hid s2
 have HS3 := Lib.hid s3
 have R1 := Lib.hid r1
 have R2 := Lib.hid r2
 have R3 := Lib.hid r3
 have HBF := Lib.hid hb
 clear s2 s3 r1 r2 r3 hb
 go_wp2_with (first | (with_reducible refine store_vec rfl (.tmp 4) (.tmp 20) rfl rfl (w.heap.size + 1) 0 0 0 rfl rfl _ _ _ HA0.out ?_) | (with_reducible refine store_vec rfl (.tmp 5) (.tmp 21) rfl rfl (w.heap.size + 1 + 1) 0 0 0 rfl rfl _ _ _ HS2.out ?_) | (with_reducible refine store_vec rfl (.tmp 6) (.tmp 22) rfl rfl (w.heap.size + 1 + 1 + 1) 0 0 0 rfl rfl _ _ _ HS3.out ?_))
 refine bodyPost_ret (results_rows3 rfl _ _ _ (w.heap.size + 1) (w.heap.size + 1 + 1) (w.heap.size + 1 + 1 + 1) 46 _ _ _ _ rfl rfl rfl R1.out R2.out R3.out Tryz.underlying46 vec_size vec_size vec_size) rfl ?_
 exact ⟨rfl, HBF.out⟩

set_option maxRecDepth 100000 in
set_option maxHeartbeats 8000000 in
theorem corners_is (w : World) (a0 : Option Addr) (n0 c0 : Nat) (a1 : Option Addr) (n1 c1 : Nat) (a2 : Option Addr) (n2 c2 : Nat) (ts : List V3) (hts : Recs 3 enc3 w (.slice a1 n1 c1) ts) (j : Nat) (hj : j < ts.length) (x y z : Int) (ht : ts[j] = ⟨x, y, z⟩) (l0 : n0 ≤ 9223372036854775807) (ps : List V3) (hps : Recs 3 enc3 w (.slice a0 n0 c0) ps) : Calls Tryz.prog 54 #[mvals a0 n0 c0 a1 n1 c1 a2 n2 c2, .int .i64 (j : Int)] w (VTo (cornersR (if hasF n0 ⟨x, y, z⟩ then some (ps.getD x.toNat v0, ps.getD y.toNat v0, ps.getD z.toNat v0) else none)) w) := by
 have hjn : j < n1 := by rw [hts.fits]; exact hj
 have d0 : decide ((j : Int) < 0) = false := decide_eq_false (by omega)
 have d1 : decide ((n1 : Int) ≤ (j : Int)) = false := decide_eq_false (by omega)
 have d1b : decide (n1 ≤ j) = false := decide_eq_false (by omega)
 have HTS := Lib.hid hts
 have HJ := Lib.hid ht
 have HE : Hid (hasF n0 ⟨x, y, z⟩ = (placeI n0 x && placeI n0 y && placeI n0 z)) := Lib.hid rfl
 have HPS := Lib.hid hps
 obtain ⟨hf, hhf⟩ : ∃ zz, zz = hasF n0 ⟨x, y, z⟩ := ⟨_, rfl⟩
 rw [← hhf] at HE ⊢
 obtain ⟨res, hres⟩ : ∃ zz, zz = (if hf = true then some (ps.getD x.toNat v0, ps.getD y.toNat v0, ps.getD z.toNat v0) else none) := ⟨_, rfl⟩
 rw [← hres]
 have HRES := Lib.hid hres
 clear hhf hts ht hps hres
 unfold mvals
 obtain ⟨hR, hA, hC, hD, hB0⟩ := al4 w (.cells #[.slice a0 n0 c0, .slice a1 n1 c1, .slice a2 n2 c2] 31) (.cells #[.int .i64 0, .int .i64 0, .int .i64 0] 46) (.cells #[.int .i64 0, .int .i64 0, .int .i64 0] 46) (.cells #[.int .i64 0, .int .i64 0, .int .i64 0] 46)
 obtain ⟨W, hW⟩ : ∃ W, W = (((w.alloc (.cells #[.slice a0 n0 c0, .slice a1 n1 c1, .slice a2 n2 c2] 31)).alloc (.cells #[.int .i64 0, .int .i64 0, .int .i64 0] 46)).alloc (.cells #[.int .i64 0, .int .i64 0, .int .i64 0] 46)).alloc (.cells #[.int .i64 0, .int .i64 0, .int .i64 0] 46) := ⟨_, rfl⟩
 rw [← hW] at hR hA hC hD hB0
 have HR0 := Lib.hid hR
 have HA0 := Lib.hid hA
 have HC0 := Lib.hid hC
 have HD0 := Lib.hid hD
 have HB0 := Lib.hid hB0
 have HWW := Lib.hid hW
 clear hR hA hC hD hB0 hW
 go_enter Tryz.func54, Tryz.ntmps54
 go_upto_region 1 with (fail)
 rw [← HWW.out]
 clear HWW
 have k1 := cell_row HR0.out 1 (.slice a1 n1 c1) rfl
 obtain ⟨b, off, e, hbl, p0, p1, p2⟩ := at3 (HTS.out.below HB0.out (Nat.le_refl _)) j hj
 subst e
 rw [HJ.out] at p0 p1 p2
 clear HTS HJ hbl
 dsimp only at p0 p1 p2
 go_upto_region 4 with (fail)
 have hge : w.heap.size + 1 + 1 + 1 < W.heap.size := Base.lt_of_heap HD0.out
 have HGE := Lib.hid hge
 clear hge
 have hx := ext_alloc W (.cells #[.int .i64 x, .int .i64 y, .int .i64 z] 52)
 have hn := heap_alloc_new W (.cells #[.int .i64 x, .int .i64 y, .int .i64 z] 52)
 obtain ⟨y1, hW⟩ : ∃ ww, ww = W.alloc (.cells #[.int .i64 x, .int .i64 y, .int .i64 z] 52) := ⟨_, rfl⟩
 rw [← hW] at hx hn ⊢
 clear hW
 have HR1 := Lib.hid (vec_step HR0.out hx)
 have HA1 := Lib.hid (vec_step HA0.out hx)
 have HC1 := Lib.hid (vec_step HC0.out hx)
 have HD1 := Lib.hid (vec_step HD0.out hx)
 have HB1 := Lib.hid (HB0.out.trans (hx.mono HB0.out.size))
 clear HR0 HA0 HC0 HD0 HB0 hx  
 have HT1 := Lib.hid (hn)
 clear hn
 generalize W.heap.size = gHT at HT1 HGE ⊢
 have cHT0 := cell_row HT1.out 0 _ rfl
 have cHT1 := cell_row HT1.out 1 _ rfl
 have cHT2 := cell_row HT1.out 2 _ rfl
 go_wp2_with fail
 clear cHT0 cHT1 cHT2
 go_loopg [29] 3 (fun r n9 wr => ∃ k : Int, 0 ≤ k ∧ k + (r : Int) = 3 ∧ n9 = .int .i64 k ∧ Hid (Below y1.heap.size y1 wr ∧ (0 < k → placeI n0 x = true) ∧ (1 < k → placeI n0 y = true) ∧ (2 < k → placeI n0 z = true)))
 case atStart => exact ⟨0, by omega, by omega, rfl, Lib.hid ⟨Below.refl _ _, by omega, by omega, by omega⟩⟩
 case round =>
  obtain ⟨k, hk0, hkr, rfl, hin⟩ := hrel
  have hb := hin.out.1
  have HR2 := Lib.hid (vec_step HR1.out hb)
  have HA2 := Lib.hid (vec_step HA1.out hb)
  have HC2 := Lib.hid (vec_step HC1.out hb)
  have HD2 := Lib.hid (vec_step HD1.out hb)
  have HB2 := Lib.hid (HB1.out.trans (hb.mono HB1.out.size))
  have HT2 := Lib.hid (vec_step HT1.out hb)
  clear HR1 HA1 HC1 HD1 HB1 HT1 hb  
  have i0 := idx3_0
  have i1 := idx3_1
  have i2 := idx3_2
  rcases (show k = 0 ∨ k = 1 ∨ k = 2 ∨ k = 3 by omega) with rfl | rfl | rfl | rfl
  ·
   by_cases h1 : x < 0
   ·
    have d2 : decide (x < 0) = true := decide_eq_true h1
    have hh : hf = false := by rw [HE.out]; unfold placeI; rw [decide_eq_false (show ¬ 0 ≤ x by omega)]; simp
    subst hh
    have hres : res = none := HRES.out
    subst hres
    clear hin h1
    have cHR0 := cell_row HR2.out 0 _ rfl
    obtain ⟨s2, s3, r1, r2, r3, hb⟩ := rows3 HA2.out HC2.out HD2.out (by omega) (by omega) (by omega) #[.int .i64 0, .int .i64 0, .int .i64 0] #[.int .i64 0, .int .i64 0, .int .i64 0] #[.int .i64 0, .int .i64 0, .int .i64 0] HB2.out (by omega) (by omega) (by omega)
    have HS2 := Lib.hid s2
    have HS3 := Lib.hid s3
    have R1 := Lib.hid r1
    have R2 := Lib.hid r2
    have R3 := Lib.hid r3
    have HBF := Lib.hid hb
    clear s2 s3 r1 r2 r3 hb
    go_wp2_with (first | (with_reducible refine store_vec rfl (.tmp 4) (.tmp 41) rfl rfl (w.heap.size + 1) 0 0 0 rfl rfl _ _ _ HA2.out ?_) | (with_reducible refine store_vec rfl (.tmp 5) (.tmp 42) rfl rfl (w.heap.size + 1 + 1) 0 0 0 rfl rfl _ _ _ HS2.out ?_) | (with_reducible refine store_vec rfl (.tmp 6) (.tmp 43) rfl rfl (w.heap.size + 1 + 1 + 1) 0 0 0 rfl rfl _ _ _ HS3.out ?_))
    refine bodyPost_ret (results_rows3 rfl _ _ _ (w.heap.size + 1) (w.heap.size + 1 + 1) (w.heap.size + 1 + 1 + 1) 46 _ _ _ _ rfl rfl rfl R1.out R2.out R3.out Tryz.underlying46 vec_size vec_size vec_size) rfl ?_
    exact ⟨rfl, HBF.out⟩
   ·
    have d2 : decide (x < 0) = false := decide_eq_false h1
    by_cases h2 : (n0 : Int) ≤ x
    ·
     have d3 : decide ((n0 : Int) ≤ x) = true := decide_eq_true h2
     have hh : hf = false := by rw [HE.out]; unfold placeI; rw [decide_eq_false (show ¬ x < (n0 : Int) by omega)]; simp
     subst hh
     have hres : res = none := HRES.out
     subst hres
     clear hin h1 h2
     have cHR0 := cell_row HR2.out 0 _ rfl
     obtain ⟨s2, s3, r1, r2, r3, hb⟩ := rows3 HA2.out HC2.out HD2.out (by omega) (by omega) (by omega) #[.int .i64 0, .int .i64 0, .int .i64 0] #[.int .i64 0, .int .i64 0, .int .i64 0] #[.int .i64 0, .int .i64 0, .int .i64 0] HB2.out (by omega) (by omega) (by omega)
     have HS2 := Lib.hid s2
     have HS3 := Lib.hid s3
     have R1 := Lib.hid r1
     have R2 := Lib.hid r2
     have R3 := Lib.hid r3
     have HBF := Lib.hid hb
     clear s2 s3 r1 r2 r3 hb
     go_wp2_with (first | (with_reducible refine store_vec rfl (.tmp 4) (.tmp 41) rfl rfl (w.heap.size + 1) 0 0 0 rfl rfl _ _ _ HA2.out ?_) | (with_reducible refine store_vec rfl (.tmp 5) (.tmp 42) rfl rfl (w.heap.size + 1 + 1) 0 0 0 rfl rfl _ _ _ HS2.out ?_) | (with_reducible refine store_vec rfl (.tmp 6) (.tmp 43) rfl rfl (w.heap.size + 1 + 1 + 1) 0 0 0 rfl rfl _ _ _ HS3.out ?_))
     refine bodyPost_ret (results_rows3 rfl _ _ _ (w.heap.size + 1) (w.heap.size + 1 + 1) (w.heap.size + 1 + 1 + 1) 46 _ _ _ _ rfl rfl rfl R1.out R2.out R3.out Tryz.underlying46 vec_size vec_size vec_size) rfl ?_
     exact ⟨rfl, HBF.out⟩
    ·
     have d3 : decide ((n0 : Int) ≤ x) = false := decide_eq_false h2
     have hp0 : placeI n0 x = true := by unfold placeI; rw [decide_eq_true (show 0 ≤ x by omega), decide_eq_true (show x < (n0 : Int) by omega)]; rfl
     have HPP := Lib.hid (And.intro hin.out.1 (And.intro hp0 True.intro))
     clear hin h1 h2 hp0
     have cHR0 := cell_row HR2.out 0 _ rfl
     go_wp2_with fail
     go_roundg 2
     case measure => omega
     case rel => exact ⟨1, by omega, by omega, rfl, Lib.hid ⟨HPP.out.1, fun _ => HPP.out.2.1, by omega, by omega⟩⟩
  ·
   by_cases h1 : y < 0
   ·
    have d2 : decide (y < 0) = true := decide_eq_true h1
    have hh : hf = false := by rw [HE.out]; unfold placeI; rw [decide_eq_false (show ¬ 0 ≤ y by omega)]; simp
    subst hh
    have hres : res = none := HRES.out
    subst hres
    clear hin h1
    have cHR0 := cell_row HR2.out 0 _ rfl
    obtain ⟨s2, s3, r1, r2, r3, hb⟩ := rows3 HA2.out HC2.out HD2.out (by omega) (by omega) (by omega) #[.int .i64 0, .int .i64 0, .int .i64 0] #[.int .i64 0, .int .i64 0, .int .i64 0] #[.int .i64 0, .int .i64 0, .int .i64 0] HB2.out (by omega) (by omega) (by omega)
    have HS2 := Lib.hid s2
    have HS3 := Lib.hid s3
    have R1 := Lib.hid r1
    have R2 := Lib.hid r2
    have R3 := Lib.hid r3
    have HBF := Lib.hid hb
    clear s2 s3 r1 r2 r3 hb
    go_wp2_with (first | (with_reducible refine store_vec rfl (.tmp 4) (.tmp 41) rfl rfl (w.heap.size + 1) 0 0 0 rfl rfl _ _ _ HA2.out ?_) | (with_reducible refine store_vec rfl (.tmp 5) (.tmp 42) rfl rfl (w.heap.size + 1 + 1) 0 0 0 rfl rfl _ _ _ HS2.out ?_) | (with_reducible refine store_vec rfl (.tmp 6) (.tmp 43) rfl rfl (w.heap.size + 1 + 1 + 1) 0 0 0 rfl rfl _ _ _ HS3.out ?_))
    refine bodyPost_ret (results_rows3 rfl _ _ _ (w.heap.size + 1) (w.heap.size + 1 + 1) (w.heap.size + 1 + 1 + 1) 46 _ _ _ _ rfl rfl rfl R1.out R2.out R3.out Tryz.underlying46 vec_size vec_size vec_size) rfl ?_
    exact ⟨rfl, HBF.out⟩
   ·
    have d2 : decide (y < 0) = false := decide_eq_false h1
    by_cases h2 : (n0 : Int) ≤ y
    ·
     have d3 : decide ((n0 : Int) ≤ y) = true := decide_eq_true h2
     have hh : hf = false := by rw [HE.out]; unfold placeI; rw [decide_eq_false (show ¬ y < (n0 : Int) by omega)]; simp
     subst hh
     have hres : res = none := HRES.out
     subst hres
     clear hin h1 h2
     have cHR0 := cell_row HR2.out 0 _ rfl
     obtain ⟨s2, s3, r1, r2, r3, hb⟩ := rows3 HA2.out HC2.out HD2.out (by omega) (by omega) (by omega) #[.int .i64 0, .int .i64 0, .int .i64 0] #[.int .i64 0, .int .i64 0, .int .i64 0] #[.int .i64 0, .int .i64 0, .int .i64 0] HB2.out (by omega) (by omega) (by omega)
     have HS2 := Lib.hid s2
     have HS3 := Lib.hid s3
     have R1 := Lib.hid r1
     have R2 := Lib.hid r2
     have R3 := Lib.hid r3
     have HBF := Lib.hid hb
     clear s2 s3 r1 r2 r3 hb
     go_wp2_with (first | (with_reducible refine store_vec rfl (.tmp 4) (.tmp 41) rfl rfl (w.heap.size + 1) 0 0 0 rfl rfl _ _ _ HA2.out ?_) | (with_reducible refine store_vec rfl (.tmp 5) (.tmp 42) rfl rfl (w.heap.size + 1 + 1) 0 0 0 rfl rfl _ _ _ HS2.out ?_) | (with_reducible refine store_vec rfl (.tmp 6) (.tmp 43) rfl rfl (w.heap.size + 1 + 1 + 1) 0 0 0 rfl rfl _ _ _ HS3.out ?_))
     refine bodyPost_ret (results_rows3 rfl _ _ _ (w.heap.size + 1) (w.heap.size + 1 + 1) (w.heap.size + 1 + 1 + 1) 46 _ _ _ _ rfl rfl rfl R1.out R2.out R3.out Tryz.underlying46 vec_size vec_size vec_size) rfl ?_
     exact ⟨rfl, HBF.out⟩
    ·
     have d3 : decide ((n0 : Int) ≤ y) = false := decide_eq_false h2
     have hp1 : placeI n0 y = true := by unfold placeI; rw [decide_eq_true (show 0 ≤ y by omega), decide_eq_true (show y < (n0 : Int) by omega)]; rfl
     have hp0 : placeI n0 x = true := hin.out.2.1 (by omega)
     have HPP := Lib.hid (And.intro hin.out.1 (And.intro hp0 hp1))
     clear hin h1 h2 hp0 hp1
     have cHR0 := cell_row HR2.out 0 _ rfl
     go_wp2_with fail
     go_roundg 1
     case measure => omega
     case rel => exact ⟨2, by omega, by omega, rfl, Lib.hid ⟨HPP.out.1, fun _ => HPP.out.2.1, fun _ => HPP.out.2.2, by omega⟩⟩
  ·
   by_cases h1 : z < 0
   ·
    have d2 : decide (z < 0) = true := decide_eq_true h1
    have hh : hf = false := by rw [HE.out]; unfold placeI; rw [decide_eq_false (show ¬ 0 ≤ z by omega)]; simp
    subst hh
    have hres : res = none := HRES.out
    subst hres
    clear hin h1
    have cHR0 := cell_row HR2.out 0 _ rfl
    obtain ⟨s2, s3, r1, r2, r3, hb⟩ := rows3 HA2.out HC2.out HD2.out (by omega) (by omega) (by omega) #[.int .i64 0, .int .i64 0, .int .i64 0] #[.int .i64 0, .int .i64 0, .int .i64 0] #[.int .i64 0, .int .i64 0, .int .i64 0] HB2.out (by omega) (by omega) (by omega)
    have HS2 := Lib.hid s2
    have HS3 := Lib.hid s3
    have R1 := Lib.hid r1
    have R2 := Lib.hid r2
    have R3 := Lib.hid r3
    have HBF := Lib.hid hb
    clear s2 s3 r1 r2 r3 hb
    go_wp2_with (first | (with_reducible refine store_vec rfl (.tmp 4) (.tmp 41) rfl rfl (w.heap.size + 1) 0 0 0 rfl rfl _ _ _ HA2.out ?_) | (with_reducible refine store_vec rfl (.tmp 5) (.tmp 42) rfl rfl (w.heap.size + 1 + 1) 0 0 0 rfl rfl _ _ _ HS2.out ?_) | (with_reducible refine store_vec rfl (.tmp 6) (.tmp 43) rfl rfl (w.heap.size + 1 + 1 + 1) 0 0 0 rfl rfl _ _ _ HS3.out ?_))
    refine bodyPost_ret (results_rows3 rfl _ _ _ (w.heap.size + 1) (w.heap.size + 1 + 1) (w.heap.size + 1 + 1 + 1) 46 _ _ _ _ rfl rfl rfl R1.out R2.out R3.out Tryz.underlying46 vec_size vec_size vec_size) rfl ?_
    exact ⟨rfl, HBF.out⟩
   ·
    have d2 : decide (z < 0) = false := decide_eq_false h1
    by_cases h2 : (n0 : Int) ≤ z
    ·
     have d3 : decide ((n0 : Int) ≤ z) = true := decide_eq_true h2
     have hh : hf = false := by rw [HE.out]; unfold placeI; rw [decide_eq_false (show ¬ z < (n0 : Int) by omega)]; simp
     subst hh
     have hres : res = none := HRES.out
     subst hres
     clear hin h1 h2
     have cHR0 := cell_row HR2.out 0 _ rfl
     obtain ⟨s2, s3, r1, r2, r3, hb⟩ := rows3 HA2.out HC2.out HD2.out (by omega) (by omega) (by omega) #[.int .i64 0, .int .i64 0, .int .i64 0] #[.int .i64 0, .int .i64 0, .int .i64 0] #[.int .i64 0, .int .i64 0, .int .i64 0] HB2.out (by omega) (by omega) (by omega)
     have HS2 := Lib.hid s2
     have HS3 := Lib.hid s3
     have R1 := Lib.hid r1
     have R2 := Lib.hid r2
     have R3 := Lib.hid r3
     have HBF := Lib.hid hb
     clear s2 s3 r1 r2 r3 hb
     go_wp2_with (first | (with_reducible refine store_vec rfl (.tmp 4) (.tmp 41) rfl rfl (w.heap.size + 1) 0 0 0 rfl rfl _ _ _ HA2.out ?_) | (with_reducible refine store_vec rfl (.tmp 5) (.tmp 42) rfl rfl (w.heap.size + 1 + 1) 0 0 0 rfl rfl _ _ _ HS2.out ?_) | (with_reducible refine store_vec rfl (.tmp 6) (.tmp 43) rfl rfl (w.heap.size + 1 + 1 + 1) 0 0 0 rfl rfl _ _ _ HS3.out ?_))
     refine bodyPost_ret (results_rows3 rfl _ _ _ (w.heap.size + 1) (w.heap.size + 1 + 1) (w.heap.size + 1 + 1 + 1) 46 _ _ _ _ rfl rfl rfl R1.out R2.out R3.out Tryz.underlying46 vec_size vec_size vec_size) rfl ?_
     exact ⟨rfl, HBF.out⟩
    ·
     have d3 : decide ((n0 : Int) ≤ z) = false := decide_eq_false h2
     have hp2 : placeI n0 z = true := by unfold placeI; rw [decide_eq_true (show 0 ≤ z by omega), decide_eq_true (show z < (n0 : Int) by omega)]; rfl
     have hp0 : placeI n0 x = true := hin.out.2.1 (by omega)
     have hp1 : placeI n0 y = true := hin.out.2.2.1 (by omega)
     have HPP := Lib.hid (And.intro hin.out.1 (And.intro hp0 (And.intro hp1 hp2)))
     clear hin h1 h2 hp0 hp1 hp2
     have cHR0 := cell_row HR2.out 0 _ rfl
     go_wp2_with fail
     go_roundg 0
     case measure => omega
     case rel => exact ⟨3, by omega, by omega, rfl, Lib.hid ⟨HPP.out.1, fun _ => HPP.out.2.1, fun _ => HPP.out.2.2.1, fun _ => HPP.out.2.2.2⟩⟩
  ·
   have px := hin.out.2.1 (by omega)
   have py := hin.out.2.2.1 (by omega)
   have pz := hin.out.2.2.2 (by omega)
   have hh : hf = true := by rw [HE.out, px, py, pz]; rfl
   subst hh
   simp only [placeI, Bool.and_eq_true, decide_eq_true_eq] at px py pz
   obtain ⟨x, rfl⟩ := Int.eq_ofNat_of_zero_le px.1
   obtain ⟨y, rfl⟩ := Int.eq_ofNat_of_zero_le py.1
   obtain ⟨z, rfl⟩ := Int.eq_ofNat_of_zero_le pz.1
   have hn0 := HPS.out.fits
   have xn : x < n0 := by omega
   have yn : y < n0 := by omega
   have zn : z < n0 := by omega
   have xl : x < ps.length := by omega
   have yl : y < ps.length := by omega
   have zl : z < ps.length := by omega
   have hres : res = some (ps[x], ps[y], ps[z]) := by rw [HRES.out]; simp [xl, yl, zl]
   clear hin px py pz hk0 hkr
   obtain ⟨⟨paX, paY, paZ⟩, hpa⟩ : ∃ zz, zz = ps[x] := ⟨_, rfl⟩
   obtain ⟨⟨pbX, pbY, pbZ⟩, hpb⟩ : ∃ zz, zz = ps[y] := ⟨_, rfl⟩
   obtain ⟨⟨pcX, pcY, pcZ⟩, hpc⟩ : ∃ zz, zz = ps[z] := ⟨_, rfl⟩
   rw [← hpa, ← hpb, ← hpc] at hres
   subst hres
   obtain ⟨b0, o0, e, hbl0, -, -, -⟩ := at3 HPS.out x xl
   subst e
   have HBL := Lib.hid hbl0
   clear hbl0
   have HQ0 := Lib.hid (HPS.out.below HB2.out (Nat.le_refl _))
   obtain ⟨sts, hsts⟩ : ∃ zz : List Sw, zz = [⟨18, 4, w.heap.size + 1, 46, #[.int .i64 0, .int .i64 0, .int .i64 0], 50, #[.int .i64 paX, .int .i64 paY, .int .i64 paZ]⟩, ⟨19, 5, w.heap.size + 1 + 1, 46, #[.int .i64 0, .int .i64 0, .int .i64 0], 56, #[.int .i64 pbX, .int .i64 pbY, .int .i64 pbZ]⟩, ⟨20, 6, w.heap.size + 1 + 1 + 1, 46, #[.int .i64 0, .int .i64 0, .int .i64 0], 62, #[.int .i64 pcX, .int .i64 pcY, .int .i64 pcZ]⟩] := ⟨_, rfl⟩
   have HNS : Hid (∀ k, (k < w.heap.size + 1 ∨ w.heap.size + 1 + 1 + 1 < k) → ¬ Sof sts k) := Lib.hid (by
    rintro k hk ⟨x9, hx9, e⟩
    rw [hsts] at hx9
    simp only [List.mem_cons, List.not_mem_nil, or_false] at hx9
    rcases hx9 with rfl | rfl | rfl <;> (dsimp only at e; omega))
   have KR := Lib.hid (fun W9 (hk : Keeps (Sof sts) wr W9) => cell_all (keep_cell hk HR2.out (HNS.out _ (.inl (by omega)))) 0 _ rfl)
   have KT := Lib.hid (fun W9 (hk : Keeps (Sof sts) wr W9) => cells3 (keep_cell hk HT2.out (HNS.out _ (.inr HGE.out))))
   have Kpa : Hid (∀ W9, Keeps (Sof sts) wr W9 → (∀ d os, (grow (redrawn W9 d) os).cell? ⟨b0, o0 + x * 3, none⟩ = some (.int .i64 paX)) ∧ (∀ d os, (grow (redrawn W9 d) os).cell? ⟨b0, o0 + x * 3 + 1, none⟩ = some (.int .i64 paY)) ∧ (∀ d os, (grow (redrawn W9 d) os).cell? ⟨b0, o0 + x * 3 + 2, none⟩ = some (.int .i64 paZ))) := by
    refine Lib.hid (fun W9 hk => ?_)
    obtain ⟨b5, off5, e5, _, q0, q1, q2⟩ := at3 (HQ0.out.frame hk (fun b9 hb9 => HNS.out _ (.inl (by simp only [Value.ownBlock, Option.some.injEq] at hb9; have := HBL.out; omega)))) x xl
    simp only [Option.some.injEq, Addr.mk.injEq, and_true] at e5
    obtain ⟨rfl, rfl⟩ := e5
    rw [← hpa] at q0 q1 q2
    exact ⟨fun d os => cell_regrown q0 d os, fun d os => cell_regrown q1 d os, fun d os => cell_regrown q2 d os⟩
   have Kpb : Hid (∀ W9, Keeps (Sof sts) wr W9 → (∀ d os, (grow (redrawn W9 d) os).cell? ⟨b0, o0 + y * 3, none⟩ = some (.int .i64 pbX)) ∧ (∀ d os, (grow (redrawn W9 d) os).cell? ⟨b0, o0 + y * 3 + 1, none⟩ = some (.int .i64 pbY)) ∧ (∀ d os, (grow (redrawn W9 d) os).cell? ⟨b0, o0 + y * 3 + 2, none⟩ = some (.int .i64 pbZ))) := by
    refine Lib.hid (fun W9 hk => ?_)
    obtain ⟨b5, off5, e5, _, q0, q1, q2⟩ := at3 (HQ0.out.frame hk (fun b9 hb9 => HNS.out _ (.inl (by simp only [Value.ownBlock, Option.some.injEq] at hb9; have := HBL.out; omega)))) y yl
    simp only [Option.some.injEq, Addr.mk.injEq, and_true] at e5
    obtain ⟨rfl, rfl⟩ := e5
    rw [← hpb] at q0 q1 q2
    exact ⟨fun d os => cell_regrown q0 d os, fun d os => cell_regrown q1 d os, fun d os => cell_regrown q2 d os⟩
   have Kpc : Hid (∀ W9, Keeps (Sof sts) wr W9 → (∀ d os, (grow (redrawn W9 d) os).cell? ⟨b0, o0 + z * 3, none⟩ = some (.int .i64 pcX)) ∧ (∀ d os, (grow (redrawn W9 d) os).cell? ⟨b0, o0 + z * 3 + 1, none⟩ = some (.int .i64 pcY)) ∧ (∀ d os, (grow (redrawn W9 d) os).cell? ⟨b0, o0 + z * 3 + 2, none⟩ = some (.int .i64 pcZ))) := by
    refine Lib.hid (fun W9 hk => ?_)
    obtain ⟨b5, off5, e5, _, q0, q1, q2⟩ := at3 (HQ0.out.frame hk (fun b9 hb9 => HNS.out _ (.inl (by simp only [Value.ownBlock, Option.some.injEq] at hb9; have := HBL.out; omega)))) z zl
    simp only [Option.some.injEq, Addr.mk.injEq, and_true] at e5
    obtain ⟨rfl, rfl⟩ := e5
    rw [← hpc] at q0 q1 q2
    exact ⟨fun d os => cell_regrown q0 d os, fun d os => cell_regrown q1 d os, fun d os => cell_regrown q2 d os⟩
   have HST0 : ∀ x9 ∈ sts, wr.heap[x9.g]? = some (.cells x9.old x9.T) := by
    rw [hsts]
    intro x9 hx9
    simp only [List.mem_cons, List.not_mem_nil, or_false] at hx9
    rcases hx9 with rfl | rfl | rfl
    ·
     exact HA2.out
    ·
     exact HC2.out
    ·
     exact HD2.out
   have HDI : ∀ x9 ∈ sts, ∀ y9 ∈ sts, x9.j ≠ y9.j → x9.g ≠ y9.g := by
    rw [hsts]
    intro x9 hx9 y9 hy9 hne
    simp only [List.mem_cons, List.not_mem_nil, or_false] at hx9 hy9
    rcases hx9 with rfl | rfl | rfl <;> rcases hy9 with rfl | rfl | rfl <;> first | exact absurd rfl hne | (dsimp only; omega)
   clear hpa hpb hpc
   go_upto_region 10 with (fail)
   refine wp_region_stores 63 [0, 1, 2, 3, 4, 5, 6, 7, 8, 9, 10, 11, 12, 13, 14, 15, 16, 17, 21] sts (by kernel_rfl) rfl (by rw [hsts]; kernel_rfl) (by
    rw [hsts]
    intro x9 hx9
    simp only [List.mem_cons, List.not_mem_nil, or_false] at hx9
    rcases hx9 with rfl | rfl | rfl
    ·
     exact ⟨_, rfl, ⟨⟨_, rfl, vec_size⟩, rfl, rfl, row_one _ _ _⟩⟩
    ·
     exact ⟨_, rfl, ⟨⟨_, rfl, vec_size⟩, rfl, rfl, row_one _ _ _⟩⟩
    ·
     exact ⟨_, rfl, ⟨⟨_, rfl, vec_size⟩, rfl, rfl, row_one _ _ _⟩⟩) (by
    rw [hsts]
    intro x9 hx9
    simp only [List.mem_cons, List.not_mem_nil, or_false] at hx9
    rcases hx9 with rfl | rfl | rfl <;> rfl) HDI HST0 ?_
   clear HST0 HDI
   refine WalkK.step (A := ?A0) (o := ?o0) ?e0 45 ?d0 (by simp) ?h0 ?n0
   case e0 => simp only [List.getElem?_toArray, List.getElem?_cons_succ, List.getElem?_cons_zero]; exact rfl
   case d0 => exact rfl
   case h0 =>
    intro W9 hW9
    go_big_quiet_op
    exact rfl
   refine WalkK.step (A := ?A1) (o := ?o1) ?e1 46 ?d1 (by simp) ?h1 ?n1
   case e1 => simp only [List.getElem?_toArray, List.getElem?_cons_succ, List.getElem?_cons_zero]; exact rfl
   case d1 => exact rfl
   case h1 =>
    intro W9 hW9
    have z0 := KR.out W9 hW9
    go_big_quiet_op
    exact rfl
   refine WalkK.step (A := ?A2) (o := ?o2) ?e2 47 ?d2 (by simp) ?h2 ?n2
   case e2 => simp only [List.getElem?_toArray, List.getElem?_cons_succ, List.getElem?_cons_zero]; exact rfl
   case d2 => exact rfl
   case h2 =>
    intro W9 hW9
    go_big_quiet_op
    exact rfl
   refine WalkK.step (A := ?A3) (o := ?o3) ?e3 48 ?d3 (by simp) ?h3 ?n3
   case e3 => simp only [List.getElem?_toArray, List.getElem?_cons_succ, List.getElem?_cons_zero]; exact rfl
   case d3 => exact rfl
   case h3 =>
    intro W9 hW9
    obtain ⟨z0, z1, z2⟩ := KT.out W9 hW9
    go_big_quiet_op
    exact rfl
   refine WalkK.step (A := ?A4) (o := ?o4) ?e4 49 ?d4 (by simp) ?h4 ?n4
   case e4 => simp only [List.getElem?_toArray, List.getElem?_cons_succ, List.getElem?_cons_zero]; exact rfl
   case d4 => exact rfl
   case h4 =>
    intro W9 hW9
    have z9 := xn
    go_big_quiet_op
    exact rfl
   refine WalkK.step (A := ?A5) (o := ?o5) ?e5 50 ?d5 (by simp) ?h5 ?n5
   case e5 => simp only [List.getElem?_toArray, List.getElem?_cons_succ, List.getElem?_cons_zero]; exact rfl
   case d5 => exact rfl
   case h5 =>
    intro W9 hW9
    obtain ⟨z0, z1, z2⟩ := Kpa.out W9 hW9
    go_big_quiet_op
    exact rfl
   refine WalkK.step (A := ?A6) (o := ?o6) ?e6 51 ?d6 (by simp) ?h6 ?n6
   case e6 => simp only [List.getElem?_toArray, List.getElem?_cons_succ, List.getElem?_cons_zero]; exact rfl
   case d6 => exact rfl
   case h6 =>
    intro W9 hW9
    go_big_quiet_op
    exact rfl
   refine WalkK.step (A := ?A7) (o := ?o7) ?e7 52 ?d7 (by simp) ?h7 ?n7
   case e7 => simp only [List.getElem?_toArray, List.getElem?_cons_succ, List.getElem?_cons_zero]; exact rfl
   case d7 => exact rfl
   case h7 =>
    intro W9 hW9
    have z0 := KR.out W9 hW9
    go_big_quiet_op
    exact rfl
   refine WalkK.step (A := ?A8) (o := ?o8) ?e8 53 ?d8 (by simp) ?h8 ?n8
   case e8 => simp only [List.getElem?_toArray, List.getElem?_cons_succ, List.getElem?_cons_zero]; exact rfl
   case d8 => exact rfl
   case h8 =>
    intro W9 hW9
    go_big_quiet_op
    exact rfl
   refine WalkK.step (A := ?A9) (o := ?o9) ?e9 54 ?d9 (by simp) ?h9 ?n9
   case e9 => simp only [List.getElem?_toArray, List.getElem?_cons_succ, List.getElem?_cons_zero]; exact rfl
   case d9 => exact rfl
   case h9 =>
    intro W9 hW9
    obtain ⟨z0, z1, z2⟩ := KT.out W9 hW9
    go_big_quiet_op
    exact rfl
   refine WalkK.step (A := ?A10) (o := ?o10) ?e10 55 ?d10 (by simp) ?h10 ?n10
   case e10 => simp only [List.getElem?_toArray, List.getElem?_cons_succ, List.getElem?_cons_zero]; exact rfl
   case d10 => exact rfl
   case h10 =>
    intro W9 hW9
    have z9 := yn
    go_big_quiet_op
    exact rfl
   refine WalkK.step (A := ?A11) (o := ?o11) ?e11 56 ?d11 (by simp) ?h11 ?n11
   case e11 => simp only [List.getElem?_toArray, List.getElem?_cons_succ, List.getElem?_cons_zero]; exact rfl
   case d11 => exact rfl
   case h11 =>
    intro W9 hW9
    obtain ⟨z0, z1, z2⟩ := Kpb.out W9 hW9
    go_big_quiet_op
    exact rfl
   refine WalkK.step (A := ?A12) (o := ?o12) ?e12 57 ?d12 (by simp) ?h12 ?n12
   case e12 => simp only [List.getElem?_toArray, List.getElem?_cons_succ, List.getElem?_cons_zero]; exact rfl
   case d12 => exact rfl
   case h12 =>
    intro W9 hW9
    go_big_quiet_op
    exact rfl
   refine WalkK.step (A := ?A13) (o := ?o13) ?e13 58 ?d13 (by simp) ?h13 ?n13
   case e13 => simp only [List.getElem?_toArray, List.getElem?_cons_succ, List.getElem?_cons_zero]; exact rfl
   case d13 => exact rfl
   case h13 =>
    intro W9 hW9
    have z0 := KR.out W9 hW9
    go_big_quiet_op
    exact rfl
   refine WalkK.step (A := ?A14) (o := ?o14) ?e14 59 ?d14 (by simp) ?h14 ?n14
   case e14 => simp only [List.getElem?_toArray, List.getElem?_cons_succ, List.getElem?_cons_zero]; exact rfl
   case d14 => exact rfl
   case h14 =>
    intro W9 hW9
    go_big_quiet_op
    exact rfl
   refine WalkK.step (A := ?A15) (o := ?o15) ?e15 60 ?d15 (by simp) ?h15 ?n15
   case e15 => simp only [List.getElem?_toArray, List.getElem?_cons_succ, List.getElem?_cons_zero]; exact rfl
   case d15 => exact rfl
   case h15 =>
    intro W9 hW9
    obtain ⟨z0, z1, z2⟩ := KT.out W9 hW9
    go_big_quiet_op
    exact rfl
   refine WalkK.step (A := ?A16) (o := ?o16) ?e16 61 ?d16 (by simp) ?h16 ?n16
   case e16 => simp only [List.getElem?_toArray, List.getElem?_cons_succ, List.getElem?_cons_zero]; exact rfl
   case d16 => exact rfl
   case h16 =>
    intro W9 hW9
    have z9 := zn
    go_big_quiet_op
    exact rfl
   refine WalkK.step (A := ?A17) (o := ?o17) ?e17 62 ?d17 (by simp) ?h17 ?n17
   case e17 => simp only [List.getElem?_toArray, List.getElem?_cons_succ, List.getElem?_cons_zero]; exact rfl
   case d17 => exact rfl
   case h17 =>
    intro W9 hW9
    obtain ⟨z0, z1, z2⟩ := Kpc.out W9 hW9
    go_big_quiet_op
    exact rfl
   refine WalkK.step (A := ?A18) (o := ?o18) ?e18 7 ?d18 (by simp) ?h18 ?n18
   case e18 => simp only [List.getElem?_toArray, List.getElem?_cons_succ, List.getElem?_cons_zero]; exact rfl
   case d18 => exact rfl
   case h18 =>
    intro W9 hW9
    go_big_quiet_op
    exact rfl
   refine ⟨?_, ?_⟩
   ·
    rw [hsts]
    intro x9 hx9
    simp only [List.mem_cons, List.not_mem_nil, or_false] at hx9
    rcases hx9 with rfl | rfl | rfl <;> rfl
   rw [hsts]
   intro wz hkz hz
   have r1 := hz _ (List.mem_cons_self ..)
   have r2 := hz _ (List.mem_cons_of_mem _ (List.mem_cons_self ..))
   have r3 := hz _ (List.mem_cons_of_mem _ (List.mem_cons_of_mem _ (List.mem_cons_self ..)))
   dsimp only at r1 r2 r3
   have hbz : Below w.heap.size wr wz := hkz.below w.heap.size HB2.out.size (by
    rintro k ⟨x9, hx9, rfl⟩
    simp only [List.mem_cons, List.not_mem_nil, or_false] at hx9
    rcases hx9 with rfl | rfl | rfl <;> (dsimp only; omega))
   have R1 := Lib.hid r1
   have R2 := Lib.hid r2
   have R3 := Lib.hid r3
   have HBF := Lib.hid (HB2.out.trans hbz)
   clear r1 r2 r3 hz hkz hbz
   go_wp2_with fail
   refine bodyPost_ret (results_rows3 rfl _ _ _ (w.heap.size + 1) (w.heap.size + 1 + 1) (w.heap.size + 1 + 1 + 1) 46 _ _ _ _ rfl rfl rfl R1.out R2.out R3.out Tryz.underlying46 vec_size vec_size vec_size) rfl ?_
   exact ⟨rfl, HBF.out⟩

theorem corners_any (v : Value) (m : Msh) (w : World) (hm : IsMesh w v m) (i : Int) : Calls Tryz.prog 54 #[v, .int .i64 i] w (VTo (cornersR (cornersF m i)) w) := by
 obtain ⟨a0, c0, a1, c1, a2, c2, rfl, h0, h1, h2, l0, l1, l2⟩ := hm.open_
 unfold cornersF
 by_cases hi0 : i < 0
 ·
  rw [if_pos (.inl hi0)]
  exact corners_neg w _ _ _ _ _ _ _ _ _ i hi0
 by_cases hi1 : (m.ts.length : Int) ≤ i
 ·
  rw [if_pos (.inr hi1)]
  exact corners_far w _ _ _ _ _ _ _ _ _ i (by omega) hi1
 rw [if_neg (by omega)]
 obtain ⟨j, rfl⟩ := Int.eq_ofNat_of_zero_le (by omega : 0 ≤ i)
 have hj : j < m.ts.length := by omega
 have e1 : m.ts.getD (j : Int).toNat v0 = m.ts[j] := by simp [hj]
 rw [e1]
 obtain ⟨⟨x, y, z⟩, ht⟩ : ∃ t, t = m.ts[j] := ⟨_, rfl⟩
 rw [← ht]
 exact corners_is w _ _ _ _ _ _ _ _ _ m.ts h1 j hj x y z ht.symm l0 m.ps h0

end Go.Proofs.YtdaokkgenfpmhaaGreat.HitC

/- The walks of hit.ballShape and hit.Shape. -/
set_option linter.unusedVariables false
set_option linter.unusedSimpArgs false
namespace Go.Proofs.YtdaokkgenfpmhaaGreat.HitS
open Go.RowKit Go.Sort FixM Base Num FixW Qb Qt Qa Qf Qg VecW VecV VecU LightQ LightC MeshM Rec MeshA MeshB MeshC MeshD MeshE MeshP HitM HitT HitB HitX HitN HitC
theorem idx2_0 (a b : Int) (w : World) : (Instr.index 125 (.agg #[.int .i64 a, .int .i64 b]) (.int .i64 0)).run Tryz.prog w = .ok (.int .i64 a) w := by kernel_rfl
theorem idx2_1 (a b : Int) (w : World) : (Instr.index 125 (.agg #[.int .i64 a, .int .i64 b]) (.int .i64 1)).run Tryz.prog w = .ok (.int .i64 b) w := by kernel_rfl
theorem al3h (w : World) (A B C : Obj) : (((w.alloc A).alloc B).alloc C).heap[w.heap.size]? = some A ∧ (((w.alloc A).alloc B).alloc C).heap[w.heap.size + 1]? = some B ∧ (((w.alloc A).alloc B).alloc C).heap[w.heap.size + 1 + 1]? = some C ∧ Below w.heap.size w (((w.alloc A).alloc B).alloc C) :=
 ⟨(heap_alloc_old _ _ (Base.lt_of_heap (alloc2_0 w A B))).trans (alloc2_0 _ _ _), (heap_alloc_old _ _ (Base.lt_of_heap (alloc2_1 w A B))).trans (alloc2_1 _ _ _), MeshQ.al3 _ _ _ _, MeshQ.al3_b _ _ _ _⟩
theorem ok_corners (m : Msh) (ok : m.ok) (i : Int) {a b c : V3} (h : cornersF m i = some (a, b, c)) : a.ok ∧ b.ok ∧ c.ok := by
 have pk : ∀ x, (ptF m x).ok := by
  intro x
  unfold ptF
  rw [List.getD_eq_getElem?_getD]
  by_cases h : x.toNat < m.ps.length
  ·
   rw [List.getElem?_eq_getElem h]; exact ok.ps _ (List.getElem_mem h)
  ·
   rw [List.getElem?_eq_none (by omega)]; exact ⟨⟨by decide, by decide⟩, ⟨by decide, by decide⟩, by decide, by decide⟩
 unfold cornersF at h
 split at h
 ·
  cases h
 split at h
 ·
  cases h; exact ⟨pk _, pk _, pk _⟩
 ·
  cases h
theorem ok_box (m : Msh) (ok : m.ok) (i : Int) : HitM.Bx.ok (boxF m i) := by
 have z : HitM.Bx.ok zeroB := ⟨⟨⟨by decide, by decide⟩, ⟨by decide, by decide⟩, by decide, by decide⟩, ⟨by decide, by decide⟩, ⟨by decide, by decide⟩, by decide, by decide⟩
 have pk : ∀ x, (ptF m x).ok := by
  intro x
  unfold ptF
  rw [List.getD_eq_getElem?_getD]
  by_cases h : x.toNat < m.ps.length
  ·
   rw [List.getElem?_eq_getElem h]; exact ok.ps _ (List.getElem_mem h)
  ·
   rw [List.getElem?_eq_none (by omega)]; exact ⟨⟨by decide, by decide⟩, ⟨by decide, by decide⟩, by decide, by decide⟩
 have mn : ∀ a b c, In a → In b → In c → In (min3 a b c) := by
  intro a b c ha hb hc
  unfold min3
  (repeat' split) <;> assumption
 have mx : ∀ a b c, In a → In b → In c → In (max3 a b c) := by
  intro a b c ha hb hc
  unfold max3
  (repeat' split) <;> assumption
 unfold boxF
 split
 ·
  exact z
 split
 ·
  unfold MeshP.triF
  split
  ·
   exact ⟨⟨mn _ _ _ (pk _).1 (pk _).1 (pk _).1, mn _ _ _ (pk _).2.1 (pk _).2.1 (pk _).2.1, mn _ _ _ (pk _).2.2 (pk _).2.2 (pk _).2.2⟩, mx _ _ _ (pk _).1 (pk _).1 (pk _).1, mx _ _ _ (pk _).2.1 (pk _).2.1 (pk _).2.1, mx _ _ _ (pk _).2.2 (pk _).2.2 (pk _).2.2⟩
  ·
   exact z
 ·
  exact ⟨⟨in_sub _ _, in_sub _ _, in_sub _ _⟩, in_add _ _, in_add _ _, in_add _ _⟩

set_option maxRecDepth 100000 in
set_option maxHeartbeats 16000000 in
theorem ballShape_any (v : Value) (m : Msh) (w : World) (hm : IsMesh w v m) (ok : m.ok) (hl : m.ts.length + m.bs.length ≤ 9223372036854775807) (j : Nat) (hj : j < m.bs.length) (i : Int) (hij : i = (m.ts.length : Int) + (j : Int)) (hi : In i) (r : Ry) (hr : r.ok) (least : Int) : Calls Tryz.prog 53 #[v, .int .i64 i, rayV r, .int .i64 least] w (VTo (shapeR (ballShapeF m i r least)) w) := by
 obtain ⟨a0, c0, a1, c1, a2, c2, rfl, h0, h1, h2, l0, l1, l2⟩ := hm.open_
 have HOK := Lib.hid ok
 have HRK := Lib.hid hr
 have HTB := Lib.hid hl
 have HIN := Lib.hid hi
 have HM0_ := Lib.hid hm
 have HBS0_ := Lib.hid h2
 obtain ⟨⟨oX, oY, oZ⟩, ⟨dX, dY, dZ⟩⟩ := r
 dsimp only [rayV] at *
 obtain ⟨hA, hB_, hC, hB0⟩ := al3h w (.cells #[.slice a0 m.ps.length c0, .slice a1 m.ts.length c1, .slice a2 m.bs.length c2] 31) (.cells #[.int .i64 oX, .int .i64 oY, .int .i64 oZ, .int .i64 dX, .int .i64 dY, .int .i64 dZ] 48) (.cells #[.int .i64 0, .int .i64 0, .int .i64 0, .int .i64 0] 42)
 obtain ⟨W, hW⟩ : ∃ ww, ww = ((w.alloc (.cells #[.slice a0 m.ps.length c0, .slice a1 m.ts.length c1, .slice a2 m.bs.length c2] 31)).alloc (.cells #[.int .i64 oX, .int .i64 oY, .int .i64 oZ, .int .i64 dX, .int .i64 dY, .int .i64 dZ] 48)).alloc (.cells #[.int .i64 0, .int .i64 0, .int .i64 0, .int .i64 0] 42) := ⟨_, rfl⟩
 rw [← hW] at hA hB_ hC hB0
 have HR0 := Lib.hid hA
 have HY0 := Lib.hid hB_
 have HZ0 := Lib.hid hC
 have HB0 := Lib.hid hB0
 have HM0 := Lib.hid (HM0_.out.below hB0)
 have HWW := Lib.hid hW
 clear hA hB_ hC hB0 hW hm h0 h1 h2 HM0_ l0 l1 l2 ok hr
 have wr_ : IntKind.i64.wrap (i - (m.ts.length : Int)) = (j : Int) := by rw [wrap_in (by omega) (by omega)]; omega
 have hjd : decide (j < m.bs.length) = true := decide_eq_true hj
 have hjd2 : decide ((j : Int) < (m.bs.length : Int)) = true := decide_eq_true (by omega)
 have hba : ballAt m i = m.bs[j] := by unfold ballAt; rw [hij, show (m.ts.length : Int) + (j : Int) - (m.ts.length : Int) = (j : Int) by omega]; simp [hj]
 obtain ⟨⟨⟨bX, bY, bZ⟩, br⟩, hbj⟩ : ∃ zz, zz = m.bs[j] := ⟨_, rfl⟩
 have okj : (⟨bX, bY, bZ⟩ : V3).ok ∧ In br := by have := HOK.out.bs m.bs[j] (List.getElem_mem hj); rw [← hbj] at this; exact this
 have HBO := Lib.hid okj
 rw [← hbj] at hba
 have HBJ := Lib.hid (fun h : j < m.bs.length => (hbj.symm : m.bs[j]'h = _))
 clear okj hbj hij hi
 obtain ⟨res, hres⟩ : ∃ zz, zz = ballShapeF m i ⟨⟨oX, oY, oZ⟩, ⟨dX, dY, dZ⟩⟩ least := ⟨_, rfl⟩
 rw [← hres]
 unfold ballShapeF at hres
 rw [hba] at hres
 have HRES := Lib.hid hres
 clear hres hba
 cases hbn : boxH ⟨⟨oX, oY, oZ⟩, ⟨dX, dY, dZ⟩⟩ (boxF m i)
 ·
  have hres : res = none := by rw [HRES.out, hbn]; rfl
  subst hres
  clear HRES
  go_enter Tryz.func53, Tryz.ntmps53
  go_upto_region 1 with (fail)
  rw [← HWW.out]
  clear HWW
  obtain ⟨⟨⟨p1, p2, p3⟩, ⟨p4, p5, p6⟩⟩, hbx⟩ : ∃ zz, zz = boxF m i := ⟨_, rfl⟩
  have okb := ok_box m HOK.out i
  rw [← hbx] at okb
  have Q1 := Lib.hid (qb (P := Tryz.prog) (W := W) (v := .agg #[.int .i64 p1, .int .i64 p2, .int .i64 p3, .int .i64 p4, .int .i64 p5, .int .i64 p6]) (fun w2 hb => by have := box_any _ m w2 (HM0.out.below hb) HOK.out HTB.out i HIN.out; rw [← hbx] at this; exact this))
  have Q2 := Lib.hid (qb (P := Tryz.prog) (W := W) (fun w2 hb => hbox_any ⟨⟨oX, oY, oZ⟩, ⟨dX, dY, dZ⟩⟩ ⟨⟨p1, p2, p3⟩, ⟨p4, p5, p6⟩⟩ HRK.out okb w2))
  have hbn2 := hbn
  rw [← hbx] at hbn2
  rw [hbn2] at Q2
  unfold boxR at Q2
  clear hbn2
  dsimp only [rayV, boxV, Option.getD_some, Option.getD_none, Option.isSome_some, Option.isSome_none] at Q2
  have hbx2 := hbx
  clear okb
  have fHR0 := fun d os => cell_regrown (cell_row HR0.out 0 _ rfl) d os
  have fHR1 := fun d os => cell_regrown (cell_row HR0.out 1 _ rfl) d os
  have fHR2 := fun d os => cell_regrown (cell_row HR0.out 2 _ rfl) d os
  have fHY0 := fun d os => cell_regrown (cell_row HY0.out 0 _ rfl) d os
  have fHY1 := fun d os => cell_regrown (cell_row HY0.out 1 _ rfl) d os
  have fHY2 := fun d os => cell_regrown (cell_row HY0.out 2 _ rfl) d os
  have fHY3 := fun d os => cell_regrown (cell_row HY0.out 3 _ rfl) d os
  have fHY4 := fun d os => cell_regrown (cell_row HY0.out 4 _ rfl) d os
  have fHY5 := fun d os => cell_regrown (cell_row HY0.out 5 _ rfl) d os
  refine wp_region_quiet_below (by kernel_rfl) (by kernel_rfl) ?_
  repeat (go_big_quiet_step (first | (with_reducible exact Q1.out _ _) | (with_reducible exact Q2.out _ _)))
  refine wpQuiet_nil ?_
  first | (rintro _ ⟨⟨dq, osq⟩, rfl⟩) | (rintro ⟨dq, osq⟩)
  have hb := below_regrown W dq osq
  obtain ⟨y1, hW⟩ : ∃ ww, ww = grow (redrawn W dq) osq := ⟨_, rfl⟩
  rw [← hW] at hb ⊢
  clear hW
  have HR1 := Lib.hid (vec_step HR0.out hb)
  have HY1 := Lib.hid (vec_step HY0.out hb)
  have HZ1 := Lib.hid (vec_step HZ0.out hb)
  have HB1 := Lib.hid (HB0.out.trans (hb.mono HB0.out.size))
  have HM1 := Lib.hid (HM0.out.below hb)
  clear HR0 HY0 HZ0 HB0 HM0 hb  fHR0 fHR1 fHR2 fHY0 fHY1 fHY2 fHY3 fHY4 fHY5
  go_wp2_with fail
  refine (none_any _).mono ?_
  rintro e y2 ⟨rfl, hb⟩
  have HR2 := Lib.hid (vec_step HR1.out hb)
  have HY2 := Lib.hid (vec_step HY1.out hb)
  have HZ2 := Lib.hid (vec_step HZ1.out hb)
  have HB2 := Lib.hid (HB1.out.trans (hb.mono HB1.out.size))
  have HM2 := Lib.hid (HM1.out.below hb)
  clear HR1 HY1 HZ1 HB1 HM1 hb  
  go_wp2_with (with_reducible refine store_hit rfl (.tmp 8) (.tmp 26) rfl rfl (w.heap.size + 1 + 1) 0 (-1) 0 0 rfl rfl _ HZ2.out rfl ?_)
  refine bodyPost_ret (results_row_tmp rfl _ _ _ (w.heap.size + 1 + 1) 42 _ _ _ rfl (setRow_heap _ _ _ _ _ _ HZ2.out) Tryz.underlying42 hit_size) rfl ?_
  exact ⟨rfl, below_setRow HB2.out (by omega) _⟩
 ·
  rename_i near
  rw [hbn] at HRES
  simp only [Option.bind_some] at HRES
  go_enter Tryz.func53, Tryz.ntmps53
  go_upto_region 1 with (fail)
  rw [← HWW.out]
  clear HWW
  obtain ⟨⟨⟨p1, p2, p3⟩, ⟨p4, p5, p6⟩⟩, hbx⟩ : ∃ zz, zz = boxF m i := ⟨_, rfl⟩
  have okb := ok_box m HOK.out i
  rw [← hbx] at okb
  have Q1 := Lib.hid (qb (P := Tryz.prog) (W := W) (v := .agg #[.int .i64 p1, .int .i64 p2, .int .i64 p3, .int .i64 p4, .int .i64 p5, .int .i64 p6]) (fun w2 hb => by have := box_any _ m w2 (HM0.out.below hb) HOK.out HTB.out i HIN.out; rw [← hbx] at this; exact this))
  have Q2 := Lib.hid (qb (P := Tryz.prog) (W := W) (fun w2 hb => hbox_any ⟨⟨oX, oY, oZ⟩, ⟨dX, dY, dZ⟩⟩ ⟨⟨p1, p2, p3⟩, ⟨p4, p5, p6⟩⟩ HRK.out okb w2))
  have hbn2 := hbn
  rw [← hbx] at hbn2
  rw [hbn2] at Q2
  unfold boxR at Q2
  clear hbn2
  dsimp only [rayV, boxV, Option.getD_some, Option.getD_none, Option.isSome_some, Option.isSome_none] at Q2
  have hbx2 := hbx
  clear okb
  have fHR0 := fun d os => cell_regrown (cell_row HR0.out 0 _ rfl) d os
  have fHR1 := fun d os => cell_regrown (cell_row HR0.out 1 _ rfl) d os
  have fHR2 := fun d os => cell_regrown (cell_row HR0.out 2 _ rfl) d os
  have fHY0 := fun d os => cell_regrown (cell_row HY0.out 0 _ rfl) d os
  have fHY1 := fun d os => cell_regrown (cell_row HY0.out 1 _ rfl) d os
  have fHY2 := fun d os => cell_regrown (cell_row HY0.out 2 _ rfl) d os
  have fHY3 := fun d os => cell_regrown (cell_row HY0.out 3 _ rfl) d os
  have fHY4 := fun d os => cell_regrown (cell_row HY0.out 4 _ rfl) d os
  have fHY5 := fun d os => cell_regrown (cell_row HY0.out 5 _ rfl) d os
  refine wp_region_quiet_below (by kernel_rfl) (by kernel_rfl) ?_
  repeat (go_big_quiet_step (first | (with_reducible exact Q1.out _ _) | (with_reducible exact Q2.out _ _)))
  refine wpQuiet_nil ?_
  first | (rintro _ ⟨⟨dq, osq⟩, rfl⟩) | (rintro ⟨dq, osq⟩)
  have hb := below_regrown W dq osq
  obtain ⟨y3, hW⟩ : ∃ ww, ww = grow (redrawn W dq) osq := ⟨_, rfl⟩
  rw [← hW] at hb ⊢
  clear hW
  have HR1 := Lib.hid (vec_step HR0.out hb)
  have HY1 := Lib.hid (vec_step HY0.out hb)
  have HZ1 := Lib.hid (vec_step HZ0.out hb)
  have HB1 := Lib.hid (HB0.out.trans (hb.mono HB0.out.size))
  have HM1 := Lib.hid (HM0.out.below hb)
  clear HR0 HY0 HZ0 HB0 HM0 hb  fHR0 fHR1 fHR2 fHY0 fHY1 fHY2 fHY3 fHY4 fHY5
  clear Q1 Q2
  cases hbl : ballH ⟨⟨oX, oY, oZ⟩, ⟨dX, dY, dZ⟩⟩ ⟨⟨bX, bY, bZ⟩, br⟩
  ·
   have hres : res = none := by rw [HRES.out, hbl]; rfl
   subst hres
   clear HRES
   go_upto_region 4 with (fail)
   have Q3 := Lib.hid (qb (P := Tryz.prog) (W := y3) (fun w2 hb => ball_any ⟨⟨oX, oY, oZ⟩, ⟨dX, dY, dZ⟩⟩ ⟨⟨bX, bY, bZ⟩, br⟩ HRK.out HBO.out.1 HBO.out.2 w2))
   rw [hbl] at Q3
   unfold ballR at Q3
   dsimp only [rayV, boxV, Option.getD_some, Option.getD_none, Option.isSome_some, Option.isSome_none] at Q3
   obtain ⟨b9, o9, e, -, u0, u1, u2, u3⟩ := at4 (HBS0_.out.below HB1.out (Nat.le_refl _)) j hj
   subst e
   rw [HBJ.out hj] at u0 u1 u2 u3
   dsimp only at u0 u1 u2 u3
   have fu0 := fun d os => cell_regrown u0 d os
   have fu1 := fun d os => cell_regrown u1 d os
   have fu2 := fun d os => cell_regrown u2 d os
   have fu3 := fun d os => cell_regrown u3 d os
   clear u0 u1 u2 u3
   have fHR0 := fun d os => cell_regrown (cell_row HR1.out 0 _ rfl) d os
   have fHR1 := fun d os => cell_regrown (cell_row HR1.out 1 _ rfl) d os
   have fHR2 := fun d os => cell_regrown (cell_row HR1.out 2 _ rfl) d os
   have fHY0 := fun d os => cell_regrown (cell_row HY1.out 0 _ rfl) d os
   have fHY1 := fun d os => cell_regrown (cell_row HY1.out 1 _ rfl) d os
   have fHY2 := fun d os => cell_regrown (cell_row HY1.out 2 _ rfl) d os
   have fHY3 := fun d os => cell_regrown (cell_row HY1.out 3 _ rfl) d os
   have fHY4 := fun d os => cell_regrown (cell_row HY1.out 4 _ rfl) d os
   have fHY5 := fun d os => cell_regrown (cell_row HY1.out 5 _ rfl) d os
   refine wp_region_quiet_below (by kernel_rfl) (by kernel_rfl) ?_
   repeat (go_big_quiet_step (first | (with_reducible exact Q3.out _ _)))
   refine wpQuiet_nil ?_
   first | (rintro _ ⟨⟨dq, osq⟩, rfl⟩) | (rintro ⟨dq, osq⟩)
   have hb := below_regrown y3 dq osq
   obtain ⟨y4, hW⟩ : ∃ ww, ww = grow (redrawn y3 dq) osq := ⟨_, rfl⟩
   rw [← hW] at hb ⊢
   clear hW
   have HR2 := Lib.hid (vec_step HR1.out hb)
   have HY2 := Lib.hid (vec_step HY1.out hb)
   have HZ2 := Lib.hid (vec_step HZ1.out hb)
   have HB2 := Lib.hid (HB1.out.trans (hb.mono HB1.out.size))
   have HM2 := Lib.hid (HM1.out.below hb)
   clear HR1 HY1 HZ1 HB1 HM1 hb  fHR0 fHR1 fHR2 fHY0 fHY1 fHY2 fHY3 fHY4 fHY5
   clear Q3 fu0 fu1 fu2 fu3
   go_wp2_with fail
   refine (none_any _).mono ?_
   rintro e y5 ⟨rfl, hb⟩
   have HR3 := Lib.hid (vec_step HR2.out hb)
   have HY3 := Lib.hid (vec_step HY2.out hb)
   have HZ3 := Lib.hid (vec_step HZ2.out hb)
   have HB3 := Lib.hid (HB2.out.trans (hb.mono HB2.out.size))
   have HM3 := Lib.hid (HM2.out.below hb)
   clear HR2 HY2 HZ2 HB2 HM2 hb  
   go_wp2_with (with_reducible refine store_hit rfl (.tmp 8) (.tmp 44) rfl rfl (w.heap.size + 1 + 1) 0 (-1) 0 0 rfl rfl _ HZ3.out rfl ?_)
   refine bodyPost_ret (results_row_tmp rfl _ _ _ (w.heap.size + 1 + 1) 42 _ _ _ rfl (setRow_heap _ _ _ _ _ _ HZ3.out) Tryz.underlying42 hit_size) rfl ?_
   exact ⟨rfl, below_setRow HB3.out (by omega) _⟩
  ·
   rename_i pr
   obtain ⟨x, y⟩ := pr
   rw [hbl] at HRES
   simp only [Option.bind_some] at HRES
   go_upto_region 4 with (fail)
   have Q3 := Lib.hid (qb (P := Tryz.prog) (W := y3) (fun w2 hb => ball_any ⟨⟨oX, oY, oZ⟩, ⟨dX, dY, dZ⟩⟩ ⟨⟨bX, bY, bZ⟩, br⟩ HRK.out HBO.out.1 HBO.out.2 w2))
   rw [hbl] at Q3
   unfold ballR at Q3
   dsimp only [rayV, boxV, Option.getD_some, Option.getD_none, Option.isSome_some, Option.isSome_none] at Q3
   obtain ⟨b9, o9, e, -, u0, u1, u2, u3⟩ := at4 (HBS0_.out.below HB1.out (Nat.le_refl _)) j hj
   subst e
   rw [HBJ.out hj] at u0 u1 u2 u3
   dsimp only at u0 u1 u2 u3
   have fu0 := fun d os => cell_regrown u0 d os
   have fu1 := fun d os => cell_regrown u1 d os
   have fu2 := fun d os => cell_regrown u2 d os
   have fu3 := fun d os => cell_regrown u3 d os
   clear u0 u1 u2 u3
   have fHR0 := fun d os => cell_regrown (cell_row HR1.out 0 _ rfl) d os
   have fHR1 := fun d os => cell_regrown (cell_row HR1.out 1 _ rfl) d os
   have fHR2 := fun d os => cell_regrown (cell_row HR1.out 2 _ rfl) d os
   have fHY0 := fun d os => cell_regrown (cell_row HY1.out 0 _ rfl) d os
   have fHY1 := fun d os => cell_regrown (cell_row HY1.out 1 _ rfl) d os
   have fHY2 := fun d os => cell_regrown (cell_row HY1.out 2 _ rfl) d os
   have fHY3 := fun d os => cell_regrown (cell_row HY1.out 3 _ rfl) d os
   have fHY4 := fun d os => cell_regrown (cell_row HY1.out 4 _ rfl) d os
   have fHY5 := fun d os => cell_regrown (cell_row HY1.out 5 _ rfl) d os
   refine wp_region_quiet_below (by kernel_rfl) (by kernel_rfl) ?_
   repeat (go_big_quiet_step (first | (with_reducible exact Q3.out _ _)))
   refine wpQuiet_nil ?_
   first | (rintro _ ⟨⟨dq, osq⟩, rfl⟩) | (rintro ⟨dq, osq⟩)
   have hb := below_regrown y3 dq osq
   obtain ⟨y6, hW⟩ : ∃ ww, ww = grow (redrawn y3 dq) osq := ⟨_, rfl⟩
   rw [← hW] at hb ⊢
   clear hW
   have HR2 := Lib.hid (vec_step HR1.out hb)
   have HY2 := Lib.hid (vec_step HY1.out hb)
   have HZ2 := Lib.hid (vec_step HZ1.out hb)
   have HB2 := Lib.hid (HB1.out.trans (hb.mono HB1.out.size))
   have HM2 := Lib.hid (HM1.out.below hb)
   clear HR1 HY1 HZ1 HB1 HM1 hb  fHR0 fHR1 fHR2 fHY0 fHY1 fHY2 fHY3 fHY4 fHY5
   clear Q3 fu0 fu1 fu2 fu3
   obtain ⟨mx, hmx⟩ : ∃ zz, zz = maxI x near := ⟨_, rfl⟩
   obtain ⟨my, hmy⟩ : ∃ zz, zz = maxI y near := ⟨_, rfl⟩
   have MX := max2_at hmx
   have MY := max2_at hmy
   have HPK : Hid (res = if 0 ≤ x ∧ least ≤ mx then some ⟨mx, i, 0, 0⟩ else if 0 ≤ y ∧ least ≤ my then some ⟨my, i, 0, 0⟩ else none) := Lib.hid (by rw [HRES.out, hmx, hmy]; rfl)
   clear HRES hmx hmy
   have i0 := idx2_0
   have i1 := idx2_1
   go_wp2_with fail
   go_loopg [48] 2 (fun r n9 wr => ∃ k : Int, 0 ≤ k ∧ k + (r : Int) = 2 ∧ n9 = .int .i64 k ∧ Hid (Below y6.heap.size y6 wr ∧ (0 < k → ¬ (0 ≤ x ∧ least ≤ mx)) ∧ (1 < k → ¬ (0 ≤ y ∧ least ≤ my))))
   case atStart => exact ⟨0, by omega, by omega, rfl, Lib.hid ⟨Below.refl _ _, by omega, by omega⟩⟩
   case round =>
    obtain ⟨k, hk0, hkr, rfl, hin⟩ := hrel
    have hb := hin.out.1
    have HR3 := Lib.hid (vec_step HR2.out hb)
    have HY3 := Lib.hid (vec_step HY2.out hb)
    have HZ3 := Lib.hid (vec_step HZ2.out hb)
    have HB3 := Lib.hid (HB2.out.trans (hb.mono HB2.out.size))
    have HM3 := Lib.hid (HM2.out.below hb)
    clear HR2 HY2 HZ2 HB2 HM2 hb  
    have HKR := Lib.hid hkr
    clear hkr
    rcases (show k = 0 ∨ k = 1 ∨ k = 2 by have := HKR.out; omega) with rfl | rfl | rfl
    ·
     by_cases h1 : x < 0
     ·
      have d2 : decide (x < 0) = true := decide_eq_true h1
      go_wp2_with fail
      go_roundg 1
      case measure => have := HKR.out; omega
      case rel => exact ⟨1, by omega, by omega, rfl, Lib.hid ⟨hin.out.1, fun _ => fun h => by omega, by omega⟩⟩
     ·
      have d2 : decide (x < 0) = false := decide_eq_false h1
      by_cases h2 : least ≤ mx
      ·
       have d3 : decide (least ≤ mx) = true := decide_eq_true h2
       have hres : res = some ⟨mx, i, 0, 0⟩ := by rw [HPK.out, if_pos ⟨by omega, h2⟩]
       subst hres
       go_wp2_with (with_reducible refine store_hit rfl (.tmp 8) (.tmp 61) rfl rfl (w.heap.size + 1 + 1) mx i 0 0 rfl rfl _ HZ3.out rfl ?_)
       refine bodyPost_ret (results_row_tmp rfl _ _ _ (w.heap.size + 1 + 1) 42 _ _ _ rfl (setRow_heap _ _ _ _ _ _ HZ3.out) Tryz.underlying42 hit_size) rfl ?_
       exact ⟨rfl, below_setRow HB3.out (by omega) _⟩
      ·
       have d3 : decide (least ≤ mx) = false := decide_eq_false h2
       go_wp2_with fail
       go_roundg 1
       case measure => have := HKR.out; omega
       case rel => exact ⟨1, by omega, by omega, rfl, Lib.hid ⟨hin.out.1, fun _ => fun h => by have := h.2; omega, by omega⟩⟩
    ·
     by_cases h1 : y < 0
     ·
      have d2 : decide (y < 0) = true := decide_eq_true h1
      go_wp2_with fail
      go_roundg 0
      case measure => have := HKR.out; omega
      case rel => exact ⟨2, by omega, by omega, rfl, Lib.hid ⟨hin.out.1, fun _ => hin.out.2.1 (by omega), fun _ => fun h => by omega⟩⟩
     ·
      have d2 : decide (y < 0) = false := decide_eq_false h1
      by_cases h2 : least ≤ my
      ·
       have d3 : decide (least ≤ my) = true := decide_eq_true h2
       have hres : res = some ⟨my, i, 0, 0⟩ := by rw [HPK.out, if_neg (hin.out.2.1 (by omega)), if_pos ⟨by omega, h2⟩]
       subst hres
       go_wp2_with (with_reducible refine store_hit rfl (.tmp 8) (.tmp 61) rfl rfl (w.heap.size + 1 + 1) my i 0 0 rfl rfl _ HZ3.out rfl ?_)
       refine bodyPost_ret (results_row_tmp rfl _ _ _ (w.heap.size + 1 + 1) 42 _ _ _ rfl (setRow_heap _ _ _ _ _ _ HZ3.out) Tryz.underlying42 hit_size) rfl ?_
       exact ⟨rfl, below_setRow HB3.out (by omega) _⟩
      ·
       have d3 : decide (least ≤ my) = false := decide_eq_false h2
       go_wp2_with fail
       go_roundg 0
       case measure => have := HKR.out; omega
       case rel => exact ⟨2, by omega, by omega, rfl, Lib.hid ⟨hin.out.1, fun _ => hin.out.2.1 (by omega), fun _ => fun h => by have := h.2; omega⟩⟩
    ·
     have hres : res = none := by rw [HPK.out, if_neg (hin.out.2.1 (by omega)), if_neg (hin.out.2.2 (by omega))]
     subst hres
     go_wp2_with fail
     refine (none_any _).mono ?_
     rintro e y7 ⟨rfl, hb⟩
     have HR4 := Lib.hid (vec_step HR3.out hb)
     have HY4 := Lib.hid (vec_step HY3.out hb)
     have HZ4 := Lib.hid (vec_step HZ3.out hb)
     have HB4 := Lib.hid (HB3.out.trans (hb.mono HB3.out.size))
     have HM4 := Lib.hid (HM3.out.below hb)
     clear HR3 HY3 HZ3 HB3 HM3 hb  
     go_wp2_with (with_reducible refine store_hit rfl (.tmp 8) (.tmp 63) rfl rfl (w.heap.size + 1 + 1) 0 (-1) 0 0 rfl rfl _ HZ4.out rfl ?_)
     refine bodyPost_ret (results_row_tmp rfl _ _ _ (w.heap.size + 1 + 1) 42 _ _ _ rfl (setRow_heap _ _ _ _ _ _ HZ4.out) Tryz.underlying42 hit_size) rfl ?_
     exact ⟨rfl, below_setRow HB4.out (by omega) _⟩

set_option maxRecDepth 100000 in
set_option maxHeartbeats 16000000 in
theorem shape_any (v : Value) (m : Msh) (w : World) (hm : IsMesh w v m) (ok : m.ok) (hl : m.ts.length + m.bs.length ≤ 9223372036854775807) (i : Int) (hi : In i) (r : Ry) (hr : r.ok) (least : Int) : Calls Tryz.prog 30 #[v, .int .i64 i, rayV r, .int .i64 least] w (VTo (shapeR (shapeF m i r least)) w) := by
 have CBS := Lib.hid (fun w2 (hb : Below w.heap.size w w2) (j : Nat) (hj : j < m.bs.length) (hij : i = (m.ts.length : Int) + (j : Int)) => ballShape_any v m w2 (hm.below hb) ok hl j hj i hij hi r hr least)
 have CCN := Lib.hid (fun w2 (hb : Below w.heap.size w w2) => count_any v m w2 (hm.below hb) hl)
 have CCO := Lib.hid (fun w2 (hb : Below w.heap.size w w2) => corners_any v m w2 (hm.below hb) i)
 obtain ⟨a0, c0, a1, c1, a2, c2, rfl, h0, h1, h2, l0, l1, l2⟩ := hm.open_
 have HOK := Lib.hid ok
 have HRK := Lib.hid hr
 have HTB := Lib.hid hl
 have HIN := Lib.hid hi
 have HM0_ := Lib.hid hm
 have HBS0_ := Lib.hid h2
 obtain ⟨⟨oX, oY, oZ⟩, ⟨dX, dY, dZ⟩⟩ := r
 dsimp only [rayV] at *
 obtain ⟨hA, hB_, hC, hB0⟩ := al3h w (.cells #[.slice a0 m.ps.length c0, .slice a1 m.ts.length c1, .slice a2 m.bs.length c2] 31) (.cells #[.int .i64 oX, .int .i64 oY, .int .i64 oZ, .int .i64 dX, .int .i64 dY, .int .i64 dZ] 48) (.cells #[.int .i64 0, .int .i64 0, .int .i64 0, .int .i64 0] 42)
 obtain ⟨W, hW⟩ : ∃ ww, ww = ((w.alloc (.cells #[.slice a0 m.ps.length c0, .slice a1 m.ts.length c1, .slice a2 m.bs.length c2] 31)).alloc (.cells #[.int .i64 oX, .int .i64 oY, .int .i64 oZ, .int .i64 dX, .int .i64 dY, .int .i64 dZ] 48)).alloc (.cells #[.int .i64 0, .int .i64 0, .int .i64 0, .int .i64 0] 42) := ⟨_, rfl⟩
 rw [← hW] at hA hB_ hC hB0
 have HR0 := Lib.hid hA
 have HY0 := Lib.hid hB_
 have HZ0 := Lib.hid hC
 have HB0 := Lib.hid hB0
 have HM0 := Lib.hid (HM0_.out.below hB0)
 have HWW := Lib.hid hW
 clear hA hB_ hC hB0 hW hm h0 h1 h2 HM0_ l0 l1 l2 ok hr
 obtain ⟨N, hN⟩ : ∃ zz : Int, zz = ((m.ts.length + m.bs.length : Nat) : Int) := ⟨_, rfl⟩
 rw [← hN] at CCN
 have HN : N = (m.ts.length : Int) + (m.bs.length : Int) := by rw [hN]; omega
 clear hN
 obtain ⟨res, hres⟩ : ∃ zz, zz = shapeF m i ⟨⟨oX, oY, oZ⟩, ⟨dX, dY, dZ⟩⟩ least := ⟨_, rfl⟩
 rw [← hres]
 unfold shapeF at hres
 by_cases h0 : i < 0
 ·
  have d0 : decide (i < 0) = true := decide_eq_true h0
  have hr0 : res = none := by rw [hres, if_pos (.inl h0)]
  subst hr0
  clear hres h0
  go_enter Tryz.func30, Tryz.ntmps30
  go_upto_region 1 with (fail)
  rw [← HWW.out]
  clear HWW
  go_wp2_with fail
  refine (none_any _).mono ?_
  rintro e y8 ⟨rfl, hb⟩
  have HR1 := Lib.hid (vec_step HR0.out hb)
  have HY1 := Lib.hid (vec_step HY0.out hb)
  have HZ1 := Lib.hid (vec_step HZ0.out hb)
  have HB1 := Lib.hid (HB0.out.trans (hb.mono HB0.out.size))
  have HM1 := Lib.hid (HM0.out.below hb)
  clear HR0 HY0 HZ0 HB0 HM0 hb  
  go_wp2_with (with_reducible refine store_hit rfl (.tmp 8) (.tmp 24) rfl rfl (w.heap.size + 1 + 1) 0 (-1) 0 0 rfl rfl _ HZ1.out rfl ?_)
  refine bodyPost_ret (results_row_tmp rfl _ _ _ (w.heap.size + 1 + 1) 42 _ _ _ rfl (setRow_heap _ _ _ _ _ _ HZ1.out) Tryz.underlying42 hit_size) rfl ?_
  exact ⟨rfl, below_setRow HB1.out (by omega) _⟩
 have d0 : decide (i < 0) = false := decide_eq_false h0
 by_cases h1 : N ≤ i
 ·
  have d1 : decide (N ≤ i) = true := decide_eq_true h1
  have hr0 : res = none := by rw [hres, if_pos (.inr (by omega))]
  subst hr0
  clear hres h1 h0 HN
  go_enter Tryz.func30, Tryz.ntmps30
  go_upto_region 1 with (fail)
  rw [← HWW.out]
  clear HWW
  have cHR0 := cell_row HR0.out 0 _ rfl
  have cHR1 := cell_row HR0.out 1 _ rfl
  have cHR2 := cell_row HR0.out 2 _ rfl
  go_wp2_with fail
  refine (CCN.out _ HB0.out).mono ?_
  rintro e y9 ⟨rfl, hb⟩
  have HR1 := Lib.hid (vec_step HR0.out hb)
  have HY1 := Lib.hid (vec_step HY0.out hb)
  have HZ1 := Lib.hid (vec_step HZ0.out hb)
  have HB1 := Lib.hid (HB0.out.trans (hb.mono HB0.out.size))
  have HM1 := Lib.hid (HM0.out.below hb)
  clear HR0 HY0 HZ0 HB0 HM0 hb cHR0 cHR1 cHR2 
  go_wp2_with fail
  refine (none_any _).mono ?_
  rintro e y10 ⟨rfl, hb⟩
  have HR2 := Lib.hid (vec_step HR1.out hb)
  have HY2 := Lib.hid (vec_step HY1.out hb)
  have HZ2 := Lib.hid (vec_step HZ1.out hb)
  have HB2 := Lib.hid (HB1.out.trans (hb.mono HB1.out.size))
  have HM2 := Lib.hid (HM1.out.below hb)
  clear HR1 HY1 HZ1 HB1 HM1 hb  
  go_wp2_with (with_reducible refine store_hit rfl (.tmp 8) (.tmp 24) rfl rfl (w.heap.size + 1 + 1) 0 (-1) 0 0 rfl rfl _ HZ2.out rfl ?_)
  refine bodyPost_ret (results_row_tmp rfl _ _ _ (w.heap.size + 1 + 1) 42 _ _ _ rfl (setRow_heap _ _ _ _ _ _ HZ2.out) Tryz.underlying42 hit_size) rfl ?_
  exact ⟨rfl, below_setRow HB2.out (by omega) _⟩
 have d1 : decide (N ≤ i) = false := decide_eq_false h1
 rw [if_neg (by omega)] at hres
 by_cases h2 : (m.ts.length : Int) ≤ i
 ·
  have d2 : decide ((m.ts.length : Int) ≤ i) = true := decide_eq_true h2
  rw [if_pos h2] at hres
  obtain ⟨j, hj⟩ : ∃ j : Nat, (j : Int) = i - (m.ts.length : Int) := ⟨(i - (m.ts.length : Int)).toNat, by omega⟩
  have CB2 : Hid (∀ w2, Below w.heap.size w w2 → Calls Tryz.prog 53 #[.agg #[.slice a0 m.ps.length c0, .slice a1 m.ts.length c1, .slice a2 m.bs.length c2], .int .i64 i, .agg #[.int .i64 oX, .int .i64 oY, .int .i64 oZ, .int .i64 dX, .int .i64 dY, .int .i64 dZ], .int .i64 least] w2 (VTo (shapeR res) w2)) := Lib.hid (fun w2 hb => by rw [hres]; exact CBS.out w2 hb j (by omega) (by omega))
  clear hres h0 h1 h2 hj HN CBS
  obtain ⟨⟨rt, ri, ru, rv⟩, hgd⟩ : ∃ zz, zz = res.getD htN := ⟨_, rfl⟩
  obtain ⟨ro, hro⟩ : ∃ zz, zz = res.isSome := ⟨_, rfl⟩
  unfold shapeR at CB2 ⊢
  rw [← hgd, ← hro] at CB2 ⊢
  dsimp only [hitV] at CB2 ⊢
  clear hgd hro
  go_enter Tryz.func30, Tryz.ntmps30
  go_upto_region 1 with (fail)
  rw [← HWW.out]
  clear HWW
  have cHR0 := cell_row HR0.out 0 _ rfl
  have cHR1 := cell_row HR0.out 1 _ rfl
  have cHR2 := cell_row HR0.out 2 _ rfl
  go_wp2_with fail
  refine (CCN.out _ HB0.out).mono ?_
  rintro e y11 ⟨rfl, hb⟩
  have HR1 := Lib.hid (vec_step HR0.out hb)
  have HY1 := Lib.hid (vec_step HY0.out hb)
  have HZ1 := Lib.hid (vec_step HZ0.out hb)
  have HB1 := Lib.hid (HB0.out.trans (hb.mono HB0.out.size))
  have HM1 := Lib.hid (HM0.out.below hb)
  clear HR0 HY0 HZ0 HB0 HM0 hb cHR0 cHR1 cHR2 
  have cHR0 := cell_row HR1.out 0 _ rfl
  have cHR1 := cell_row HR1.out 1 _ rfl
  have cHR2 := cell_row HR1.out 2 _ rfl
  have cHY0 := cell_row HY1.out 0 _ rfl
  have cHY1 := cell_row HY1.out 1 _ rfl
  have cHY2 := cell_row HY1.out 2 _ rfl
  have cHY3 := cell_row HY1.out 3 _ rfl
  have cHY4 := cell_row HY1.out 4 _ rfl
  have cHY5 := cell_row HY1.out 5 _ rfl
  go_wp2_with fail
  refine (CB2.out _ HB1.out).mono ?_
  rintro e y12 ⟨rfl, hb⟩
  have HR2 := Lib.hid (vec_step HR1.out hb)
  have HY2 := Lib.hid (vec_step HY1.out hb)
  have HZ2 := Lib.hid (vec_step HZ1.out hb)
  have HB2 := Lib.hid (HB1.out.trans (hb.mono HB1.out.size))
  have HM2 := Lib.hid (HM1.out.below hb)
  clear HR1 HY1 HZ1 HB1 HM1 hb cHR0 cHR1 cHR2 cHY0 cHY1 cHY2 cHY3 cHY4 cHY5 
  go_wp2_with (with_reducible refine store_hit rfl (.tmp 8) (.tmp 35) rfl rfl (w.heap.size + 1 + 1) rt ri ru rv rfl rfl _ HZ2.out rfl ?_)
  refine bodyPost_ret (results_row_tmp rfl _ _ _ (w.heap.size + 1 + 1) 42 _ _ _ rfl (setRow_heap _ _ _ _ _ _ HZ2.out) Tryz.underlying42 hit_size) rfl ?_
  exact ⟨rfl, below_setRow HB2.out (by omega) _⟩
 ·
  have d2 : decide ((m.ts.length : Int) ≤ i) = false := decide_eq_false h2
  rw [if_neg h2] at hres
  unfold triShapeF at hres
  clear CBS h0 h1 h2 HN
  cases hco : cornersF m i
  ·
   have hr0 : res = none := by rw [hres, hco]; rfl
   subst hr0
   clear hres
   rw [hco] at CCO
   unfold cornersR at CCO
   dsimp only [vecV, Option.getD_some, Option.getD_none, Option.isSome_some, Option.isSome_none, v0] at CCO
   go_enter Tryz.func30, Tryz.ntmps30
   go_upto_region 1 with (fail)
   rw [← HWW.out]
   clear HWW
   have cHR0 := cell_row HR0.out 0 _ rfl
   have cHR1 := cell_row HR0.out 1 _ rfl
   have cHR2 := cell_row HR0.out 2 _ rfl
   go_wp2_with fail
   refine (CCN.out _ HB0.out).mono ?_
   rintro e y13 ⟨rfl, hb⟩
   have HR1 := Lib.hid (vec_step HR0.out hb)
   have HY1 := Lib.hid (vec_step HY0.out hb)
   have HZ1 := Lib.hid (vec_step HZ0.out hb)
   have HB1 := Lib.hid (HB0.out.trans (hb.mono HB0.out.size))
   have HM1 := Lib.hid (HM0.out.below hb)
   clear HR0 HY0 HZ0 HB0 HM0 hb cHR0 cHR1 cHR2 
   have cHR0 := cell_row HR1.out 0 _ rfl
   have cHR1 := cell_row HR1.out 1 _ rfl
   have cHR2 := cell_row HR1.out 2 _ rfl
   go_wp2_with fail
   refine (CCO.out _ HB1.out).mono ?_
   rintro e y14 ⟨rfl, hb⟩
   have HR2 := Lib.hid (vec_step HR1.out hb)
   have HY2 := Lib.hid (vec_step HY1.out hb)
   have HZ2 := Lib.hid (vec_step HZ1.out hb)
   have HB2 := Lib.hid (HB1.out.trans (hb.mono HB1.out.size))
   have HM2 := Lib.hid (HM1.out.below hb)
   clear HR1 HY1 HZ1 HB1 HM1 hb cHR0 cHR1 cHR2 
   go_upto_region 6 with (fail)
   obtain ⟨ka, kb, kc, hx⟩ := al3h y14 (.cells #[.int .i64 0, .int .i64 0, .int .i64 0] 46) (.cells #[.int .i64 0, .int .i64 0, .int .i64 0] 46) (.cells #[.int .i64 0, .int .i64 0, .int .i64 0] 46)
   obtain ⟨y15, hW⟩ : ∃ ww, ww = ((y14.alloc (.cells #[.int .i64 0, .int .i64 0, .int .i64 0] 46)).alloc (.cells #[.int .i64 0, .int .i64 0, .int .i64 0] 46)).alloc (.cells #[.int .i64 0, .int .i64 0, .int .i64 0] 46) := ⟨_, rfl⟩
   rw [← hW] at ka kb kc hx ⊢
   clear hW
   have HR3 := Lib.hid (vec_step HR2.out hx)
   have HY3 := Lib.hid (vec_step HY2.out hx)
   have HZ3 := Lib.hid (vec_step HZ2.out hx)
   have HB3 := Lib.hid (HB2.out.trans (hx.mono HB2.out.size))
   have HM3 := Lib.hid (HM2.out.below hx)
   clear HR2 HY2 HZ2 HB2 HM2 hx  
   have HCA3 := Lib.hid (ka)
   have HCB3 := Lib.hid (kb)
   have HCC3 := Lib.hid (kc)
   clear ka kb kc
   go_wp2_with fail
   refine (none_any _).mono ?_
   rintro e y16 ⟨rfl, hb⟩
   have HR4 := Lib.hid (vec_step HR3.out hb)
   have HY4 := Lib.hid (vec_step HY3.out hb)
   have HZ4 := Lib.hid (vec_step HZ3.out hb)
   have HB4 := Lib.hid (HB3.out.trans (hb.mono HB3.out.size))
   have HM4 := Lib.hid (HM3.out.below hb)
   have HCA4 := Lib.hid (vec_step HCA3.out hb)
   have HCB4 := Lib.hid (vec_step HCB3.out hb)
   have HCC4 := Lib.hid (vec_step HCC3.out hb)
   clear HR3 HY3 HZ3 HB3 HM3 HCA3 HCB3 HCC3 hb  
   go_wp2_with (with_reducible refine store_hit rfl (.tmp 8) (.tmp 47) rfl rfl (w.heap.size + 1 + 1) 0 (-1) 0 0 rfl rfl _ HZ4.out rfl ?_)
   refine bodyPost_ret (results_row_tmp rfl _ _ _ (w.heap.size + 1 + 1) 42 _ _ _ rfl (setRow_heap _ _ _ _ _ _ HZ4.out) Tryz.underlying42 hit_size) rfl ?_
   exact ⟨rfl, below_setRow HB4.out (by omega) _⟩
  ·
   rename_i co
   obtain ⟨⟨paX, paY, paZ⟩, ⟨pbX, pbY, pbZ⟩, ⟨pcX, pcY, pcZ⟩⟩ := co
   have oks := ok_corners m HOK.out i hco
   have HCK := Lib.hid oks
   clear oks
   rw [hco] at hres
   simp only [Option.bind_some] at hres
   have HRES := Lib.hid hres
   clear hres
   rw [hco] at CCO
   unfold cornersR at CCO
   dsimp only [vecV, Option.getD_some, Option.getD_none, Option.isSome_some, Option.isSome_none, v0] at CCO
   clear hco
   cases hbn : boxH ⟨⟨oX, oY, oZ⟩, ⟨dX, dY, dZ⟩⟩ (boxF m i)
   ·
    have hr0 : res = none := by rw [HRES.out, hbn]; rfl
    subst hr0
    clear HRES
    go_enter Tryz.func30, Tryz.ntmps30
    go_upto_region 1 with (fail)
    rw [← HWW.out]
    clear HWW
    have cHR0 := cell_row HR0.out 0 _ rfl
    have cHR1 := cell_row HR0.out 1 _ rfl
    have cHR2 := cell_row HR0.out 2 _ rfl
    go_wp2_with fail
    refine (CCN.out _ HB0.out).mono ?_
    rintro e y17 ⟨rfl, hb⟩
    have HR1 := Lib.hid (vec_step HR0.out hb)
    have HY1 := Lib.hid (vec_step HY0.out hb)
    have HZ1 := Lib.hid (vec_step HZ0.out hb)
    have HB1 := Lib.hid (HB0.out.trans (hb.mono HB0.out.size))
    have HM1 := Lib.hid (HM0.out.below hb)
    clear HR0 HY0 HZ0 HB0 HM0 hb cHR0 cHR1 cHR2 
    have cHR0 := cell_row HR1.out 0 _ rfl
    have cHR1 := cell_row HR1.out 1 _ rfl
    have cHR2 := cell_row HR1.out 2 _ rfl
    go_wp2_with fail
    refine (CCO.out _ HB1.out).mono ?_
    rintro e y18 ⟨rfl, hb⟩
    have HR2 := Lib.hid (vec_step HR1.out hb)
    have HY2 := Lib.hid (vec_step HY1.out hb)
    have HZ2 := Lib.hid (vec_step HZ1.out hb)
    have HB2 := Lib.hid (HB1.out.trans (hb.mono HB1.out.size))
    have HM2 := Lib.hid (HM1.out.below hb)
    clear HR1 HY1 HZ1 HB1 HM1 hb cHR0 cHR1 cHR2 
    go_upto_region 6 with (fail)
    obtain ⟨ka, kb, kc, hx⟩ := al3h y18 (.cells #[.int .i64 paX, .int .i64 paY, .int .i64 paZ] 46) (.cells #[.int .i64 pbX, .int .i64 pbY, .int .i64 pbZ] 46) (.cells #[.int .i64 pcX, .int .i64 pcY, .int .i64 pcZ] 46)
    obtain ⟨y19, hW⟩ : ∃ ww, ww = ((y18.alloc (.cells #[.int .i64 paX, .int .i64 paY, .int .i64 paZ] 46)).alloc (.cells #[.int .i64 pbX, .int .i64 pbY, .int .i64 pbZ] 46)).alloc (.cells #[.int .i64 pcX, .int .i64 pcY, .int .i64 pcZ] 46) := ⟨_, rfl⟩
    rw [← hW] at ka kb kc hx ⊢
    clear hW
    have HR3 := Lib.hid (vec_step HR2.out hx)
    have HY3 := Lib.hid (vec_step HY2.out hx)
    have HZ3 := Lib.hid (vec_step HZ2.out hx)
    have HB3 := Lib.hid (HB2.out.trans (hx.mono HB2.out.size))
    have HM3 := Lib.hid (HM2.out.below hx)
    clear HR2 HY2 HZ2 HB2 HM2 hx  
    have HCA3 := Lib.hid (ka)
    have HCB3 := Lib.hid (kb)
    have HCC3 := Lib.hid (kc)
    clear ka kb kc
    go_upto_region 8 with (fail)
    obtain ⟨⟨⟨p1, p2, p3⟩, ⟨p4, p5, p6⟩⟩, hbx⟩ : ∃ zz, zz = boxF m i := ⟨_, rfl⟩
    have okb := ok_box m HOK.out i
    rw [← hbx] at okb
    have Q1 := Lib.hid (qb (P := Tryz.prog) (W := y19) (v := .agg #[.int .i64 p1, .int .i64 p2, .int .i64 p3, .int .i64 p4, .int .i64 p5, .int .i64 p6]) (fun w2 hb => by have := box_any _ m w2 (HM3.out.below hb) HOK.out HTB.out i HIN.out; rw [← hbx] at this; exact this))
    have Q2 := Lib.hid (qb (P := Tryz.prog) (W := y19) (fun w2 hb => hbox_any ⟨⟨oX, oY, oZ⟩, ⟨dX, dY, dZ⟩⟩ ⟨⟨p1, p2, p3⟩, ⟨p4, p5, p6⟩⟩ HRK.out okb w2))
    have hbn2 := hbn
    rw [← hbx] at hbn2
    rw [hbn2] at Q2
    unfold boxR at Q2
    clear hbn2
    dsimp only [rayV, boxV, Option.getD_some, Option.getD_none, Option.isSome_some, Option.isSome_none] at Q2
    have hbx2 := hbx
    clear okb
    have fHR0 := fun d os => cell_regrown (cell_row HR3.out 0 _ rfl) d os
    have fHR1 := fun d os => cell_regrown (cell_row HR3.out 1 _ rfl) d os
    have fHR2 := fun d os => cell_regrown (cell_row HR3.out 2 _ rfl) d os
    have fHY0 := fun d os => cell_regrown (cell_row HY3.out 0 _ rfl) d os
    have fHY1 := fun d os => cell_regrown (cell_row HY3.out 1 _ rfl) d os
    have fHY2 := fun d os => cell_regrown (cell_row HY3.out 2 _ rfl) d os
    have fHY3 := fun d os => cell_regrown (cell_row HY3.out 3 _ rfl) d os
    have fHY4 := fun d os => cell_regrown (cell_row HY3.out 4 _ rfl) d os
    have fHY5 := fun d os => cell_regrown (cell_row HY3.out 5 _ rfl) d os
    refine wp_region_quiet_below (by kernel_rfl) (by kernel_rfl) ?_
    repeat (go_big_quiet_step (first | (with_reducible exact Q1.out _ _) | (with_reducible exact Q2.out _ _)))
    refine wpQuiet_nil ?_
    first | (rintro _ ⟨⟨dq, osq⟩, rfl⟩) | (rintro ⟨dq, osq⟩)
    have hb := below_regrown y19 dq osq
    obtain ⟨y20, hW⟩ : ∃ ww, ww = grow (redrawn y19 dq) osq := ⟨_, rfl⟩
    rw [← hW] at hb ⊢
    clear hW
    have HR4 := Lib.hid (vec_step HR3.out hb)
    have HY4 := Lib.hid (vec_step HY3.out hb)
    have HZ4 := Lib.hid (vec_step HZ3.out hb)
    have HB4 := Lib.hid (HB3.out.trans (hb.mono HB3.out.size))
    have HM4 := Lib.hid (HM3.out.below hb)
    have HCA4 := Lib.hid (vec_step HCA3.out hb)
    have HCB4 := Lib.hid (vec_step HCB3.out hb)
    have HCC4 := Lib.hid (vec_step HCC3.out hb)
    clear HR3 HY3 HZ3 HB3 HM3 HCA3 HCB3 HCC3 hb  fHR0 fHR1 fHR2 fHY0 fHY1 fHY2 fHY3 fHY4 fHY5
    clear Q1 Q2
    go_wp2_with fail
    refine (none_any _).mono ?_
    rintro e y21 ⟨rfl, hb⟩
    have HR5 := Lib.hid (vec_step HR4.out hb)
    have HY5 := Lib.hid (vec_step HY4.out hb)
    have HZ5 := Lib.hid (vec_step HZ4.out hb)
    have HB5 := Lib.hid (HB4.out.trans (hb.mono HB4.out.size))
    have HM5 := Lib.hid (HM4.out.below hb)
    have HCA5 := Lib.hid (vec_step HCA4.out hb)
    have HCB5 := Lib.hid (vec_step HCB4.out hb)
    have HCC5 := Lib.hid (vec_step HCC4.out hb)
    clear HR4 HY4 HZ4 HB4 HM4 HCA4 HCB4 HCC4 hb  
    go_wp2_with (with_reducible refine store_hit rfl (.tmp 8) (.tmp 58) rfl rfl (w.heap.size + 1 + 1) 0 (-1) 0 0 rfl rfl _ HZ5.out rfl ?_)
    refine bodyPost_ret (results_row_tmp rfl _ _ _ (w.heap.size + 1 + 1) 42 _ _ _ rfl (setRow_heap _ _ _ _ _ _ HZ5.out) Tryz.underlying42 hit_size) rfl ?_
    exact ⟨rfl, below_setRow HB5.out (by omega) _⟩
   ·
    rename_i near
    rw [hbn] at HRES
    simp only [Option.bind_some] at HRES
    go_enter Tryz.func30, Tryz.ntmps30
    go_upto_region 1 with (fail)
    rw [← HWW.out]
    clear HWW
    have cHR0 := cell_row HR0.out 0 _ rfl
    have cHR1 := cell_row HR0.out 1 _ rfl
    have cHR2 := cell_row HR0.out 2 _ rfl
    go_wp2_with fail
    refine (CCN.out _ HB0.out).mono ?_
    rintro e y22 ⟨rfl, hb⟩
    have HR1 := Lib.hid (vec_step HR0.out hb)
    have HY1 := Lib.hid (vec_step HY0.out hb)
    have HZ1 := Lib.hid (vec_step HZ0.out hb)
    have HB1 := Lib.hid (HB0.out.trans (hb.mono HB0.out.size))
    have HM1 := Lib.hid (HM0.out.below hb)
    clear HR0 HY0 HZ0 HB0 HM0 hb cHR0 cHR1 cHR2 
    have cHR0 := cell_row HR1.out 0 _ rfl
    have cHR1 := cell_row HR1.out 1 _ rfl
    have cHR2 := cell_row HR1.out 2 _ rfl
    go_wp2_with fail
    refine (CCO.out _ HB1.out).mono ?_
    rintro e y23 ⟨rfl, hb⟩
    have HR2 := Lib.hid (vec_step HR1.out hb)
    have HY2 := Lib.hid (vec_step HY1.out hb)
    have HZ2 := Lib.hid (vec_step HZ1.out hb)
    have HB2 := Lib.hid (HB1.out.trans (hb.mono HB1.out.size))
    have HM2 := Lib.hid (HM1.out.below hb)
    clear HR1 HY1 HZ1 HB1 HM1 hb cHR0 cHR1 cHR2 
    go_upto_region 6 with (fail)
    obtain ⟨ka, kb, kc, hx⟩ := al3h y23 (.cells #[.int .i64 paX, .int .i64 paY, .int .i64 paZ] 46) (.cells #[.int .i64 pbX, .int .i64 pbY, .int .i64 pbZ] 46) (.cells #[.int .i64 pcX, .int .i64 pcY, .int .i64 pcZ] 46)
    obtain ⟨y24, hW⟩ : ∃ ww, ww = ((y23.alloc (.cells #[.int .i64 paX, .int .i64 paY, .int .i64 paZ] 46)).alloc (.cells #[.int .i64 pbX, .int .i64 pbY, .int .i64 pbZ] 46)).alloc (.cells #[.int .i64 pcX, .int .i64 pcY, .int .i64 pcZ] 46) := ⟨_, rfl⟩
    rw [← hW] at ka kb kc hx ⊢
    clear hW
    have HR3 := Lib.hid (vec_step HR2.out hx)
    have HY3 := Lib.hid (vec_step HY2.out hx)
    have HZ3 := Lib.hid (vec_step HZ2.out hx)
    have HB3 := Lib.hid (HB2.out.trans (hx.mono HB2.out.size))
    have HM3 := Lib.hid (HM2.out.below hx)
    clear HR2 HY2 HZ2 HB2 HM2 hx  
    have HCA3 := Lib.hid (ka)
    have HCB3 := Lib.hid (kb)
    have HCC3 := Lib.hid (kc)
    clear ka kb kc
    go_upto_region 8 with (fail)
    obtain ⟨⟨⟨p1, p2, p3⟩, ⟨p4, p5, p6⟩⟩, hbx⟩ : ∃ zz, zz = boxF m i := ⟨_, rfl⟩
    have okb := ok_box m HOK.out i
    rw [← hbx] at okb
    have Q1 := Lib.hid (qb (P := Tryz.prog) (W := y24) (v := .agg #[.int .i64 p1, .int .i64 p2, .int .i64 p3, .int .i64 p4, .int .i64 p5, .int .i64 p6]) (fun w2 hb => by have := box_any _ m w2 (HM3.out.below hb) HOK.out HTB.out i HIN.out; rw [← hbx] at this; exact this))
    have Q2 := Lib.hid (qb (P := Tryz.prog) (W := y24) (fun w2 hb => hbox_any ⟨⟨oX, oY, oZ⟩, ⟨dX, dY, dZ⟩⟩ ⟨⟨p1, p2, p3⟩, ⟨p4, p5, p6⟩⟩ HRK.out okb w2))
    have hbn2 := hbn
    rw [← hbx] at hbn2
    rw [hbn2] at Q2
    unfold boxR at Q2
    clear hbn2
    dsimp only [rayV, boxV, Option.getD_some, Option.getD_none, Option.isSome_some, Option.isSome_none] at Q2
    have hbx2 := hbx
    clear okb
    have fHR0 := fun d os => cell_regrown (cell_row HR3.out 0 _ rfl) d os
    have fHR1 := fun d os => cell_regrown (cell_row HR3.out 1 _ rfl) d os
    have fHR2 := fun d os => cell_regrown (cell_row HR3.out 2 _ rfl) d os
    have fHY0 := fun d os => cell_regrown (cell_row HY3.out 0 _ rfl) d os
    have fHY1 := fun d os => cell_regrown (cell_row HY3.out 1 _ rfl) d os
    have fHY2 := fun d os => cell_regrown (cell_row HY3.out 2 _ rfl) d os
    have fHY3 := fun d os => cell_regrown (cell_row HY3.out 3 _ rfl) d os
    have fHY4 := fun d os => cell_regrown (cell_row HY3.out 4 _ rfl) d os
    have fHY5 := fun d os => cell_regrown (cell_row HY3.out 5 _ rfl) d os
    refine wp_region_quiet_below (by kernel_rfl) (by kernel_rfl) ?_
    repeat (go_big_quiet_step (first | (with_reducible exact Q1.out _ _) | (with_reducible exact Q2.out _ _)))
    refine wpQuiet_nil ?_
    first | (rintro _ ⟨⟨dq, osq⟩, rfl⟩) | (rintro ⟨dq, osq⟩)
    have hb := below_regrown y24 dq osq
    obtain ⟨y25, hW⟩ : ∃ ww, ww = grow (redrawn y24 dq) osq := ⟨_, rfl⟩
    rw [← hW] at hb ⊢
    clear hW
    have HR4 := Lib.hid (vec_step HR3.out hb)
    have HY4 := Lib.hid (vec_step HY3.out hb)
    have HZ4 := Lib.hid (vec_step HZ3.out hb)
    have HB4 := Lib.hid (HB3.out.trans (hb.mono HB3.out.size))
    have HM4 := Lib.hid (HM3.out.below hb)
    have HCA4 := Lib.hid (vec_step HCA3.out hb)
    have HCB4 := Lib.hid (vec_step HCB3.out hb)
    have HCC4 := Lib.hid (vec_step HCC3.out hb)
    clear HR3 HY3 HZ3 HB3 HM3 HCA3 HCB3 HCC3 hb  fHR0 fHR1 fHR2 fHY0 fHY1 fHY2 fHY3 fHY4 fHY5
    clear Q1 Q2
    cases htr : triH ⟨⟨oX, oY, oZ⟩, ⟨dX, dY, dZ⟩⟩ ⟨paX, paY, paZ⟩ ⟨pbX, pbY, pbZ⟩ ⟨pcX, pcY, pcZ⟩
    ·
     have hr0 : res = none := by rw [HRES.out, htr]; rfl
     subst hr0
     clear HRES
     have CTR := Lib.hid (fun w2 => tri_any ⟨⟨oX, oY, oZ⟩, ⟨dX, dY, dZ⟩⟩ ⟨paX, paY, paZ⟩ ⟨pbX, pbY, pbZ⟩ ⟨pcX, pcY, pcZ⟩ HRK.out HCK.out.1 HCK.out.2.1 HCK.out.2.2 w2)
     rw [htr] at CTR
     unfold triR at CTR
     dsimp only [rayV, vecV, hitV, ht0, Option.getD_some, Option.getD_none, Option.isSome_some, Option.isSome_none] at CTR
     have cHY0 := cell_row HY4.out 0 _ rfl
     have cHY1 := cell_row HY4.out 1 _ rfl
     have cHY2 := cell_row HY4.out 2 _ rfl
     have cHY3 := cell_row HY4.out 3 _ rfl
     have cHY4 := cell_row HY4.out 4 _ rfl
     have cHY5 := cell_row HY4.out 5 _ rfl
     have cHCA0 := cell_row HCA4.out 0 _ rfl
     have cHCA1 := cell_row HCA4.out 1 _ rfl
     have cHCA2 := cell_row HCA4.out 2 _ rfl
     have cHCB0 := cell_row HCB4.out 0 _ rfl
     have cHCB1 := cell_row HCB4.out 1 _ rfl
     have cHCB2 := cell_row HCB4.out 2 _ rfl
     have cHCC0 := cell_row HCC4.out 0 _ rfl
     have cHCC1 := cell_row HCC4.out 1 _ rfl
     have cHCC2 := cell_row HCC4.out 2 _ rfl
     go_wp2_with fail
     refine (CTR.out _).mono ?_
     rintro e y26 ⟨rfl, hb⟩
     have HR5 := Lib.hid (vec_step HR4.out hb)
     have HY5 := Lib.hid (vec_step HY4.out hb)
     have HZ5 := Lib.hid (vec_step HZ4.out hb)
     have HB5 := Lib.hid (HB4.out.trans (hb.mono HB4.out.size))
     have HM5 := Lib.hid (HM4.out.below hb)
     have HCA5 := Lib.hid (vec_step HCA4.out hb)
     have HCB5 := Lib.hid (vec_step HCB4.out hb)
     have HCC5 := Lib.hid (vec_step HCC4.out hb)
     clear HR4 HY4 HZ4 HB4 HM4 HCA4 HCB4 HCC4 hb cHY0 cHY1 cHY2 cHY3 cHY4 cHY5 cHCA0 cHCA1 cHCA2 cHCB0 cHCB1 cHCB2 cHCC0 cHCC1 cHCC2 
     go_upto_region 12 with (fail)
     have hx := ext_alloc y26 (.cells #[.int .i64 0, .int .i64 0, .int .i64 0, .int .i64 0] 42)
     have hn := heap_alloc_new y26 (.cells #[.int .i64 0, .int .i64 0, .int .i64 0, .int .i64 0] 42)
     obtain ⟨y27, hW⟩ : ∃ ww, ww = y26.alloc (.cells #[.int .i64 0, .int .i64 0, .int .i64 0, .int .i64 0] 42) := ⟨_, rfl⟩
     rw [← hW] at hx hn ⊢
     clear hW
     have HR6 := Lib.hid (vec_step HR5.out hx)
     have HY6 := Lib.hid (vec_step HY5.out hx)
     have HZ6 := Lib.hid (vec_step HZ5.out hx)
     have HB6 := Lib.hid (HB5.out.trans (hx.mono HB5.out.size))
     have HM6 := Lib.hid (HM5.out.below hx)
     have HCA6 := Lib.hid (vec_step HCA5.out hx)
     have HCB6 := Lib.hid (vec_step HCB5.out hx)
     have HCC6 := Lib.hid (vec_step HCC5.out hx)
     clear HR5 HY5 HZ5 HB5 HM5 HCA5 HCB5 HCC5 hx  
     have HH6 := Lib.hid (hn)
     clear hn
     generalize y26.heap.size = gHH at HH6 ⊢
     go_wp2_with fail
     refine (none_any _).mono ?_
     rintro e y28 ⟨rfl, hb⟩
     have HR7 := Lib.hid (vec_step HR6.out hb)
     have HY7 := Lib.hid (vec_step HY6.out hb)
     have HZ7 := Lib.hid (vec_step HZ6.out hb)
     have HB7 := Lib.hid (HB6.out.trans (hb.mono HB6.out.size))
     have HM7 := Lib.hid (HM6.out.below hb)
     have HCA7 := Lib.hid (vec_step HCA6.out hb)
     have HCB7 := Lib.hid (vec_step HCB6.out hb)
     have HCC7 := Lib.hid (vec_step HCC6.out hb)
     have HH7 := Lib.hid (vec_step HH6.out hb)
     clear HR6 HY6 HZ6 HB6 HM6 HCA6 HCB6 HCC6 HH6 hb  
     go_wp2_with (with_reducible refine store_hit rfl (.tmp 8) (.tmp 69) rfl rfl (w.heap.size + 1 + 1) 0 (-1) 0 0 rfl rfl _ HZ7.out rfl ?_)
     refine bodyPost_ret (results_row_tmp rfl _ _ _ (w.heap.size + 1 + 1) 42 _ _ _ rfl (setRow_heap _ _ _ _ _ _ HZ7.out) Tryz.underlying42 hit_size) rfl ?_
     exact ⟨rfl, below_setRow HB7.out (by omega) _⟩
    ·
     rename_i hh
     obtain ⟨ht, hi_, hu, hv⟩ := hh
     rw [htr] at HRES
     simp only [Option.bind_some] at HRES
     have CTR := Lib.hid (fun w2 => tri_any ⟨⟨oX, oY, oZ⟩, ⟨dX, dY, dZ⟩⟩ ⟨paX, paY, paZ⟩ ⟨pbX, pbY, pbZ⟩ ⟨pcX, pcY, pcZ⟩ HRK.out HCK.out.1 HCK.out.2.1 HCK.out.2.2 w2)
     rw [htr] at CTR
     unfold triR at CTR
     dsimp only [rayV, vecV, hitV, ht0, Option.getD_some, Option.getD_none, Option.isSome_some, Option.isSome_none] at CTR
     have cHY0 := cell_row HY4.out 0 _ rfl
     have cHY1 := cell_row HY4.out 1 _ rfl
     have cHY2 := cell_row HY4.out 2 _ rfl
     have cHY3 := cell_row HY4.out 3 _ rfl
     have cHY4 := cell_row HY4.out 4 _ rfl
     have cHY5 := cell_row HY4.out 5 _ rfl
     have cHCA0 := cell_row HCA4.out 0 _ rfl
     have cHCA1 := cell_row HCA4.out 1 _ rfl
     have cHCA2 := cell_row HCA4.out 2 _ rfl
     have cHCB0 := cell_row HCB4.out 0 _ rfl
     have cHCB1 := cell_row HCB4.out 1 _ rfl
     have cHCB2 := cell_row HCB4.out 2 _ rfl
     have cHCC0 := cell_row HCC4.out 0 _ rfl
     have cHCC1 := cell_row HCC4.out 1 _ rfl
     have cHCC2 := cell_row HCC4.out 2 _ rfl
     go_wp2_with fail
     refine (CTR.out _).mono ?_
     rintro e y29 ⟨rfl, hb⟩
     have HR5 := Lib.hid (vec_step HR4.out hb)
     have HY5 := Lib.hid (vec_step HY4.out hb)
     have HZ5 := Lib.hid (vec_step HZ4.out hb)
     have HB5 := Lib.hid (HB4.out.trans (hb.mono HB4.out.size))
     have HM5 := Lib.hid (HM4.out.below hb)
     have HCA5 := Lib.hid (vec_step HCA4.out hb)
     have HCB5 := Lib.hid (vec_step HCB4.out hb)
     have HCC5 := Lib.hid (vec_step HCC4.out hb)
     clear HR4 HY4 HZ4 HB4 HM4 HCA4 HCB4 HCC4 hb cHY0 cHY1 cHY2 cHY3 cHY4 cHY5 cHCA0 cHCA1 cHCA2 cHCB0 cHCB1 cHCB2 cHCC0 cHCC1 cHCC2 
     go_upto_region 12 with (fail)
     have HGE := Lib.hid (Base.lt_of_heap HZ5.out)
     have hx := ext_alloc y29 (.cells #[.int .i64 ht, .int .i64 hi_, .int .i64 hu, .int .i64 hv] 42)
     have hn := heap_alloc_new y29 (.cells #[.int .i64 ht, .int .i64 hi_, .int .i64 hu, .int .i64 hv] 42)
     obtain ⟨y30, hW⟩ : ∃ ww, ww = y29.alloc (.cells #[.int .i64 ht, .int .i64 hi_, .int .i64 hu, .int .i64 hv] 42) := ⟨_, rfl⟩
     rw [← hW] at hx hn ⊢
     clear hW
     have HR6 := Lib.hid (vec_step HR5.out hx)
     have HY6 := Lib.hid (vec_step HY5.out hx)
     have HZ6 := Lib.hid (vec_step HZ5.out hx)
     have HB6 := Lib.hid (HB5.out.trans (hx.mono HB5.out.size))
     have HM6 := Lib.hid (HM5.out.below hx)
     have HCA6 := Lib.hid (vec_step HCA5.out hx)
     have HCB6 := Lib.hid (vec_step HCB5.out hx)
     have HCC6 := Lib.hid (vec_step HCC5.out hx)
     clear HR5 HY5 HZ5 HB5 HM5 HCA5 HCB5 HCC5 hx  
     have HH6 := Lib.hid (hn)
     clear hn
     generalize y29.heap.size = gHH at HH6 HGE ⊢
     obtain ⟨mx, hmx⟩ : ∃ zz, zz = maxI ht near := ⟨_, rfl⟩
     have MX := max2_at hmx
     have HPK : Hid (res = if mx < least then none else some ⟨mx, i, hu, hv⟩) := Lib.hid (by rw [HRES.out, hmx])
     clear HRES hmx
     by_cases h3 : mx < least
     ·
      have d3 : decide (mx < least) = true := decide_eq_true h3
      have hr0 : res = none := by rw [HPK.out, if_pos h3]
      subst hr0
      clear HPK
      have q0 := cell_row HH6.out 0 (.int .i64 ht) rfl
      have t0 := frozen_of_row _ _ 0 _ _ HH6.out
      go_upto_region 15 with (fail)
      have HZ_ := Lib.hid ((heap_setCell_other y30 ⟨gHH, 0, none⟩ _ (.int .i64 mx) (show w.heap.size + 1 + 1 ≠ gHH by have := HGE.out; omega)).trans HZ6.out)
      have HH_ := Lib.hid (show (y30.setCell ⟨gHH, 0, none⟩ (.int .i64 mx)).heap[gHH]? = some (.cells #[.int .i64 mx, .int .i64 hi_, .int .i64 hu, .int .i64 hv] 42) from heap_setCell_same _ _ _ _ _ _ HH6.out)
      have HB_ := Lib.hid (setCell_below HB6.out (show w.heap.size ≤ gHH by have := HGE.out; omega) (.int .i64 mx) (j := 0))
      obtain ⟨W8, hW8⟩ : ∃ ww, ww = y30.setCell ⟨gHH, 0, none⟩ (.int .i64 mx) := ⟨_, rfl⟩
      rw [← hW8] at HZ_ HH_ HB_ ⊢
      clear hW8 q0 t0 HR6 HY6 HZ6 HB6 HM6 HCA6 HCB6 HCC6 HH6
      have q0 := cell_row HH_.out 0 (.int .i64 mx) rfl
      have HZ90 := HZ_
      have HB90 := HB_
      clear HZ_ HB_
      go_wp2_with fail
      clear q0 HH_
      refine (none_any _).mono ?_
      rintro e y31 ⟨rfl, hb⟩
      have HZ91 := Lib.hid (vec_step HZ90.out hb)
      have HB91 := Lib.hid (HB90.out.trans (hb.mono HB90.out.size))
      clear HZ90 HB90 hb  
      go_wp2_with (with_reducible refine store_hit rfl (.tmp 8) (.tmp 79) rfl rfl (w.heap.size + 1 + 1) 0 (-1) 0 0 rfl rfl _ HZ91.out rfl ?_)
      refine bodyPost_ret (results_row_tmp rfl _ _ _ (w.heap.size + 1 + 1) 42 _ _ _ rfl (setRow_heap _ _ _ _ _ _ HZ91.out) Tryz.underlying42 hit_size) rfl ?_
      exact ⟨rfl, below_setRow HB91.out (by omega) _⟩
     ·
      have d3 : decide (mx < least) = false := decide_eq_false h3
      have hr0 : res = some ⟨mx, i, hu, hv⟩ := by rw [HPK.out, if_neg h3]
      subst hr0
      clear HPK
      have q0 := cell_row HH6.out 0 (.int .i64 ht) rfl
      have t0 := frozen_of_row _ _ 0 _ _ HH6.out
      go_upto_region 15 with (fail)
      have HZ_ := Lib.hid ((heap_setCell_other y30 ⟨gHH, 0, none⟩ _ (.int .i64 mx) (show w.heap.size + 1 + 1 ≠ gHH by have := HGE.out; omega)).trans HZ6.out)
      have HH_ := Lib.hid (show (y30.setCell ⟨gHH, 0, none⟩ (.int .i64 mx)).heap[gHH]? = some (.cells #[.int .i64 mx, .int .i64 hi_, .int .i64 hu, .int .i64 hv] 42) from heap_setCell_same _ _ _ _ _ _ HH6.out)
      have HB_ := Lib.hid (setCell_below HB6.out (show w.heap.size ≤ gHH by have := HGE.out; omega) (.int .i64 mx) (j := 0))
      obtain ⟨W8, hW8⟩ : ∃ ww, ww = y30.setCell ⟨gHH, 0, none⟩ (.int .i64 mx) := ⟨_, rfl⟩
      rw [← hW8] at HZ_ HH_ HB_ ⊢
      clear hW8 q0 t0 HR6 HY6 HZ6 HB6 HM6 HCA6 HCB6 HCC6 HH6
      have q0 := cell_row HH_.out 0 (.int .i64 mx) rfl
      have q1 := cell_row HH_.out 1 (.int .i64 hi_) rfl
      have t1 := frozen_of_row _ _ 1 _ _ HH_.out
      go_upto_region 18 with (fail)
      have HZ91 := Lib.hid ((heap_setCell_other W8 ⟨gHH, 1, none⟩ _ (.int .i64 i) (show w.heap.size + 1 + 1 ≠ gHH by have := HGE.out; omega)).trans HZ_.out)
      have HI_ := Lib.hid (show (W8.setCell ⟨gHH, 1, none⟩ (.int .i64 i)).heap[gHH]? = some (.cells #[.int .i64 mx, .int .i64 i, .int .i64 hu, .int .i64 hv] 42) from heap_setCell_same _ _ _ _ _ _ HH_.out)
      have HB91 := Lib.hid (setCell_below HB_.out (show w.heap.size ≤ gHH by have := HGE.out; omega) (.int .i64 i) (j := 1))
      obtain ⟨W9, hW9⟩ : ∃ ww, ww = W8.setCell ⟨gHH, 1, none⟩ (.int .i64 i) := ⟨_, rfl⟩
      rw [← hW9] at HZ91 HI_ HB91 ⊢
      clear hW9 q0 q1 t1 HZ_ HH_ HB_
      have q0 := cell_row HI_.out 0 _ rfl
      have q1 := cell_row HI_.out 1 _ rfl
      have q2 := cell_row HI_.out 2 _ rfl
      have q3 := cell_row HI_.out 3 _ rfl
      go_wp2_with (with_reducible refine store_hit rfl (.tmp 8) (.tmp 82) rfl rfl (w.heap.size + 1 + 1) mx i hu hv rfl rfl _ HZ91.out rfl ?_)
      refine bodyPost_ret (results_row_tmp rfl _ _ _ (w.heap.size + 1 + 1) 42 _ _ _ rfl (setRow_heap _ _ _ _ _ _ HZ91.out) Tryz.underlying42 hit_size) rfl ?_
      exact ⟨rfl, below_setRow HB91.out (by omega) _⟩

end Go.Proofs.YtdaokkgenfpmhaaGreat.HitS

/- The walks of hit.Scan and hit.Normal. -/
set_option linter.unusedVariables false
set_option linter.unusedSimpArgs false
namespace Go.Proofs.YtdaokkgenfpmhaaGreat.HitV
open Go.RowKit Go.Sort FixM Base Num FixW Qb Qt Qa Qf Qg VecW VecV VecU LightQ LightC MeshM Rec MeshA MeshB MeshC MeshD MeshE MeshP HitM HitT HitB HitX HitN HitC HitS
abbrev hrow (h : Ht) : Array Value := #[.int .i64 h.t, .int .i64 h.i, .int .i64 h.u, .int .i64 h.v]
/-- the loop's state: the best so far in block g -/
structure Sc (w W wr : World) (g : Nat) (h : Ht) : Prop where
 row : wr.heap[g]? = some (.cells (hrow h) 42)
 hb : Below w.heap.size w wr
 k : Keeps (fun j => j = g) W wr
theorem Sc.step {w W wr w' : World} {g : Nat} {h : Ht} (s : Sc w W wr g h) (hb : Below wr.heap.size wr w') : Sc w W w' g h :=
 ⟨vec_step s.row hb, s.hb.trans (hb.mono s.hb.size), s.k.trans (Keeps.of_ext hb _) (fun k hk => .inl hk)⟩
theorem Sc.put {w W wr : World} {g : Nat} {h h' : Ht} (s : Sc w W wr g h) (hg : w.heap.size ≤ g) : Sc w W (wr.setRow g (hrow h')) g h' :=
 ⟨setRow_heap _ _ _ _ _ _ s.row, below_setRow s.hb hg _, s.k.setRow g _ (.inl rfl)⟩

end Go.Proofs.YtdaokkgenfpmhaaGreat.HitV

/- The nearest of all, by what it is: both ways of going through the shapes find it. Plain. -/
set_option linter.unusedVariables false
set_option linter.unusedSimpArgs false
namespace Go.Proofs.YtdaokkgenfpmhaaGreat.HitP
theorem keep_ : True := trivial
open Go FixM VecW VecV VecU MeshM MeshP HitM HitN HitV
end Go.Proofs.YtdaokkgenfpmhaaGreat.HitP

/- A ray that enters a box enters each box around it, no later: plain. -/
set_option linter.unusedVariables false
set_option linter.unusedSimpArgs false
namespace Go.Proofs.YtdaokkgenfpmhaaGreat.HitO
theorem keep_ : True := trivial
open Go FixM VecW VecV VecU MeshM MeshP HitM
end Go.Proofs.YtdaokkgenfpmhaaGreat.HitO

/- A greater least place finds nothing nearer; no shape is hit ahead of its box. Plain. -/
set_option linter.unusedVariables false
set_option linter.unusedSimpArgs false
namespace Go.Proofs.YtdaokkgenfpmhaaGreat.HitU
theorem keep_ : True := trivial
open Go FixM VecW VecV VecU MeshM MeshP HitM HitN HitV HitP HitO
end Go.Proofs.YtdaokkgenfpmhaaGreat.HitU

/- Trees of boxes: what layer 14 builds, and that the tree finds what the scan finds. Plain. -/
set_option linter.unusedVariables false
set_option linter.unusedSimpArgs false
namespace Go.Proofs.YtdaokkgenfpmhaaGreat.BvhM
open Go FixM VecW VecV VecU MeshM MeshP HitM HitN HitV HitP HitO HitU
/-- the box around two -/
def joinB (a b : Bx) : Bx := ⟨⟨minI a.lo.x b.lo.x, minI a.lo.y b.lo.y, minI a.lo.z b.lo.z⟩, ⟨maxI a.hi.x b.hi.x, maxI a.hi.y b.hi.y, maxI a.hi.z b.hi.z⟩⟩
/-- the box around some shapes -/
def boxL (m : Msh) : List Nat → Bx
 | [] => zeroB
 | i :: l => l.foldl (fun (b : Bx) (j : Nat) => joinB b (boxF m (j : Int))) (boxF m (i : Int))
def axisF (b : Bx) : Nat :=
 if subF b.hi.y b.lo.y ≤ subF b.hi.x b.lo.x ∧ subF b.hi.z b.lo.z ≤ subF b.hi.x b.lo.x then 0
 else if subF b.hi.z b.lo.z ≤ subF b.hi.y b.lo.y then 1 else 2
def keyF (m : Msh) (axis i : Nat) : Int :=
 match axis with
 | 0 => addF (boxF m (i : Int)).lo.x (boxF m (i : Int)).hi.x
 | 1 => addF (boxF m (i : Int)).lo.y (boxF m (i : Int)).hi.y
 | _ => addF (boxF m (i : Int)).lo.z (boxF m (i : Int)).hi.z
def leF (m : Msh) (axis : Nat) (i j : Nat) : Bool := decide (keyF m axis i < keyF m axis j) || (decide (keyF m axis i = keyF m axis j) && decide (i ≤ j))
def sortF (m : Msh) (axis : Nat) (l : List Nat) : List Nat := l.mergeSort (leF m axis)
theorem sort_perm (m : Msh) (axis : Nat) (l : List Nat) : (sortF m axis l).Perm l := List.mergeSort_perm l _
theorem sort_length (m : Msh) (axis : Nat) (l : List Nat) : (sortF m axis l).length = l.length := (sort_perm m axis l).length_eq
inductive Tr where
 | leaf (l : List Nat)
 | node (l : List Nat) (a b : Tr)
def Tr.l : Tr → List Nat
 | .leaf l => l
 | .node l _ _ => l
def treeF (m : Msh) : Nat → List Nat → Tr
 | 0, l => .leaf l
 | n + 1, l => if l.length ≤ 2 then .leaf l else
  .node l (treeF m n ((sortF m (axisF (boxL m l)) l).take (l.length / 2))) (treeF m n ((sortF m (axisF (boxL m l)) l).drop (l.length / 2)))
def stepsT : Tr → Nat
 | .leaf l => l.length
 | .node l a b => l.length + stepsT a + stepsT b
def nodesT : Tr → Nat
 | .leaf _ => 1
 | .node _ a b => 1 + nodesT a + nodesT b
def deepT : Tr → Nat
 | .leaf _ => 1
 | .node _ a b => 1 + max (deepT a) (deepT b)
/-- what a tree of shapes is: each node has the shapes of its kids, each leaf one or two -/
def Tr.good : Tr → Prop
 | .leaf l => 1 ≤ l.length ∧ l.length ≤ 2
 | .node l a b => a.good ∧ b.good ∧ (a.l ++ b.l).Perm l
theorem tree_l (m : Msh) : ∀ n l, (treeF m n l).l = l := by
 intro n l
 cases n with
 | zero => rfl
 | succ n => unfold treeF; split <;> rfl
theorem tree_good (m : Msh) : ∀ n l, l.length ≤ n → 1 ≤ l.length → (treeF m n l).good := by
 intro n
 induction n with
 | zero => intro l h1 h2; omega
 | succ n ih =>
  intro l h1 h2
  unfold treeF
  split
  ·
   rename_i h; exact ⟨h2, h⟩
  ·
   rename_i h
   have hs := sort_length m (axisF (boxL m l)) l
   refine ⟨ih _ (by rw [List.length_take, hs]; omega) (by rw [List.length_take, hs]; omega), ih _ (by rw [List.length_drop, hs]; omega) (by rw [List.length_drop, hs]; omega), ?_⟩
   rw [tree_l, tree_l, List.take_append_drop]
   exact sort_perm m _ l
theorem good_pos : ∀ t : Tr, t.good → 1 ≤ t.l.length := by
 intro t
 induction t with
 | leaf l => intro h; exact h.1
 | node l a b iha ihb =>
  intro h
  have := h.2.2.length_eq
  rw [List.length_append] at this
  have := iha h.1
  show 1 ≤ l.length
  omega
theorem nodes_le : ∀ t : Tr, t.good → nodesT t + 1 ≤ 2 * t.l.length := by
 intro t
 induction t with
 | leaf l => intro h; have := h.1; show 1 + 1 ≤ 2 * l.length; omega
 | node l a b iha ihb =>
  intro h
  have h1 := h.2.2.length_eq
  rw [List.length_append] at h1
  have := iha h.1
  have := ihb h.2.1
  show 1 + nodesT a + nodesT b + 1 ≤ 2 * l.length
  omega
theorem steps_le : ∀ t : Tr, t.good → t.l.length ≤ stepsT t ∧ stepsT t ≤ deepT t * t.l.length := by
 intro t
 induction t with
 | leaf l => intro h; exact ⟨Nat.le_refl _, by show l.length ≤ 1 * l.length; omega⟩
 | node l a b iha ihb =>
  intro h
  have h1 := h.2.2.length_eq
  rw [List.length_append] at h1
  have ha := iha h.1
  have hb := ihb h.2.1
  refine ⟨by show l.length ≤ l.length + stepsT a + stepsT b; omega, ?_⟩
  show l.length + stepsT a + stepsT b ≤ (1 + max (deepT a) (deepT b)) * l.length
  have m1 : deepT a * a.l.length ≤ max (deepT a) (deepT b) * a.l.length := Nat.mul_le_mul_right _ (Nat.le_max_left _ _)
  have m2 : deepT b * b.l.length ≤ max (deepT a) (deepT b) * b.l.length := Nat.mul_le_mul_right _ (Nat.le_max_right _ _)
  rw [Nat.add_mul, Nat.one_mul, ← h1, Nat.mul_add]
  omega
theorem deep_le (m : Msh) : ∀ k n l, l.length ≤ 2 ^ (k + 1) → l.length ≤ n → deepT (treeF m n l) ≤ k + 1 := by
 intro k
 induction k with
 | zero =>
  intro n l h1 h2
  cases n with
  | zero => exact Nat.le_refl _
  | succ n => unfold treeF; rw [if_pos (by simpa using h1)]; exact Nat.le_refl _
 | succ k ih =>
  intro n l h1 h2
  cases n with
  | zero => show 1 ≤ _; omega
  | succ n =>
   unfold treeF
   split
   ·
    show 1 ≤ _; omega
   ·
    rename_i h
    have hs := sort_length m (axisF (boxL m l)) l
    have e : 2 ^ (k + 1 + 1) = 2 ^ (k + 1) + 2 ^ (k + 1) := by rw [Nat.pow_succ, Nat.mul_two]
    have ha := ih n ((sortF m (axisF (boxL m l)) l).take (l.length / 2)) (by rw [List.length_take, hs]; omega) (by rw [List.length_take, hs]; omega)
    have hb := ih n ((sortF m (axisF (boxL m l)) l).drop (l.length / 2)) (by rw [List.length_drop, hs]; omega) (by rw [List.length_drop, hs]; omega)
    show 1 + max _ _ ≤ k + 1 + 1
    have := Nat.max_le.2 ⟨ha, hb⟩
    omega
/-! asking -/
def betterF (h best : Ht) : Bool := decide (best.i < 0) || decide (h.t < best.t) || (decide (h.t = best.t) && decide (h.i < best.i))
def tryF (m : Msh) (r : Ry) (least : Int) (best : Ht) (i : Nat) : Ht :=
 match shapeF m (i : Int) r least with
 | none => best
 | some h => if betterF h best then h else best
def askT (m : Msh) (r : Ry) (least : Int) : Tr → Ht → Ht × Nat
 | .leaf l, best => match boxH r (boxL m l) with
  | none => (best, 1)
  | some near => if 0 ≤ best.i ∧ best.t < near then (best, 1) else (l.foldl (tryF m r least) best, 1 + l.length)
 | .node l a b, best => match boxH r (boxL m l) with
  | none => (best, 1)
  | some near => if 0 ≤ best.i ∧ best.t < near then (best, 1) else
   ((askT m r least b (askT m r least a best).1).1, 1 + (askT m r least a best).2 + (askT m r least b (askT m r least a best).1).2)
theorem ask_cost (m : Msh) (r : Ry) (least : Int) : ∀ (t : Tr), t.good → ∀ b, (askT m r least t b).2 ≤ nodesT t + t.l.length := by
 intro t
 induction t with
 | leaf l =>
  intro hg b
  unfold askT
  cases e : boxH r (boxL m l) with
  | none => show 1 ≤ 1 + l.length; omega
  | some near => dsimp only; split; show 1 ≤ 1 + l.length; omega; exact Nat.le_refl _
 | node l x y ihx ihy =>
  intro hg b
  have h1 := hg.2.2.length_eq
  rw [List.length_append] at h1
  unfold askT
  cases e : boxH r (boxL m l) with
  | none => show 1 ≤ 1 + nodesT x + nodesT y + l.length; omega
  | some near =>
   dsimp only
   split
   ·
    show 1 ≤ 1 + nodesT x + nodesT y + l.length; omega
   ·
    have := ihx hg.1 b
    have := ihy hg.2.1 (askT m r least x b).1
    show _ ≤ 1 + nodesT x + nodesT y + l.length
    dsimp only
    omega
/-! the whole tree -/
def allL (m : Msh) : List Nat := List.range (m.ts.length + m.bs.length)
def wholeT (m : Msh) : Tr := treeF m (m.ts.length + m.bs.length) (allL m)
def nearestF (m : Msh) (r : Ry) (least : Int) : Ht × Nat := if m.ts.length + m.bs.length = 0 then (htN, 0) else askT m r least (wholeT m) htN
theorem whole_good (m : Msh) (h : m.ts.length + m.bs.length ≠ 0) : (wholeT m).good := tree_good m _ _ (by unfold allL; rw [List.length_range]; exact Nat.le_refl _) (by unfold allL; rw [List.length_range]; omega)
theorem whole_l (m : Msh) : (wholeT m).l = allL m := tree_l m _ _
end Go.Proofs.YtdaokkgenfpmhaaGreat.BvhM

/- The small functions of layer 14. -/
set_option linter.unusedVariables false
set_option linter.unusedSimpArgs false
namespace Go.Proofs.YtdaokkgenfpmhaaGreat.BvhA
open Go.RowKit Go.Sort FixM Base Num FixW Qb Qt Qa Qf VecW VecV VecU LightQ LightC MeshM Rec MeshA MeshB MeshC MeshD MeshE MeshP HitM HitT HitX HitN HitV BvhM
set_option maxRecDepth 100000 in
theorem better_any (h b : Ht) (w : World) : Calls Tryz.prog 31 #[hitV h, hitV b] w (VTo (.bool (betterF h b)) w) := by
 unfold betterF
 obtain ⟨ht, hi_, hu, hv⟩ := h
 obtain ⟨bt, bi, bu, bv⟩ := b
 dsimp only [hitV]
 have hA := alloc2_0 w (.cells #[.int .i64 ht, .int .i64 hi_, .int .i64 hu, .int .i64 hv] 42) (.cells #[.int .i64 bt, .int .i64 bi, .int .i64 bu, .int .i64 bv] 42)
 have hB := alloc2_1 w (.cells #[.int .i64 ht, .int .i64 hi_, .int .i64 hu, .int .i64 hv] 42) (.cells #[.int .i64 bt, .int .i64 bi, .int .i64 bu, .int .i64 bv] 42)
 have hB0 := alloc2_below w (.cells #[.int .i64 ht, .int .i64 hi_, .int .i64 hu, .int .i64 hv] 42) (.cells #[.int .i64 bt, .int .i64 bi, .int .i64 bu, .int .i64 bv] 42)
 obtain ⟨W, hW⟩ : ∃ ww, ww = (w.alloc (.cells #[.int .i64 ht, .int .i64 hi_, .int .i64 hu, .int .i64 hv] 42)).alloc (.cells #[.int .i64 bt, .int .i64 bi, .int .i64 bu, .int .i64 bv] 42) := ⟨_, rfl⟩
 rw [← hW] at hA hB hB0
 have HH0 := Lib.hid hA
 have HK0 := Lib.hid hB
 have HB0 := Lib.hid hB0
 have HWW := Lib.hid hW
 clear hA hB hB0 hW
 have c0 := cell_row HH0.out 0 _ rfl
 have c1 := cell_row HH0.out 1 _ rfl
 have e0 := cell_row HK0.out 0 _ rfl
 have e1 := cell_row HK0.out 1 _ rfl
 clear HH0 HK0
 by_cases h1 : bi < 0
 ·
  rw [decide_eq_true h1]
  have d1 : decide (bi < 0) = true := decide_eq_true h1
  simp only [Bool.true_or]
  go_enter Tryz.func31, Tryz.ntmps31
  go_upto_region 1 with (fail)
  rw [← HWW.out]
  clear HWW
  go_wp2_with fail
  go_ret
  exact ⟨rfl, HB0.out⟩
 ·
  rw [decide_eq_false h1]
  have d1 : decide (bi < 0) = false := decide_eq_false h1
  simp only [Bool.false_or]
  by_cases h2 : ht < bt
  ·
   rw [decide_eq_true h2]
   have d2 : decide (ht < bt) = true := decide_eq_true h2
   simp only [Bool.true_or]
   go_enter Tryz.func31, Tryz.ntmps31
   go_upto_region 1 with (fail)
   rw [← HWW.out]
   clear HWW
   go_wp2_with fail
   go_ret
   exact ⟨rfl, HB0.out⟩
  ·
   rw [decide_eq_false h2]
   have d2 : decide (ht < bt) = false := decide_eq_false h2
   simp only [Bool.false_or]
   by_cases h3 : ht = bt
   ·
    rw [decide_eq_true h3]
    have d3 : (ht == bt) = true := beq_iff_eq.mpr h3
    simp only [Bool.true_and]
    obtain ⟨r, hr⟩ : ∃ r, r = decide (hi_ < bi) := ⟨_, rfl⟩
    rw [← hr]
    have d4 : decide (hi_ < bi) = r := hr.symm
    clear hr h3
    go_enter Tryz.func31, Tryz.ntmps31
    go_upto_region 1 with (fail)
    rw [← HWW.out]
    clear HWW
    go_wp2_with fail
    go_ret
    exact ⟨rfl, HB0.out⟩
   ·
    rw [decide_eq_false h3]
    have d3 : (ht == bt) = false := beq_eq_false_iff_ne.mpr h3
    simp only [Bool.false_and]
    go_enter Tryz.func31, Tryz.ntmps31
    go_upto_region 1 with (fail)
    rw [← HWW.out]
    clear HWW
    go_wp2_with fail
    go_ret
    exact ⟨rfl, HB0.out⟩

set_option maxRecDepth 100000 in
theorem nodes_tree (g : Nat) (w : World) (a : Option Addr) (n c : Nat) (h : w.cell? ⟨g, 0, none⟩ = some (.bool true)) (h2 : w.cell? ⟨g, 4, none⟩ = some (.slice a n c)) : Calls Tryz.prog 9 #[.pointer (some ⟨g, 0, none⟩)] w (fun e w' => e = .returned (.int .i64 (n : Int)) ∧ w = w') := by
 go_enter Tryz.func9, Tryz.ntmps9
 go_wp2_with fail
 go_ret
 exact ⟨rfl, rfl⟩

set_option maxRecDepth 100000 in
theorem deep_tree (g : Nat) (w : World) (d : Int) (h : w.cell? ⟨g, 0, none⟩ = some (.bool true)) (h2 : w.cell? ⟨g, 6, none⟩ = some (.int .i64 d)) : Calls Tryz.prog 10 #[.pointer (some ⟨g, 0, none⟩)] w (fun e w' => e = .returned (.int .i64 d) ∧ w = w') := by
 go_enter Tryz.func10, Tryz.ntmps10
 go_wp2_with fail
 go_ret
 exact ⟨rfl, rfl⟩

def orF (x y : Int) : Int := if x ≠ 0 then x else y
set_option maxRecDepth 100000 in
set_option maxHeartbeats 2000000 in
theorem or_any (g : Nat) (x y : Int) (w : World) (h0 : w.cell? ⟨g, 0, none⟩ = some (.int .i64 x)) (h1 : w.cell? ⟨g, 1, none⟩ = some (.int .i64 y)) : Calls Tryz.prog 64 #[.slice (some ⟨g, 0, none⟩) 2 2] w (fun e w' => e = .returned (.int .i64 (orF x y)) ∧ w = w') := by
 obtain ⟨res, hres⟩ : ∃ r, r = orF x y := ⟨_, rfl⟩
 rw [← hres]
 unfold orF at hres
 have HRES := Lib.hid hres
 clear hres
 have HX : Hid (∀ k : Nat, k < 2 → w.cell? ⟨g, k, none⟩ = some (.int .i64 (if k = 0 then x else y))) := Lib.hid (fun k hk => by
  rcases (show k = 0 ∨ k = 1 by omega) with rfl | rfl
  ·
   exact h0
  ·
   exact h1)
 clear h0 h1
 have HNE : Hid (∀ k : Nat, k ≤ 2 → k ≤ 2) := Lib.hid (fun _ h => h)
 go_enter Tryz.func64, Tryz.ntmps64
 go_wp2_with fail
 go_loopg [8] 2 (fun r n8 wr => ∃ k : Nat, k + r = 2 ∧ n8 = .int .i64 (k : Int) ∧ Hid (w = wr ∧ (0 < k → x = 0) ∧ (1 < k → y = 0)))
 case atStart => exact ⟨0, by omega, rfl, Lib.hid ⟨rfl, by omega, by omega⟩⟩
 case round =>
  obtain ⟨k, hk, rfl, hin⟩ := hrel
  obtain ⟨rfl, hx, hy⟩ := hin.out
  rcases (show k = 0 ∨ k = 1 ∨ k = 2 by omega) with rfl | rfl | rfl
  ·
   have c := HX.out 0 (by decide)
   simp only [if_true] at c
   by_cases e : x = 0
   ·
    have b : (x == 0) = true := beq_iff_eq.mpr e
    clear hx hy hin
    go_wp2_with fail
    go_roundg 1
    case measure => omega
    case rel => exact ⟨1, by omega, rfl, Lib.hid ⟨rfl, fun _ => e, by omega⟩⟩
   ·
    have b : (x == 0) = false := beq_eq_false_iff_ne.mpr e
    have er : res = x := by rw [HRES.out, if_pos e]
    subst er
    clear hx hy hin
    go_wp2_with fail
    go_ret
    exact ⟨rfl, rfl⟩
  ·
   have c := HX.out 1 (by decide)
   have x0 := hx (by decide)
   rw [if_neg (by decide)] at c
   have er : res = y := by rw [HRES.out, if_neg (by simp [x0])]
   clear hx hin
   by_cases e : y = 0
   ·
    have b : (y == 0) = true := beq_iff_eq.mpr e
    clear hy er
    go_wp2_with fail
    go_roundg 0
    case measure => omega
    case rel => exact ⟨2, by omega, rfl, Lib.hid ⟨rfl, fun _ => x0, fun _ => e⟩⟩
   ·
    have b : (y == 0) = false := beq_eq_false_iff_ne.mpr e
    subst er
    clear hy
    go_wp2_with fail
    go_ret
    exact ⟨rfl, rfl⟩
  ·
   have y0 := hy (by decide)
   have x0 := hx (by decide)
   have er : res = 0 := by rw [HRES.out, if_neg (by simp [x0]), y0]
   subst er
   clear hx hy hin
   go_wp2_with fail
   go_ret
   exact ⟨rfl, rfl⟩

end Go.Proofs.YtdaokkgenfpmhaaGreat.BvhA

/- What layer 14's sort compares by. -/
set_option linter.unusedVariables false
set_option linter.unusedSimpArgs false
namespace Go.Proofs.YtdaokkgenfpmhaaGreat.BvhB
open Go.RowKit Go.Sort FixM Base Num FixW Qb Qt Qa Qf VecW VecV VecU LightQ LightC MeshM Rec MeshA MeshP HitM BvhM BvhA
def encB (b : Bx) : List Value := [.int .i64 b.lo.x, .int .i64 b.lo.y, .int .i64 b.lo.z, .int .i64 b.hi.x, .int .i64 b.hi.y, .int .i64 b.hi.z]
theorem lenB (b : Bx) : (encB b).length = 6 := rfl
theorem oneB (b : Bx) : ∀ u ∈ encB b, u.oneCell' = true := by intro u hu; simp [encB] at hu; rcases hu with rfl | rfl | rfl | rfl | rfl | rfl <;> rfl
theorem at6 {w : World} {a : Option Addr} {n cap : Nat} {l : List Bx} (h : Recs 6 encB w (.slice a n cap) l) (i : Nat) (hi : i < l.length) :
  ∃ b off, a = some ⟨b, off, none⟩ ∧ b < w.heap.size ∧ w.cell? ⟨b, off + i * 6, none⟩ = some (.int .i64 l[i].lo.x) ∧ w.cell? ⟨b, off + i * 6 + 1, none⟩ = some (.int .i64 l[i].lo.y) ∧ w.cell? ⟨b, off + i * 6 + 2, none⟩ = some (.int .i64 l[i].lo.z) ∧ w.cell? ⟨b, off + i * 6 + 3, none⟩ = some (.int .i64 l[i].hi.x) ∧ w.cell? ⟨b, off + i * 6 + 4, none⟩ = some (.int .i64 l[i].hi.y) ∧ w.cell? ⟨b, off + i * 6 + 5, none⟩ = some (.int .i64 l[i].hi.z) := by
 obtain ⟨a', cap', e, _, hc⟩ := h.open_
 simp only [Value.slice.injEq] at e
 obtain ⟨rfl, _, _⟩ := e
 obtain ⟨b, off, rfl, hb, hx⟩ := hc i hi
 exact ⟨b, off, rfl, hb, hx i hi 0 _ rfl, hx i hi 1 _ rfl, hx i hi 2 _ rfl, hx i hi 3 _ rfl, hx i hi 4 _ rfl, hx i hi 5 _ rfl⟩
def cmpF (x y : Int) : Int := if x < y then -1 else if y < x then 1 else 0

set_option maxRecDepth 100000 in
theorem nan64 (x : Int) (w : World) : Calls Tryz.prog 85 #[.int .i64 x] w (fun e w' => e = .returned (.bool false) ∧ w = w') := by
 go_enter Tryz.func85, Tryz.ntmps85
 go_wp2_with fail
 go_ret
 exact ⟨by simp, rfl⟩
set_option maxRecDepth 100000 in
theorem compare64 (x y : Int) (w : World) : Calls Tryz.prog 65 #[.int .i64 x, .int .i64 y] w (fun e w' => e = .returned (.int .i64 (cmpF x y)) ∧ w = w') := by
 unfold cmpF
 have N := Lib.hid nan64
 by_cases h1 : x < y
 ·
  have d1 : decide (x < y) = true := decide_eq_true h1
  rw [if_pos h1]
  clear h1
  go_enter Tryz.func65, Tryz.ntmps65
  go_wp2_with fail
  refine (N.out _ _).mono ?_
  rintro e _ ⟨rfl, rfl⟩
  go_wp2_with fail
  refine (N.out _ _).mono ?_
  rintro e _ ⟨rfl, rfl⟩
  go_wp2_with fail
  go_ret
  exact ⟨rfl, rfl⟩
 ·
  have d1 : decide (x < y) = false := decide_eq_false h1
  rw [if_neg h1]
  by_cases h2 : y < x
  ·
   have d2 : decide (y < x) = true := decide_eq_true h2
   rw [if_pos h2]
   clear h1 h2
   go_enter Tryz.func65, Tryz.ntmps65
   go_wp2_with fail
   refine (N.out _ _).mono ?_
   rintro e _ ⟨rfl, rfl⟩
   go_wp2_with fail
   refine (N.out _ _).mono ?_
   rintro e _ ⟨rfl, rfl⟩
   go_wp2_with fail
   go_ret
   exact ⟨rfl, rfl⟩
  ·
   have d2 : decide (y < x) = false := decide_eq_false h2
   rw [if_neg h2]
   clear h1 h2
   go_enter Tryz.func65, Tryz.ntmps65
   go_wp2_with fail
   refine (N.out _ _).mono ?_
   rintro e _ ⟨rfl, rfl⟩
   go_wp2_with fail
   refine (N.out _ _).mono ?_
   rintro e _ ⟨rfl, rfl⟩
   go_wp2_with fail
   go_ret
   exact ⟨rfl, rfl⟩

set_option maxRecDepth 100000 in
theorem nanI (x : Int) (w : World) : Calls Tryz.prog 86 #[.int .i64 x] w (fun e w' => e = .returned (.bool false) ∧ w = w') := by
 go_enter Tryz.func86, Tryz.ntmps86
 go_wp2_with fail
 go_ret
 exact ⟨by simp, rfl⟩
set_option maxRecDepth 100000 in
theorem compareI (x y : Int) (w : World) : Calls Tryz.prog 66 #[.int .i64 x, .int .i64 y] w (fun e w' => e = .returned (.int .i64 (cmpF x y)) ∧ w = w') := by
 unfold cmpF
 have N := Lib.hid nanI
 by_cases h1 : x < y
 ·
  have d1 : decide (x < y) = true := decide_eq_true h1
  rw [if_pos h1]
  clear h1
  go_enter Tryz.func66, Tryz.ntmps66
  go_wp2_with fail
  refine (N.out _ _).mono ?_
  rintro e _ ⟨rfl, rfl⟩
  go_wp2_with fail
  refine (N.out _ _).mono ?_
  rintro e _ ⟨rfl, rfl⟩
  go_wp2_with fail
  go_ret
  exact ⟨rfl, rfl⟩
 ·
  have d1 : decide (x < y) = false := decide_eq_false h1
  rw [if_neg h1]
  by_cases h2 : y < x
  ·
   have d2 : decide (y < x) = true := decide_eq_true h2
   rw [if_pos h2]
   clear h1 h2
   go_enter Tryz.func66, Tryz.ntmps66
   go_wp2_with fail
   refine (N.out _ _).mono ?_
   rintro e _ ⟨rfl, rfl⟩
   go_wp2_with fail
   refine (N.out _ _).mono ?_
   rintro e _ ⟨rfl, rfl⟩
   go_wp2_with fail
   go_ret
   exact ⟨rfl, rfl⟩
  ·
   have d2 : decide (y < x) = false := decide_eq_false h2
   rw [if_neg h2]
   clear h1 h2
   go_enter Tryz.func66, Tryz.ntmps66
   go_wp2_with fail
   refine (N.out _ _).mono ?_
   rintro e _ ⟨rfl, rfl⟩
   go_wp2_with fail
   refine (N.out _ _).mono ?_
   rintro e _ ⟨rfl, rfl⟩
   go_wp2_with fail
   go_ret
   exact ⟨rfl, rfl⟩

def keyB (ax : Nat) (b : Bx) : Int := match ax with | 0 => addF b.lo.x b.hi.x | 1 => addF b.lo.y b.hi.y | _ => addF b.lo.z b.hi.z

set_option maxRecDepth 100000 in
set_option maxHeartbeats 2000000 in
theorem key0_any (gP gM : Nat) (vb : Value) (bs : List Bx) (w : World) (hP : w.cell? ⟨gP, 0, none⟩ = some (.pointer (some ⟨gM, 0, none⟩))) (hM : w.cell? ⟨gM, 1, none⟩ = some vb) (hb : Recs 6 encB w vb bs) (ok : ∀ b ∈ bs, HitM.Bx.ok b) (i : Nat) (hi : i < bs.length) :
  Calls Tryz.prog 59 #[.int .i64 (i : Int), .pointer (some ⟨gP, 0, none⟩)] w (fun e w' => e = .returned (.int .i64 (keyB 0 bs[i])) ∧ ∃ q, w' = w.drewN q) := by
 obtain ⟨a, cap, rfl, hl, -⟩ := hb.open_
 have okb := ok bs[i] (List.getElem_mem hi)
 obtain ⟨b, off, rfl, hlt, c0, c1, c2, c3, c4, c5⟩ := at6 hb i hi
 generalize bs[i] = bx at c0 c1 c2 c3 c4 c5 okb ⊢
 obtain ⟨⟨lx, ly, lz⟩, ⟨hx, hy, hz⟩⟩ := bx
 dsimp only [keyB] at *
 have i1 := okb.1.1
 have i2 := okb.2.1
 dsimp only at i1 i2
 have Q := Lib.hid (fun n => (add_any lx hx i1.1 i1.2 i2.1 i2.2 (w.drewN n)).mono (fun _ _ h => (⟨h.1, n, h.2.symm⟩ : _ ∧ ∃ q, _ = w.drewN q)))
 have di : decide (i < bs.length) = true := decide_eq_true hi
 generalize bs.length = N at *
 clear hb ok okb i1 i2
 go_enter Tryz.func59, Tryz.ntmps59
 go_upto_region 1 with (fail)
 go_quiet (exact Q.out _)
 go_wp2_with fail
 go_ret
 exact ⟨rfl, _, rfl⟩

set_option maxRecDepth 100000 in
set_option maxHeartbeats 2000000 in
theorem key1_any (gP gM : Nat) (vb : Value) (bs : List Bx) (w : World) (hP : w.cell? ⟨gP, 0, none⟩ = some (.pointer (some ⟨gM, 0, none⟩))) (hM : w.cell? ⟨gM, 1, none⟩ = some vb) (hb : Recs 6 encB w vb bs) (ok : ∀ b ∈ bs, HitM.Bx.ok b) (i : Nat) (hi : i < bs.length) :
  Calls Tryz.prog 60 #[.int .i64 (i : Int), .pointer (some ⟨gP, 0, none⟩)] w (fun e w' => e = .returned (.int .i64 (keyB 1 bs[i])) ∧ ∃ q, w' = w.drewN q) := by
 obtain ⟨a, cap, rfl, hl, -⟩ := hb.open_
 have okb := ok bs[i] (List.getElem_mem hi)
 obtain ⟨b, off, rfl, hlt, c0, c1, c2, c3, c4, c5⟩ := at6 hb i hi
 generalize bs[i] = bx at c0 c1 c2 c3 c4 c5 okb ⊢
 obtain ⟨⟨lx, ly, lz⟩, ⟨hx, hy, hz⟩⟩ := bx
 dsimp only [keyB] at *
 have i1 := okb.1.2.1
 have i2 := okb.2.2.1
 dsimp only at i1 i2
 have Q := Lib.hid (fun n => (add_any ly hy i1.1 i1.2 i2.1 i2.2 (w.drewN n)).mono (fun _ _ h => (⟨h.1, n, h.2.symm⟩ : _ ∧ ∃ q, _ = w.drewN q)))
 have di : decide (i < bs.length) = true := decide_eq_true hi
 generalize bs.length = N at *
 clear hb ok okb i1 i2
 go_enter Tryz.func60, Tryz.ntmps60
 go_upto_region 1 with (fail)
 go_quiet (exact Q.out _)
 go_wp2_with fail
 go_ret
 exact ⟨rfl, _, rfl⟩

set_option maxRecDepth 100000 in
set_option maxHeartbeats 2000000 in
theorem key2_any (gP gM : Nat) (vb : Value) (bs : List Bx) (w : World) (hP : w.cell? ⟨gP, 0, none⟩ = some (.pointer (some ⟨gM, 0, none⟩))) (hM : w.cell? ⟨gM, 1, none⟩ = some vb) (hb : Recs 6 encB w vb bs) (ok : ∀ b ∈ bs, HitM.Bx.ok b) (i : Nat) (hi : i < bs.length) :
  Calls Tryz.prog 61 #[.int .i64 (i : Int), .pointer (some ⟨gP, 0, none⟩)] w (fun e w' => e = .returned (.int .i64 (keyB 2 bs[i])) ∧ ∃ q, w' = w.drewN q) := by
 obtain ⟨a, cap, rfl, hl, -⟩ := hb.open_
 have okb := ok bs[i] (List.getElem_mem hi)
 obtain ⟨b, off, rfl, hlt, c0, c1, c2, c3, c4, c5⟩ := at6 hb i hi
 generalize bs[i] = bx at c0 c1 c2 c3 c4 c5 okb ⊢
 obtain ⟨⟨lx, ly, lz⟩, ⟨hx, hy, hz⟩⟩ := bx
 dsimp only [keyB] at *
 have i1 := okb.1.2.2
 have i2 := okb.2.2.2
 dsimp only at i1 i2
 have Q := Lib.hid (fun n => (add_any lz hz i1.1 i1.2 i2.1 i2.2 (w.drewN n)).mono (fun _ _ h => (⟨h.1, n, h.2.symm⟩ : _ ∧ ∃ q, _ = w.drewN q)))
 have di : decide (i < bs.length) = true := decide_eq_true hi
 generalize bs.length = N at *
 clear hb ok okb i1 i2
 go_enter Tryz.func61, Tryz.ntmps61
 go_upto_region 1 with (fail)
 go_quiet (exact Q.out _)
 go_wp2_with fail
 go_ret
 exact ⟨rfl, _, rfl⟩

/-- the variables that the comparison reads -/
structure KeyAt (W : World) (F : FuncId) (gK gP gM : Nat) (vb : Value) (bs : List Bx) : Prop where
 k : W.cell? ⟨gK, 0, none⟩ = some (.func (.func F) #[] #[.pointer (some ⟨gP, 0, none⟩)])
 p : W.cell? ⟨gP, 0, none⟩ = some (.pointer (some ⟨gM, 0, none⟩))
 m : W.cell? ⟨gM, 1, none⟩ = some vb
 b : Recs 6 encB W vb bs
 lk : gK < W.heap.size
 lp : gP < W.heap.size
 lm : gM < W.heap.size
theorem below_drawn (W : World) (n : Nat) (os : Array Obj) : Below W.heap.size W (grow (W.drewN n) os) := below_regrown W (W.drawn + n) os
theorem KeyAt.below {W W' : World} {F : FuncId} {gK gP gM : Nat} {vb : Value} {bs : List Bx} (h : KeyAt W F gK gP gM vb bs) (hb : Below W.heap.size W W') : KeyAt W' F gK gP gM vb bs :=
 ⟨(hb.cell h.lk).trans h.k, (hb.cell h.lp).trans h.p, (hb.cell h.lm).trans h.m, h.b.below hb (Nat.le_refl _), Nat.lt_of_lt_of_le h.lk hb.size, Nat.lt_of_lt_of_le h.lp hb.size, Nat.lt_of_lt_of_le h.lm hb.size⟩
def cfB (ax : Nat) (bs : List Bx) (i j : Nat) : Int := orF (cmpF (keyB ax (bs.getD i zeroB)) (keyB ax (bs.getD j zeroB))) (cmpF (i : Int) (j : Int))
theorem grown_same {P : Program} {f : FuncId} {args : Array Value} {W : World} {v : Value} (n : Nat) (os : Array Obj) (h : Calls P f args (grow (W.drewN n) os) (fun e w' => e = .returned v ∧ grow (W.drewN n) os = w')) : Calls P f args (grow (W.drewN n) os) (fun e w'' => e = .returned v ∧ ∃ p : GrownBy, w'' = grow (W.drewN p.n) p.os) :=
 h.mono fun _ _ h => ⟨h.1, ⟨n, os⟩, h.2.symm⟩
theorem grown_drew {P : Program} {f : FuncId} {args : Array Value} {W : World} {v : Value} (n : Nat) (os : Array Obj) (h : Calls P f args (grow (W.drewN n) os) (fun e w' => e = .returned v ∧ ∃ q, w' = (grow (W.drewN n) os).drewN q)) : Calls P f args (grow (W.drewN n) os) (fun e w'' => e = .returned v ∧ ∃ p : GrownBy, w'' = grow (W.drewN p.n) p.os) :=
 Calls.grown_of (h.mono fun _ _ h => ⟨h.1, by obtain ⟨q, hq⟩ := h.2; exact ⟨q, #[], by rw [hq, grow_empty]⟩⟩)

set_option maxRecDepth 100000 in
set_option maxHeartbeats 4000000 in
theorem cmp0_any (gK gP gM : Nat) (vb : Value) (bs : List Bx) (W : World) (h : KeyAt W 59 gK gP gM vb bs) (ok : ∀ b ∈ bs, HitM.Bx.ok b) (i j : Nat) (hi : i < bs.length) (hj : j < bs.length) :
  Calls Tryz.prog 63 #[.int .i64 (i : Int), .int .i64 (j : Int), .pointer (some ⟨gK, 0, none⟩)] W (fun e w' => e = .returned (.int .i64 (cfB 0 bs i j)) ∧ ∃ q os, w' = grow (W.drewN q) os) := by
 have e1 : bs.getD i zeroB = bs[i] := by simp [hi]
 have e2 : bs.getD j zeroB = bs[j] := by simp [hj]
 unfold cfB
 rw [e1, e2]
 have K1 := Lib.hid (fun n os => grown_drew (W := W) n os (key0_any gP gM vb bs _ (h.below (below_drawn W n os)).p (h.below (below_drawn W n os)).m (h.below (below_drawn W n os)).b ok i hi))
 have K2 := Lib.hid (fun n os => grown_drew (W := W) n os (key0_any gP gM vb bs _ (h.below (below_drawn W n os)).p (h.below (below_drawn W n os)).m (h.below (below_drawn W n os)).b ok j hj))
 generalize keyB 0 bs[i] = x at K1 ⊢
 generalize keyB 0 bs[j] = y at K2 ⊢
 have C1 := Lib.hid (fun n os => grown_same (W := W) n os (compare64 x y _))
 have C2 := Lib.hid (fun n os => grown_same (W := W) n os (compareI (i : Int) (j : Int) _))
 generalize cmpF x y = c1 at C1 ⊢
 generalize cmpF (i : Int) (j : Int) = c2 at C2 ⊢
 have f0 := fun n os => (h.below (below_drawn W n os)).k
 have E := enters Tryz.func59 (by kernel_rfl) rfl
 clear e1 e2 h ok hi hj
 go_enter Tryz.func63, Tryz.ntmps63
 go_upto_region 1 with (fail)
 refine wp_region_quiet_tail (C := fun w' => ∃ p : GrownBy, w' = grow (W.drewN p.n) p.os) 10 (by kernel_rfl) (by kernel_rfl) ⟨⟨1, #[]⟩, by rw [grow_empty]; rfl⟩ ?_
 simp only [List.take_succ_cons, List.take_zero, List.drop_succ_cons, List.drop_zero]
 repeat (go_big_quiet_step (first | (with_reducible exact K1.out _ _) | (with_reducible exact K2.out _ _) | (with_reducible exact C1.out _ _) | (with_reducible exact C2.out _ _)))
 refine wpQuiet_nil ?_
 rintro _ ⟨⟨nq, osq⟩, rfl⟩
 clear f0 K1 K2 C1 C2
 obtain ⟨W1, hW1⟩ : ∃ ww, ww = grow (W.drewN nq) osq := ⟨_, rfl⟩
 rw [← hW1]
 have HW := Lib.hid hW1
 have hn := heap_alloc_new W1 (.cells #[.int .i64 c1, .int .i64 c2] 3)
 have OC := Lib.hid (or_any W1.heap.size c1 c2 (W1.alloc (.cells #[.int .i64 c1, .int .i64 c2] 3)) (cell_row hn 0 _ rfl) (cell_row hn 1 _ rfl))
 clear hW1 hn
 go_wp2_with fail
 refine (OC.out).mono ?_
 rintro e _ ⟨rfl, rfl⟩
 go_wp2_with fail
 go_ret
 exact ⟨rfl, nq, osq ++ #[.cells #[.int .i64 c1, .int .i64 c2] 3], by rw [alloc_eq_grow, HW.out, grow_grow]⟩

set_option maxRecDepth 100000 in
set_option maxHeartbeats 4000000 in
theorem cmp1_any (gK gP gM : Nat) (vb : Value) (bs : List Bx) (W : World) (h : KeyAt W 60 gK gP gM vb bs) (ok : ∀ b ∈ bs, HitM.Bx.ok b) (i j : Nat) (hi : i < bs.length) (hj : j < bs.length) :
  Calls Tryz.prog 63 #[.int .i64 (i : Int), .int .i64 (j : Int), .pointer (some ⟨gK, 0, none⟩)] W (fun e w' => e = .returned (.int .i64 (cfB 1 bs i j)) ∧ ∃ q os, w' = grow (W.drewN q) os) := by
 have e1 : bs.getD i zeroB = bs[i] := by simp [hi]
 have e2 : bs.getD j zeroB = bs[j] := by simp [hj]
 unfold cfB
 rw [e1, e2]
 have K1 := Lib.hid (fun n os => grown_drew (W := W) n os (key1_any gP gM vb bs _ (h.below (below_drawn W n os)).p (h.below (below_drawn W n os)).m (h.below (below_drawn W n os)).b ok i hi))
 have K2 := Lib.hid (fun n os => grown_drew (W := W) n os (key1_any gP gM vb bs _ (h.below (below_drawn W n os)).p (h.below (below_drawn W n os)).m (h.below (below_drawn W n os)).b ok j hj))
 generalize keyB 1 bs[i] = x at K1 ⊢
 generalize keyB 1 bs[j] = y at K2 ⊢
 have C1 := Lib.hid (fun n os => grown_same (W := W) n os (compare64 x y _))
 have C2 := Lib.hid (fun n os => grown_same (W := W) n os (compareI (i : Int) (j : Int) _))
 generalize cmpF x y = c1 at C1 ⊢
 generalize cmpF (i : Int) (j : Int) = c2 at C2 ⊢
 have f0 := fun n os => (h.below (below_drawn W n os)).k
 have E := enters Tryz.func60 (by kernel_rfl) rfl
 clear e1 e2 h ok hi hj
 go_enter Tryz.func63, Tryz.ntmps63
 go_upto_region 1 with (fail)
 refine wp_region_quiet_tail (C := fun w' => ∃ p : GrownBy, w' = grow (W.drewN p.n) p.os) 10 (by kernel_rfl) (by kernel_rfl) ⟨⟨1, #[]⟩, by rw [grow_empty]; rfl⟩ ?_
 simp only [List.take_succ_cons, List.take_zero, List.drop_succ_cons, List.drop_zero]
 repeat (go_big_quiet_step (first | (with_reducible exact K1.out _ _) | (with_reducible exact K2.out _ _) | (with_reducible exact C1.out _ _) | (with_reducible exact C2.out _ _)))
 refine wpQuiet_nil ?_
 rintro _ ⟨⟨nq, osq⟩, rfl⟩
 clear f0 K1 K2 C1 C2
 obtain ⟨W1, hW1⟩ : ∃ ww, ww = grow (W.drewN nq) osq := ⟨_, rfl⟩
 rw [← hW1]
 have HW := Lib.hid hW1
 have hn := heap_alloc_new W1 (.cells #[.int .i64 c1, .int .i64 c2] 3)
 have OC := Lib.hid (or_any W1.heap.size c1 c2 (W1.alloc (.cells #[.int .i64 c1, .int .i64 c2] 3)) (cell_row hn 0 _ rfl) (cell_row hn 1 _ rfl))
 clear hW1 hn
 go_wp2_with fail
 refine (OC.out).mono ?_
 rintro e _ ⟨rfl, rfl⟩
 go_wp2_with fail
 go_ret
 exact ⟨rfl, nq, osq ++ #[.cells #[.int .i64 c1, .int .i64 c2] 3], by rw [alloc_eq_grow, HW.out, grow_grow]⟩

set_option maxRecDepth 100000 in
set_option maxHeartbeats 4000000 in
theorem cmp2_any (gK gP gM : Nat) (vb : Value) (bs : List Bx) (W : World) (h : KeyAt W 61 gK gP gM vb bs) (ok : ∀ b ∈ bs, HitM.Bx.ok b) (i j : Nat) (hi : i < bs.length) (hj : j < bs.length) :
  Calls Tryz.prog 63 #[.int .i64 (i : Int), .int .i64 (j : Int), .pointer (some ⟨gK, 0, none⟩)] W (fun e w' => e = .returned (.int .i64 (cfB 2 bs i j)) ∧ ∃ q os, w' = grow (W.drewN q) os) := by
 have e1 : bs.getD i zeroB = bs[i] := by simp [hi]
 have e2 : bs.getD j zeroB = bs[j] := by simp [hj]
 unfold cfB
 rw [e1, e2]
 have K1 := Lib.hid (fun n os => grown_drew (W := W) n os (key2_any gP gM vb bs _ (h.below (below_drawn W n os)).p (h.below (below_drawn W n os)).m (h.below (below_drawn W n os)).b ok i hi))
 have K2 := Lib.hid (fun n os => grown_drew (W := W) n os (key2_any gP gM vb bs _ (h.below (below_drawn W n os)).p (h.below (below_drawn W n os)).m (h.below (below_drawn W n os)).b ok j hj))
 generalize keyB 2 bs[i] = x at K1 ⊢
 generalize keyB 2 bs[j] = y at K2 ⊢
 have C1 := Lib.hid (fun n os => grown_same (W := W) n os (compare64 x y _))
 have C2 := Lib.hid (fun n os => grown_same (W := W) n os (compareI (i : Int) (j : Int) _))
 generalize cmpF x y = c1 at C1 ⊢
 generalize cmpF (i : Int) (j : Int) = c2 at C2 ⊢
 have f0 := fun n os => (h.below (below_drawn W n os)).k
 have E := enters Tryz.func61 (by kernel_rfl) rfl
 clear e1 e2 h ok hi hj
 go_enter Tryz.func63, Tryz.ntmps63
 go_upto_region 1 with (fail)
 refine wp_region_quiet_tail (C := fun w' => ∃ p : GrownBy, w' = grow (W.drewN p.n) p.os) 10 (by kernel_rfl) (by kernel_rfl) ⟨⟨1, #[]⟩, by rw [grow_empty]; rfl⟩ ?_
 simp only [List.take_succ_cons, List.take_zero, List.drop_succ_cons, List.drop_zero]
 repeat (go_big_quiet_step (first | (with_reducible exact K1.out _ _) | (with_reducible exact K2.out _ _) | (with_reducible exact C1.out _ _) | (with_reducible exact C2.out _ _)))
 refine wpQuiet_nil ?_
 rintro _ ⟨⟨nq, osq⟩, rfl⟩
 clear f0 K1 K2 C1 C2
 obtain ⟨W1, hW1⟩ : ∃ ww, ww = grow (W.drewN nq) osq := ⟨_, rfl⟩
 rw [← hW1]
 have HW := Lib.hid hW1
 have hn := heap_alloc_new W1 (.cells #[.int .i64 c1, .int .i64 c2] 3)
 have OC := Lib.hid (or_any W1.heap.size c1 c2 (W1.alloc (.cells #[.int .i64 c1, .int .i64 c2] 3)) (cell_row hn 0 _ rfl) (cell_row hn 1 _ rfl))
 clear hW1 hn
 go_wp2_with fail
 refine (OC.out).mono ?_
 rintro e _ ⟨rfl, rfl⟩
 go_wp2_with fail
 go_ret
 exact ⟨rfl, nq, osq ++ #[.cells #[.int .i64 c1, .int .i64 c2] 3], by rw [alloc_eq_grow, HW.out, grow_grow]⟩

end Go.Proofs.YtdaokkgenfpmhaaGreat.BvhB

