/- The walk of hit.Tri. -/
import Derived.Test.YtdaokkgenfpmhaaHitM
import Derived.Test.YtdaokkgenfpmhaaQu
import Derived.Test.YtdaokkgenfpmhaaBase2
set_option linter.unusedVariables false
set_option linter.unusedSimpArgs false
namespace Go.Proofs.Ytdaokkgenfpmhaa.HitT
open Go.RowKit Go.Sort FixM Base Num FixW FixV FixU FixS FixO FixN FixK Qb Qt Qa Qf VecW VecV VecU VecR LightQ LightC MeshM MeshA MeshD MeshP HitM
theorem hit_size : (Try.prog.info? 38).map (·.size) = some 4 := by kernel_rfl
theorem hit_ones (a b c d : Int) : ∀ v ∈ (#[Value.int .i64 a, .int .i64 b, .int .i64 c, .int .i64 d] : Array Value).toList, v.oneCell' = true := by
  intro v hv; simp at hv; rcases hv with rfl | rfl | rfl | rfl <;> rfl
theorem store_hit {ops : Array Oper} {rest : List Oper} {o : Oper} {a : Act} {w : World} {Q : Exit → Act → World → Prop} (hgd : o.guard = none) (x y : Operand) (ho : o.op = .store 38 x y) (hd : o.dst = none)
    (g : Nat) (A B C D : Int) (hx : a.eval x = .pointer (some ⟨g, 0, none⟩)) (hy : a.eval y = .agg #[.int .i64 A, .int .i64 B, .int .i64 C, .int .i64 D]) (cur : Array Value) (hg : w.heap[g]? = some (.cells cur 38)) (hc2 : cur.size = 4)
    (h : wpList Try.prog ops Q rest a (w.setRow g #[.int .i64 A, .int .i64 B, .int .i64 C, .int .i64 D])) : wpList Try.prog ops Q (o :: rest) a w :=
  wpList_store_arr hgd 38 x y ho g _ hx hy 38 cur hg hit_size (by rw [hc2]; rfl) (hit_ones _ _ _ _) hd h
theorem alloc_vec (w : World) : (Instr.alloc 23 true (.tuple #[])).run Try.prog w = .ok (.pointer (some ⟨w.heap.size, 0, none⟩)) (w.alloc (box3 ⟨0, 0, 0⟩)) := by kernel_rfl
theorem drawn_below {f : FuncId} {args : Array Value} {w : World} {v : Value} (h : Calls Try.prog f args w (Drawn v w)) : Calls Try.prog f args w (VTo v w) :=
  h.mono fun _ _ h => ⟨h.1, by obtain ⟨n, hn⟩ := h.2; rw [hn]; exact ⟨rfl, rfl, rfl, Nat.le_refl _, fun _ _ => rfl⟩⟩
theorem row3_one (a b c : Int) : (#[Value.int .i64 a, .int .i64 b, .int .i64 c] : Array Value).all (·.oneCell') = true := row_one a b c
theorem al5 (w : World) (A B C D E : Obj) : (((((w.alloc A).alloc B).alloc C).alloc D).alloc E).heap[w.heap.size]? = some A ∧ (((((w.alloc A).alloc B).alloc C).alloc D).alloc E).heap[w.heap.size + 1]? = some B ∧ (((((w.alloc A).alloc B).alloc C).alloc D).alloc E).heap[w.heap.size + 1 + 1]? = some C ∧ (((((w.alloc A).alloc B).alloc C).alloc D).alloc E).heap[w.heap.size + 1 + 1 + 1]? = some D ∧ (((((w.alloc A).alloc B).alloc C).alloc D).alloc E).heap[w.heap.size + 1 + 1 + 1 + 1]? = some E ∧ Below w.heap.size w (((((w.alloc A).alloc B).alloc C).alloc D).alloc E) := by
  have hb : ∀ (w : World) (o : Obj), Below w.heap.size w (w.alloc o) := fun w o => ext_alloc w o
  have s1 := MeshQ.al_size w A
  have s2 := MeshQ.al_size (w.alloc A) B
  have s3 := MeshQ.al_size ((w.alloc A).alloc B) C
  have s4 := MeshQ.al_size (((w.alloc A).alloc B).alloc C) D
  have h0 := heap_alloc_new w A
  have h1 := heap_alloc_new (w.alloc A) B
  have h2 := heap_alloc_new ((w.alloc A).alloc B) C
  have h3 := heap_alloc_new (((w.alloc A).alloc B).alloc C) D
  have h4 := heap_alloc_new ((((w.alloc A).alloc B).alloc C).alloc D) E
  rw [s1] at h1
  rw [s2, s1] at h2
  rw [s3, s2, s1] at h3
  rw [s4, s3, s2, s1] at h4
  exact ⟨vec_step (vec_step (vec_step (vec_step h0 (hb _ _)) (hb _ _)) (hb _ _)) (hb _ _), vec_step (vec_step (vec_step h1 (hb _ _)) (hb _ _)) (hb _ _), vec_step (vec_step h2 (hb _ _)) (hb _ _), vec_step h3 (hb _ _), h4,
    (((((hb w A).trans ((hb _ B).mono (hb w A).size)).trans ((hb _ C).mono (by rw [s2, s1]; omega))).trans ((hb _ D).mono (by rw [s3, s2, s1]; omega))).trans ((hb _ E).mono (by rw [s4, s3, s2, s1]; omega)))⟩

set_option maxRecDepth 100000 in
set_option maxHeartbeats 16000000 in
theorem tri_any (r : Ry) (a b c : V3) (hr : r.ok) (ha : a.ok) (hb : b.ok) (hc : c.ok) (w : World) : Calls Try.prog 37 #[rayV r, vecV a, vecV b, vecV c] w (VTo (triR (triH r a b c)) w) := by
  obtain ⟨e, he⟩ : ∃ e, e = map2 subF b a := ⟨_, rfl⟩
  obtain ⟨f, hf⟩ : ∃ f, f = map2 subF c a := ⟨_, rfl⟩
  obtain ⟨p, hp⟩ : ∃ p, p = crossF r.d f := ⟨_, rfl⟩
  obtain ⟨s, hs⟩ : ∃ s, s = map2 subF r.o a := ⟨_, rfl⟩
  obtain ⟨q, hq⟩ : ∃ q, q = crossF s e := ⟨_, rfl⟩
  obtain ⟨n, hn⟩ : ∃ n, n = dotF e p := ⟨_, rfl⟩
  obtain ⟨u1, hu1⟩ : ∃ zz, zz = dotF s p := ⟨_, rfl⟩
  obtain ⟨u, hu⟩ : ∃ zz, zz = divF u1 n := ⟨_, rfl⟩
  obtain ⟨v1, hv1⟩ : ∃ zz, zz = dotF r.d q := ⟨_, rfl⟩
  obtain ⟨v, hv⟩ : ∃ zz, zz = divF v1 n := ⟨_, rfl⟩
  obtain ⟨sv, hsv⟩ : ∃ zz, zz = addF u v := ⟨_, rfl⟩
  obtain ⟨t1, ht1⟩ : ∃ zz, zz = dotF f q := ⟨_, rfl⟩
  obtain ⟨t, ht⟩ : ∃ zz, zz = divF t1 n := ⟨_, rfl⟩
  have HE : Hid (triH r a b c = if n = 0 then none else if u < 0 ∨ ONE < u then none else if v < 0 ∨ ONE < sv then none else if t < 0 then none else some ⟨t, 0, u, v⟩) := Lib.hid (by
    have e1 : triN r a b c = n := by rw [hn, hp, hf, he]; rfl
    have e2 : triU r a b c = u := by unfold triU; rw [e1, hu, hu1, hs, hp, hf]
    have eq1 : triQ r a b = q := by unfold triQ; rw [hq, hs, he]
    have e3 : triV r a b c = v := by unfold triV; rw [e1, eq1, hv, hv1]
    have e4 : triT r a b c = t := by unfold triT; rw [e1, eq1, ht, ht1, hf]
    unfold triH
    rw [e1, e2, e3, e4, hsv])
  generalize triH r a b c = res at HE ⊢
  have oe : e.ok := by rw [he]; exact ok_map2sub _ _
  have of_ : f.ok := by rw [hf]; exact ok_map2sub _ _
  have op : p.ok := by rw [hp]; exact ok_cross _ _
  have os : s.ok := by rw [hs]; exact ok_map2sub _ _
  have oq : q.ok := by rw [hq]; exact ok_cross _ _
  have in_ : In n := by rw [hn]; exact in_dot _ _
  have iu1 : In u1 := by rw [hu1]; exact in_dot _ _
  have iv1 : In v1 := by rw [hv1]; exact in_dot _ _
  have it1 : In t1 := by rw [ht1]; exact in_dot _ _
  have iu : In u := by rw [hu]; exact in_div _ _
  have iv : In v := by rw [hv]; exact in_div _ _
  obtain ⟨⟨ox, oy, oz⟩, ⟨dx, dy, dz⟩⟩ := r
  dsimp only at *
  have CE : Hid (∀ w, Calls Try.prog 46 #[vecV b, vecV a] w (VTo (vecV e) w)) := Lib.hid (fun w => by have := vsub_any b a hb ha w; rw [← he] at this; exact this)
  have CF : Hid (∀ w, Calls Try.prog 46 #[vecV c, vecV a] w (VTo (vecV f) w)) := Lib.hid (fun w => by have := vsub_any c a hc ha w; rw [← hf] at this; exact this)
  have CP : Hid (∀ w, Calls Try.prog 47 #[vecV ⟨dx, dy, dz⟩, vecV f] w (VTo (vecV p) w)) := Lib.hid (fun w => by have := vcross_any ⟨dx, dy, dz⟩ f hr.2 of_ w; rw [← hp] at this; exact this)
  have CN : Hid (∀ w, Calls Try.prog 48 #[vecV e, vecV p] w (VTo (.int .i64 n) w)) := Lib.hid (fun w => by have := vdot_any e p oe op w; rw [← hn] at this; exact this)
  have CS : Hid (∀ w, Calls Try.prog 46 #[vecV ⟨ox, oy, oz⟩, vecV a] w (VTo (vecV s) w)) := Lib.hid (fun w => by have := vsub_any ⟨ox, oy, oz⟩ a hr.1 ha w; rw [← hs] at this; exact this)
  have CU1 : Hid (∀ w, Calls Try.prog 48 #[vecV s, vecV p] w (VTo (.int .i64 u1) w)) := Lib.hid (fun w => by have := vdot_any s p os op w; rw [← hu1] at this; exact this)
  have CU : Hid (∀ w, Calls Try.prog 33 #[.int .i64 u1, .int .i64 n] w (VTo (.int .i64 u) w)) := Lib.hid (fun w => by have := drawn_below (div_any u1 n iu1.1 iu1.2 in_.1 in_.2 w); rw [← hu] at this; exact this)
  have CQ : Hid (∀ w, Calls Try.prog 47 #[vecV s, vecV e] w (VTo (vecV q) w)) := Lib.hid (fun w => by have := vcross_any s e os oe w; rw [← hq] at this; exact this)
  have CV1 : Hid (∀ w, Calls Try.prog 48 #[vecV ⟨dx, dy, dz⟩, vecV q] w (VTo (.int .i64 v1) w)) := Lib.hid (fun w => by have := vdot_any ⟨dx, dy, dz⟩ q hr.2 oq w; rw [← hv1] at this; exact this)
  have CV : Hid (∀ w, Calls Try.prog 33 #[.int .i64 v1, .int .i64 n] w (VTo (.int .i64 v) w)) := Lib.hid (fun w => by have := drawn_below (div_any v1 n iv1.1 iv1.2 in_.1 in_.2 w); rw [← hv] at this; exact this)
  have CA : Hid (∀ w, Calls Try.prog 38 #[.int .i64 u, .int .i64 v] w (VTo (.int .i64 sv) w)) := Lib.hid (fun w => by have := same_below (add_any u v iu.1 iu.2 iv.1 iv.2 w); rw [← hsv] at this; exact this)
  have CT1 : Hid (∀ w, Calls Try.prog 48 #[vecV f, vecV q] w (VTo (.int .i64 t1) w)) := Lib.hid (fun w => by have := vdot_any f q of_ oq w; rw [← ht1] at this; exact this)
  have CT : Hid (∀ w, Calls Try.prog 33 #[.int .i64 t1, .int .i64 n] w (VTo (.int .i64 t) w)) := Lib.hid (fun w => by have := drawn_below (div_any t1 n it1.1 it1.2 in_.1 in_.2 w); rw [← ht] at this; exact this)
  clear he hf hp hs hq hn hu1 hu hv1 hv hsv ht1 ht oe of_ op os oq in_ iu1 iv1 it1 iu iv hr ha hb hc
  obtain ⟨aX, aY, aZ⟩ := a
  obtain ⟨bX, bY, bZ⟩ := b
  obtain ⟨cX, cY, cZ⟩ := c
  obtain ⟨eX, eY, eZ⟩ := e
  obtain ⟨fX, fY, fZ⟩ := f
  obtain ⟨pX, pY, pZ⟩ := p
  obtain ⟨sX, sY, sZ⟩ := s
  obtain ⟨qX, qY, qZ⟩ := q
  dsimp only [vecV, rayV] at *
  obtain ⟨hR, hA, hBb, hC, hZ, hB0⟩ := al5 w (.cells #[.int .i64 ox, .int .i64 oy, .int .i64 oz, .int .i64 dx, .int .i64 dy, .int .i64 dz] 25) (.cells #[.int .i64 aX, .int .i64 aY, .int .i64 aZ] 23) (.cells #[.int .i64 bX, .int .i64 bY, .int .i64 bZ] 23) (.cells #[.int .i64 cX, .int .i64 cY, .int .i64 cZ] 23) (.cells #[.int .i64 0, .int .i64 0, .int .i64 0, .int .i64 0] 38)
  obtain ⟨W, hW⟩ : ∃ W, W = (((((w.alloc (.cells #[.int .i64 ox, .int .i64 oy, .int .i64 oz, .int .i64 dx, .int .i64 dy, .int .i64 dz] 25)).alloc (.cells #[.int .i64 aX, .int .i64 aY, .int .i64 aZ] 23)).alloc (.cells #[.int .i64 bX, .int .i64 bY, .int .i64 bZ] 23)).alloc (.cells #[.int .i64 cX, .int .i64 cY, .int .i64 cZ] 23)).alloc (.cells #[.int .i64 0, .int .i64 0, .int .i64 0, .int .i64 0] 38)) := ⟨_, rfl⟩
  rw [← hW] at hR hA hBb hC hZ hB0
  have HR0 := Lib.hid hR
  have HA0 := Lib.hid hA
  have HBB0 := Lib.hid hBb
  have HC0 := Lib.hid hC
  have HZ0 := Lib.hid hZ
  have HB0 := Lib.hid hB0
  have HWW := Lib.hid hW
  clear hR hA hBb hC hZ hB0 hW
  go_enter Try.func37, Try.ntmps37
  go_upto_region 1 with (fail)
  rw [← HWW.out]
  clear HWW
  refine wp_region_free 81 [0, 1, 2, 3, 4, 5] [⟨6, 10, #[.int .i64 0, .int .i64 0, .int .i64 0], 23, 8, 21, #[.int .i64 eX, .int .i64 eY, .int .i64 eZ]⟩, ⟨7, 11, #[.int .i64 0, .int .i64 0, .int .i64 0], 23, 9, 24, #[.int .i64 fX, .int .i64 fY, .int .i64 fZ]⟩] (by kernel_rfl) rfl (by kernel_rfl) (by
    intro x hx
    simp only [List.mem_cons, List.not_mem_nil, or_false] at hx
    rcases hx with rfl | rfl
    · exact ⟨⟨_, rfl, ⟨⟨_, rfl, alloc_vec⟩, rfl, rfl⟩⟩, _, rfl, ⟨⟨_, rfl, vec_size⟩, rfl, rfl, rfl, row_one _ _ _⟩⟩
    · exact ⟨⟨_, rfl, ⟨⟨_, rfl, alloc_vec⟩, rfl, rfl⟩⟩, _, rfl, ⟨⟨_, rfl, vec_size⟩, rfl, rfl, rfl, row_one _ _ _⟩⟩) ?_
  have QE := Lib.hid (fun W => qb (P := Try.prog) (W := W) (fun w2 _ => CE.out w2))
  have QF := Lib.hid (fun W => qb (P := Try.prog) (W := W) (fun w2 _ => CF.out w2))
  refine Walk.step (A := ?A0) (o := ?o0) ?e0 ?w0 19 ?d0 (by simp) ?h0 ?n0
  case e0 => simp only [List.getElem?_toArray, List.getElem?_cons_succ, List.getElem?_cons_zero]; exact rfl
  case w0 => exact rfl
  case d0 => exact rfl
  case h0 =>
    intro W9 hW9
    obtain ⟨z0, z1, z2⟩ := cells3 (vec_step HBB0.out hW9)
    go_big_quiet_op
    exact rfl
  refine Walk.step (A := ?A1) (o := ?o1) ?e1 ?w1 20 ?d1 (by simp) ?h1 ?n1
  case e1 => simp only [List.getElem?_toArray, List.getElem?_cons_succ, List.getElem?_cons_zero]; exact rfl
  case w1 => exact rfl
  case d1 => exact rfl
  case h1 =>
    intro W9 hW9
    obtain ⟨z0, z1, z2⟩ := cells3 (vec_step HA0.out hW9)
    go_big_quiet_op
    exact rfl
  refine Walk.step (A := ?A2) (o := ?o2) ?e2 ?w2 21 ?d2 (by simp) ?h2 ?n2
  case e2 => simp only [List.getElem?_toArray, List.getElem?_cons_succ, List.getElem?_cons_zero]; exact rfl
  case w2 => exact rfl
  case d2 => exact rfl
  case h2 =>
    intro W9 hW9
    go_big_quiet_op
    apply Exists.intro
    refine ⟨fun _ => ?_, ?_⟩
    · with_reducible exact QE.out _ _ _
    exact rfl
  refine Walk.step (A := ?A3) (o := ?o3) ?e3 ?w3 22 ?d3 (by simp) ?h3 ?n3
  case e3 => simp only [List.getElem?_toArray, List.getElem?_cons_succ, List.getElem?_cons_zero]; exact rfl
  case w3 => exact rfl
  case d3 => exact rfl
  case h3 =>
    intro W9 hW9
    obtain ⟨z0, z1, z2⟩ := cells3 (vec_step HC0.out hW9)
    go_big_quiet_op
    exact rfl
  refine Walk.step (A := ?A4) (o := ?o4) ?e4 ?w4 23 ?d4 (by simp) ?h4 ?n4
  case e4 => simp only [List.getElem?_toArray, List.getElem?_cons_succ, List.getElem?_cons_zero]; exact rfl
  case w4 => exact rfl
  case d4 => exact rfl
  case h4 =>
    intro W9 hW9
    obtain ⟨z0, z1, z2⟩ := cells3 (vec_step HA0.out hW9)
    go_big_quiet_op
    exact rfl
  refine Walk.step (A := ?A5) (o := ?o5) ?e5 ?w5 24 ?d5 (by simp) ?h5 ?n5
  case e5 => simp only [List.getElem?_toArray, List.getElem?_cons_succ, List.getElem?_cons_zero]; exact rfl
  case w5 => exact rfl
  case d5 => exact rfl
  case h5 =>
    intro W9 hW9
    go_big_quiet_op
    apply Exists.intro
    refine ⟨fun _ => ?_, ?_⟩
    · with_reducible exact QF.out _ _ _
    exact rfl
  refine ⟨?_, ?_⟩
  · intro x hx
    simp only [List.mem_cons, List.not_mem_nil, or_false] at hx
    rcases hx with rfl | rfl <;> rfl
  intro G hG hne w5 hb hk
  have k7 := hk _ (List.mem_cons_self ..)
  have k8 := hk _ (List.mem_cons_of_mem _ (List.mem_cons_self ..))
  dsimp only at k7 k8
  simp only [lay, Act.put, List.setIfInBounds_toArray, List.set_cons_succ, List.set_cons_zero, ptr]
  generalize G 6 = g10 at k7 ⊢
  generalize G 7 = g11 at k8 ⊢
  clear hG hne hk QE QF CE CF
  have HR1 := Lib.hid (vec_step HR0.out hb)
  have HA1 := Lib.hid (vec_step HA0.out hb)
  have HBB1 := Lib.hid (vec_step HBB0.out hb)
  have HC1 := Lib.hid (vec_step HC0.out hb)
  have HZ1 := Lib.hid (vec_step HZ0.out hb)
  have HB1 := Lib.hid (HB0.out.trans (hb.mono HB0.out.size))
  clear HR0 HA0 HBB0 HC0 HZ0 HB0 hb  
  have HE_1 := Lib.hid (k7)
  have HF1 := Lib.hid (k8)
  clear k7 k8
  have cHR3 := cell_row HR1.out 3 _ rfl
  have cHR4 := cell_row HR1.out 4 _ rfl
  have cHR5 := cell_row HR1.out 5 _ rfl
  have cHF0 := cell_row HF1.out 0 _ rfl
  have cHF1 := cell_row HF1.out 1 _ rfl
  have cHF2 := cell_row HF1.out 2 _ rfl
  go_wp2_with fail
  refine (CP.out _).mono ?_
  rintro e y1 ⟨rfl, hb⟩
  have HR2 := Lib.hid (vec_step HR1.out hb)
  have HA2 := Lib.hid (vec_step HA1.out hb)
  have HBB2 := Lib.hid (vec_step HBB1.out hb)
  have HC2 := Lib.hid (vec_step HC1.out hb)
  have HZ2 := Lib.hid (vec_step HZ1.out hb)
  have HB2 := Lib.hid (HB1.out.trans (hb.mono HB1.out.size))
  have HE_2 := Lib.hid (vec_step HE_1.out hb)
  have HF2 := Lib.hid (vec_step HF1.out hb)
  clear HR1 HA1 HBB1 HC1 HZ1 HB1 HE_1 HF1 hb cHR3 cHR4 cHR5 cHF0 cHF1 cHF2 
  go_upto_region 3 with (fail)
  have hx := ext_alloc y1 (.cells #[.int .i64 pX, .int .i64 pY, .int .i64 pZ] 23)
  have hn := heap_alloc_new y1 (.cells #[.int .i64 pX, .int .i64 pY, .int .i64 pZ] 23)
  obtain ⟨y2, hW⟩ : ∃ W, W = y1.alloc (.cells #[.int .i64 pX, .int .i64 pY, .int .i64 pZ] 23) := ⟨_, rfl⟩
  rw [← hW] at hx hn ⊢
  clear hW
  have HR3 := Lib.hid (vec_step HR2.out hx)
  have HA3 := Lib.hid (vec_step HA2.out hx)
  have HBB3 := Lib.hid (vec_step HBB2.out hx)
  have HC3 := Lib.hid (vec_step HC2.out hx)
  have HZ3 := Lib.hid (vec_step HZ2.out hx)
  have HB3 := Lib.hid (HB2.out.trans (hx.mono HB2.out.size))
  have HE_3 := Lib.hid (vec_step HE_2.out hx)
  have HF3 := Lib.hid (vec_step HF2.out hx)
  clear HR2 HA2 HBB2 HC2 HZ2 HB2 HE_2 HF2 hx  
  have HP3 := Lib.hid (hn)
  clear hn
  generalize y1.heap.size = gHP at HP3 ⊢
  have cHE_0 := cell_row HE_3.out 0 _ rfl
  have cHE_1 := cell_row HE_3.out 1 _ rfl
  have cHE_2 := cell_row HE_3.out 2 _ rfl
  have cHP0 := cell_row HP3.out 0 _ rfl
  have cHP1 := cell_row HP3.out 1 _ rfl
  have cHP2 := cell_row HP3.out 2 _ rfl
  go_wp2_with fail
  refine (CN.out _).mono ?_
  rintro e y3 ⟨rfl, hb⟩
  have HR4 := Lib.hid (vec_step HR3.out hb)
  have HA4 := Lib.hid (vec_step HA3.out hb)
  have HBB4 := Lib.hid (vec_step HBB3.out hb)
  have HC4 := Lib.hid (vec_step HC3.out hb)
  have HZ4 := Lib.hid (vec_step HZ3.out hb)
  have HB4 := Lib.hid (HB3.out.trans (hb.mono HB3.out.size))
  have HE_4 := Lib.hid (vec_step HE_3.out hb)
  have HF4 := Lib.hid (vec_step HF3.out hb)
  have HP4 := Lib.hid (vec_step HP3.out hb)
  clear HR3 HA3 HBB3 HC3 HZ3 HB3 HE_3 HF3 HP3 hb cHE_0 cHE_1 cHE_2 cHP0 cHP1 cHP2 CP CN
  by_cases hn0 : n = 0
  · have dn : decide (n = 0) = true := decide_eq_true hn0
    have dn2 : (n == 0) = true := by simp [hn0]
    have hres : res = none := by rw [HE.out, if_pos hn0]
    subst hres
    go_wp2_with (with_reducible refine store_hit rfl (.tmp 8) (.tmp 34) rfl rfl (w.heap.size + 1 + 1 + 1 + 1) 0 0 0 0 rfl rfl _ HZ4.out rfl ?_)
    refine bodyPost_ret (results_row_tmp rfl _ _ _ (w.heap.size + 1 + 1 + 1 + 1) 38 _ _ _ rfl (setRow_heap _ _ _ _ _ _ HZ4.out) Try.underlying38 hit_size) rfl ?_
    exact ⟨rfl, below_setRow HB4.out (by omega) _⟩
  · have dn : decide (n = 0) = false := decide_eq_false hn0
    have dn2 : (n == 0) = false := by simp [hn0]
    have HE1 : Hid (res = if u < 0 ∨ ONE < u then none else if v < 0 ∨ ONE < sv then none else if t < 0 then none else some ⟨t, 0, u, v⟩) := Lib.hid (by rw [HE.out, if_neg hn0])
    clear HE hn0
    have cHR0 := cell_row HR4.out 0 _ rfl
    have cHR1 := cell_row HR4.out 1 _ rfl
    have cHR2 := cell_row HR4.out 2 _ rfl
    have cHA0 := cell_row HA4.out 0 _ rfl
    have cHA1 := cell_row HA4.out 1 _ rfl
    have cHA2 := cell_row HA4.out 2 _ rfl
    go_wp2_with fail
    refine (CS.out _).mono ?_
    rintro e y4 ⟨rfl, hb⟩
    have HR5 := Lib.hid (vec_step HR4.out hb)
    have HA5 := Lib.hid (vec_step HA4.out hb)
    have HBB5 := Lib.hid (vec_step HBB4.out hb)
    have HC5 := Lib.hid (vec_step HC4.out hb)
    have HZ5 := Lib.hid (vec_step HZ4.out hb)
    have HB5 := Lib.hid (HB4.out.trans (hb.mono HB4.out.size))
    have HE_5 := Lib.hid (vec_step HE_4.out hb)
    have HF5 := Lib.hid (vec_step HF4.out hb)
    have HP5 := Lib.hid (vec_step HP4.out hb)
    clear HR4 HA4 HBB4 HC4 HZ4 HB4 HE_4 HF4 HP4 hb cHR0 cHR1 cHR2 cHA0 cHA1 cHA2 CS
    go_upto_region 7 with (fail)
    have hx := ext_alloc y4 (.cells #[.int .i64 sX, .int .i64 sY, .int .i64 sZ] 23)
    have hn := heap_alloc_new y4 (.cells #[.int .i64 sX, .int .i64 sY, .int .i64 sZ] 23)
    obtain ⟨y5, hW⟩ : ∃ W, W = y4.alloc (.cells #[.int .i64 sX, .int .i64 sY, .int .i64 sZ] 23) := ⟨_, rfl⟩
    rw [← hW] at hx hn ⊢
    clear hW
    have HR6 := Lib.hid (vec_step HR5.out hx)
    have HA6 := Lib.hid (vec_step HA5.out hx)
    have HBB6 := Lib.hid (vec_step HBB5.out hx)
    have HC6 := Lib.hid (vec_step HC5.out hx)
    have HZ6 := Lib.hid (vec_step HZ5.out hx)
    have HB6 := Lib.hid (HB5.out.trans (hx.mono HB5.out.size))
    have HE_6 := Lib.hid (vec_step HE_5.out hx)
    have HF6 := Lib.hid (vec_step HF5.out hx)
    have HP6 := Lib.hid (vec_step HP5.out hx)
    clear HR5 HA5 HBB5 HC5 HZ5 HB5 HE_5 HF5 HP5 hx  
    have HS6 := Lib.hid (hn)
    clear hn
    generalize y4.heap.size = gHS at HS6 ⊢
    have cHS0 := cell_row HS6.out 0 _ rfl
    have cHS1 := cell_row HS6.out 1 _ rfl
    have cHS2 := cell_row HS6.out 2 _ rfl
    have cHP0 := cell_row HP6.out 0 _ rfl
    have cHP1 := cell_row HP6.out 1 _ rfl
    have cHP2 := cell_row HP6.out 2 _ rfl
    go_wp2_with fail
    refine (CU1.out _).mono ?_
    rintro e y6 ⟨rfl, hb⟩
    have HR7 := Lib.hid (vec_step HR6.out hb)
    have HA7 := Lib.hid (vec_step HA6.out hb)
    have HBB7 := Lib.hid (vec_step HBB6.out hb)
    have HC7 := Lib.hid (vec_step HC6.out hb)
    have HZ7 := Lib.hid (vec_step HZ6.out hb)
    have HB7 := Lib.hid (HB6.out.trans (hb.mono HB6.out.size))
    have HE_7 := Lib.hid (vec_step HE_6.out hb)
    have HF7 := Lib.hid (vec_step HF6.out hb)
    have HP7 := Lib.hid (vec_step HP6.out hb)
    have HS7 := Lib.hid (vec_step HS6.out hb)
    clear HR6 HA6 HBB6 HC6 HZ6 HB6 HE_6 HF6 HP6 HS6 hb cHS0 cHS1 cHS2 cHP0 cHP1 cHP2 CU1
    go_wp2_with fail
    refine (CU.out _).mono ?_
    rintro e y7 ⟨rfl, hb⟩
    have HR8 := Lib.hid (vec_step HR7.out hb)
    have HA8 := Lib.hid (vec_step HA7.out hb)
    have HBB8 := Lib.hid (vec_step HBB7.out hb)
    have HC8 := Lib.hid (vec_step HC7.out hb)
    have HZ8 := Lib.hid (vec_step HZ7.out hb)
    have HB8 := Lib.hid (HB7.out.trans (hb.mono HB7.out.size))
    have HE_8 := Lib.hid (vec_step HE_7.out hb)
    have HF8 := Lib.hid (vec_step HF7.out hb)
    have HP8 := Lib.hid (vec_step HP7.out hb)
    have HS8 := Lib.hid (vec_step HS7.out hb)
    clear HR7 HA7 HBB7 HC7 HZ7 HB7 HE_7 HF7 HP7 HS7 hb  CU
    by_cases hu0 : u < 0
    · have du : decide (u < 0) = true := decide_eq_true hu0
      have hres : res = none := by rw [HE1.out, if_pos (.inl hu0)]
      subst hres
      go_wp2_with (with_reducible refine store_hit rfl (.tmp 8) (.tmp 50) rfl rfl (w.heap.size + 1 + 1 + 1 + 1) 0 0 0 0 rfl rfl _ HZ8.out rfl ?_)
      refine bodyPost_ret (results_row_tmp rfl _ _ _ (w.heap.size + 1 + 1 + 1 + 1) 38 _ _ _ rfl (setRow_heap _ _ _ _ _ _ HZ8.out) Try.underlying38 hit_size) rfl ?_
      exact ⟨rfl, below_setRow HB8.out (by omega) _⟩
    · have du : decide (u < 0) = false := decide_eq_false hu0
      by_cases hu1 : 4294967296 < u
      · have du2 : decide (4294967296 < u) = true := decide_eq_true hu1
        have hres : res = none := by rw [HE1.out, if_pos (.inr hu1)]
        subst hres
        go_wp2_with (with_reducible refine store_hit rfl (.tmp 8) (.tmp 50) rfl rfl (w.heap.size + 1 + 1 + 1 + 1) 0 0 0 0 rfl rfl _ HZ8.out rfl ?_)
        refine bodyPost_ret (results_row_tmp rfl _ _ _ (w.heap.size + 1 + 1 + 1 + 1) 38 _ _ _ rfl (setRow_heap _ _ _ _ _ _ HZ8.out) Try.underlying38 hit_size) rfl ?_
        exact ⟨rfl, below_setRow HB8.out (by omega) _⟩
      · have du2 : decide (4294967296 < u) = false := decide_eq_false hu1
        have HE2 : Hid (res = if v < 0 ∨ ONE < sv then none else if t < 0 then none else some ⟨t, 0, u, v⟩) := Lib.hid (by rw [HE1.out, if_neg (by unfold ONE; omega)])
        clear HE1
        have cHS0 := cell_row HS8.out 0 _ rfl
        have cHS1 := cell_row HS8.out 1 _ rfl
        have cHS2 := cell_row HS8.out 2 _ rfl
        have cHE_0 := cell_row HE_8.out 0 _ rfl
        have cHE_1 := cell_row HE_8.out 1 _ rfl
        have cHE_2 := cell_row HE_8.out 2 _ rfl
        go_wp2_with fail
        refine (CQ.out _).mono ?_
        rintro e y8 ⟨rfl, hb⟩
        have HR9 := Lib.hid (vec_step HR8.out hb)
        have HA9 := Lib.hid (vec_step HA8.out hb)
        have HBB9 := Lib.hid (vec_step HBB8.out hb)
        have HC9 := Lib.hid (vec_step HC8.out hb)
        have HZ9 := Lib.hid (vec_step HZ8.out hb)
        have HB9 := Lib.hid (HB8.out.trans (hb.mono HB8.out.size))
        have HE_9 := Lib.hid (vec_step HE_8.out hb)
        have HF9 := Lib.hid (vec_step HF8.out hb)
        have HP9 := Lib.hid (vec_step HP8.out hb)
        have HS9 := Lib.hid (vec_step HS8.out hb)
        clear HR8 HA8 HBB8 HC8 HZ8 HB8 HE_8 HF8 HP8 HS8 hb cHS0 cHS1 cHS2 cHE_0 cHE_1 cHE_2 CQ
        go_upto_region 11 with (fail)
        have hx := ext_alloc y8 (.cells #[.int .i64 qX, .int .i64 qY, .int .i64 qZ] 23)
        have hn := heap_alloc_new y8 (.cells #[.int .i64 qX, .int .i64 qY, .int .i64 qZ] 23)
        obtain ⟨y9, hW⟩ : ∃ W, W = y8.alloc (.cells #[.int .i64 qX, .int .i64 qY, .int .i64 qZ] 23) := ⟨_, rfl⟩
        rw [← hW] at hx hn ⊢
        clear hW
        have HR10 := Lib.hid (vec_step HR9.out hx)
        have HA10 := Lib.hid (vec_step HA9.out hx)
        have HBB10 := Lib.hid (vec_step HBB9.out hx)
        have HC10 := Lib.hid (vec_step HC9.out hx)
        have HZ10 := Lib.hid (vec_step HZ9.out hx)
        have HB10 := Lib.hid (HB9.out.trans (hx.mono HB9.out.size))
        have HE_10 := Lib.hid (vec_step HE_9.out hx)
        have HF10 := Lib.hid (vec_step HF9.out hx)
        have HP10 := Lib.hid (vec_step HP9.out hx)
        have HS10 := Lib.hid (vec_step HS9.out hx)
        clear HR9 HA9 HBB9 HC9 HZ9 HB9 HE_9 HF9 HP9 HS9 hx  
        have HQ10 := Lib.hid (hn)
        clear hn
        generalize y8.heap.size = gHQ at HQ10 ⊢
        have cHR3 := cell_row HR10.out 3 _ rfl
        have cHR4 := cell_row HR10.out 4 _ rfl
        have cHR5 := cell_row HR10.out 5 _ rfl
        have cHQ0 := cell_row HQ10.out 0 _ rfl
        have cHQ1 := cell_row HQ10.out 1 _ rfl
        have cHQ2 := cell_row HQ10.out 2 _ rfl
        go_wp2_with fail
        refine (CV1.out _).mono ?_
        rintro e y10 ⟨rfl, hb⟩
        have HR11 := Lib.hid (vec_step HR10.out hb)
        have HA11 := Lib.hid (vec_step HA10.out hb)
        have HBB11 := Lib.hid (vec_step HBB10.out hb)
        have HC11 := Lib.hid (vec_step HC10.out hb)
        have HZ11 := Lib.hid (vec_step HZ10.out hb)
        have HB11 := Lib.hid (HB10.out.trans (hb.mono HB10.out.size))
        have HE_11 := Lib.hid (vec_step HE_10.out hb)
        have HF11 := Lib.hid (vec_step HF10.out hb)
        have HP11 := Lib.hid (vec_step HP10.out hb)
        have HS11 := Lib.hid (vec_step HS10.out hb)
        have HQ11 := Lib.hid (vec_step HQ10.out hb)
        clear HR10 HA10 HBB10 HC10 HZ10 HB10 HE_10 HF10 HP10 HS10 HQ10 hb cHR3 cHR4 cHR5 cHQ0 cHQ1 cHQ2 CV1
        go_wp2_with fail
        refine (CV.out _).mono ?_
        rintro e y11 ⟨rfl, hb⟩
        have HR12 := Lib.hid (vec_step HR11.out hb)
        have HA12 := Lib.hid (vec_step HA11.out hb)
        have HBB12 := Lib.hid (vec_step HBB11.out hb)
        have HC12 := Lib.hid (vec_step HC11.out hb)
        have HZ12 := Lib.hid (vec_step HZ11.out hb)
        have HB12 := Lib.hid (HB11.out.trans (hb.mono HB11.out.size))
        have HE_12 := Lib.hid (vec_step HE_11.out hb)
        have HF12 := Lib.hid (vec_step HF11.out hb)
        have HP12 := Lib.hid (vec_step HP11.out hb)
        have HS12 := Lib.hid (vec_step HS11.out hb)
        have HQ12 := Lib.hid (vec_step HQ11.out hb)
        clear HR11 HA11 HBB11 HC11 HZ11 HB11 HE_11 HF11 HP11 HS11 HQ11 hb  CV
        by_cases hv0 : v < 0
        · have dv : decide (v < 0) = true := decide_eq_true hv0
          have hres : res = none := by rw [HE2.out, if_pos (.inl hv0)]
          subst hres
          go_wp2_with (with_reducible refine store_hit rfl (.tmp 8) (.tmp 68) rfl rfl (w.heap.size + 1 + 1 + 1 + 1) 0 0 0 0 rfl rfl _ HZ12.out rfl ?_)
          refine bodyPost_ret (results_row_tmp rfl _ _ _ (w.heap.size + 1 + 1 + 1 + 1) 38 _ _ _ rfl (setRow_heap _ _ _ _ _ _ HZ12.out) Try.underlying38 hit_size) rfl ?_
          exact ⟨rfl, below_setRow HB12.out (by omega) _⟩
        · have dv : decide (v < 0) = false := decide_eq_false hv0
          go_wp2_with fail
          refine (CA.out _).mono ?_
          rintro e y12 ⟨rfl, hb⟩
          have HR13 := Lib.hid (vec_step HR12.out hb)
          have HA13 := Lib.hid (vec_step HA12.out hb)
          have HBB13 := Lib.hid (vec_step HBB12.out hb)
          have HC13 := Lib.hid (vec_step HC12.out hb)
          have HZ13 := Lib.hid (vec_step HZ12.out hb)
          have HB13 := Lib.hid (HB12.out.trans (hb.mono HB12.out.size))
          have HE_13 := Lib.hid (vec_step HE_12.out hb)
          have HF13 := Lib.hid (vec_step HF12.out hb)
          have HP13 := Lib.hid (vec_step HP12.out hb)
          have HS13 := Lib.hid (vec_step HS12.out hb)
          have HQ13 := Lib.hid (vec_step HQ12.out hb)
          clear HR12 HA12 HBB12 HC12 HZ12 HB12 HE_12 HF12 HP12 HS12 HQ12 hb  CA
          by_cases hv1 : 4294967296 < sv
          · have dv2 : decide (4294967296 < sv) = true := decide_eq_true hv1
            have hres : res = none := by rw [HE2.out, if_pos (.inr hv1)]
            subst hres
            go_wp2_with (with_reducible refine store_hit rfl (.tmp 8) (.tmp 68) rfl rfl (w.heap.size + 1 + 1 + 1 + 1) 0 0 0 0 rfl rfl _ HZ13.out rfl ?_)
            refine bodyPost_ret (results_row_tmp rfl _ _ _ (w.heap.size + 1 + 1 + 1 + 1) 38 _ _ _ rfl (setRow_heap _ _ _ _ _ _ HZ13.out) Try.underlying38 hit_size) rfl ?_
            exact ⟨rfl, below_setRow HB13.out (by omega) _⟩
          · have dv2 : decide (4294967296 < sv) = false := decide_eq_false hv1
            have HE3 : Hid (res = if t < 0 then none else some ⟨t, 0, u, v⟩) := Lib.hid (by rw [HE2.out, if_neg (by unfold ONE; omega)])
            clear HE2
            have cHF0 := cell_row HF13.out 0 _ rfl
            have cHF1 := cell_row HF13.out 1 _ rfl
            have cHF2 := cell_row HF13.out 2 _ rfl
            have cHQ0 := cell_row HQ13.out 0 _ rfl
            have cHQ1 := cell_row HQ13.out 1 _ rfl
            have cHQ2 := cell_row HQ13.out 2 _ rfl
            go_wp2_with fail
            refine (CT1.out _).mono ?_
            rintro e y13 ⟨rfl, hb⟩
            have HR14 := Lib.hid (vec_step HR13.out hb)
            have HA14 := Lib.hid (vec_step HA13.out hb)
            have HBB14 := Lib.hid (vec_step HBB13.out hb)
            have HC14 := Lib.hid (vec_step HC13.out hb)
            have HZ14 := Lib.hid (vec_step HZ13.out hb)
            have HB14 := Lib.hid (HB13.out.trans (hb.mono HB13.out.size))
            have HE_14 := Lib.hid (vec_step HE_13.out hb)
            have HF14 := Lib.hid (vec_step HF13.out hb)
            have HP14 := Lib.hid (vec_step HP13.out hb)
            have HS14 := Lib.hid (vec_step HS13.out hb)
            have HQ14 := Lib.hid (vec_step HQ13.out hb)
            clear HR13 HA13 HBB13 HC13 HZ13 HB13 HE_13 HF13 HP13 HS13 HQ13 hb cHF0 cHF1 cHF2 cHQ0 cHQ1 cHQ2 CT1
            go_wp2_with fail
            refine (CT.out _).mono ?_
            rintro e y14 ⟨rfl, hb⟩
            have HR15 := Lib.hid (vec_step HR14.out hb)
            have HA15 := Lib.hid (vec_step HA14.out hb)
            have HBB15 := Lib.hid (vec_step HBB14.out hb)
            have HC15 := Lib.hid (vec_step HC14.out hb)
            have HZ15 := Lib.hid (vec_step HZ14.out hb)
            have HB15 := Lib.hid (HB14.out.trans (hb.mono HB14.out.size))
            have HE_15 := Lib.hid (vec_step HE_14.out hb)
            have HF15 := Lib.hid (vec_step HF14.out hb)
            have HP15 := Lib.hid (vec_step HP14.out hb)
            have HS15 := Lib.hid (vec_step HS14.out hb)
            have HQ15 := Lib.hid (vec_step HQ14.out hb)
            clear HR14 HA14 HBB14 HC14 HZ14 HB14 HE_14 HF14 HP14 HS14 HQ14 hb  CT
            by_cases ht0 : t < 0
            · have dt : decide (t < 0) = true := decide_eq_true ht0
              have hres : res = none := by rw [HE3.out, if_pos (ht0)]
              subst hres
              go_wp2_with (with_reducible refine store_hit rfl (.tmp 8) (.tmp 76) rfl rfl (w.heap.size + 1 + 1 + 1 + 1) 0 0 0 0 rfl rfl _ HZ15.out rfl ?_)
              refine bodyPost_ret (results_row_tmp rfl _ _ _ (w.heap.size + 1 + 1 + 1 + 1) 38 _ _ _ rfl (setRow_heap _ _ _ _ _ _ HZ15.out) Try.underlying38 hit_size) rfl ?_
              exact ⟨rfl, below_setRow HB15.out (by omega) _⟩
            · have dt : decide (t < 0) = false := decide_eq_false ht0
              have hres : res = some ⟨t, 0, u, v⟩ := by rw [HE3.out, if_neg ht0]
              subst hres
              go_wp2_with (with_reducible refine store_hit rfl (.tmp 8) (.tmp 80) rfl rfl (w.heap.size + 1 + 1 + 1 + 1) t 0 u v rfl rfl _ HZ15.out rfl ?_)
              refine bodyPost_ret (results_row_tmp rfl _ _ _ (w.heap.size + 1 + 1 + 1 + 1) 38 _ _ _ rfl (setRow_heap _ _ _ _ _ _ HZ15.out) Try.underlying38 hit_size) rfl ?_
              exact ⟨rfl, below_setRow HB15.out (by omega) _⟩

end Go.Proofs.Ytdaokkgenfpmhaa.HitT
