/- The walk of light.Pixel. -/
import Derived.Test.YtnfbeldiideonaaLightW
set_option linter.unusedVariables false
set_option linter.unusedSimpArgs false
namespace Go.Proofs.Ytnfbeldiideonaa.LightP
open Go.RowKit Go.Sort FixM Base Num FixW FixV FixU FixT FixS FixO FixN FixK FixP Qb Qt VecW VecV VecU LightM LightW

abbrev bytes4 (a : V3) (n : Int) : Array Value := #[.int .u8 (pixL a.x n), .int .u8 (pixL a.y n), .int .u8 (pixL a.z n), .int .u8 255]
theorem wrap8 (x n : Int) : IntKind.u8.wrap (pixL x n) = pixL x n := by
  have := pixL_in x n
  generalize pixL x n = p at *
  show (if IntKind.u8.signed && decide (p % 256 ≥ 128) then p % 256 - 256 else p % 256) = p
  simp [IntKind.signed]; omega
theorem b4_size : (Try.prog.info? 24).map (·.size) = some 4 := by kernel_rfl
theorem ones4 (a b c d : Int) : ∀ v ∈ (#[Value.int .u8 a, .int .u8 b, .int .u8 c, .int .u8 d] : Array Value).toList, v.oneCell' = true := by
  intro v hv; simp at hv; rcases hv with rfl | rfl | rfl | rfl <;> rfl
theorem store_b4 {ops : Array Oper} {rest : List Oper} {o : Oper} {a : Act} {w : World} {Q : Exit → Act → World → Prop} (hgd : o.guard = none) (x y : Operand) (ho : o.op = .store 24 x y) (hd : o.dst = none)
    (g : Nat) (A B C D : Int) (hx : a.eval x = .pointer (some ⟨g, 0, none⟩)) (hy : a.eval y = .agg #[.int .u8 A, .int .u8 B, .int .u8 C, .int .u8 D]) (p q r t : Value) (hg : w.heap[g]? = some (.cells #[p, q, r, t] 24))
    (h : wpList Try.prog ops Q rest a (w.setRow g #[.int .u8 A, .int .u8 B, .int .u8 C, .int .u8 D])) : wpList Try.prog ops Q (o :: rest) a w :=
  wpList_store_arr hgd 24 x y ho g _ hx hy 24 _ hg b4_size rfl (ones4 _ _ _ _) hd h
theorem ok_map1' {F : Int → Int} (h : ∀ x, In (F x)) (a : V3) : (map1 F a).ok := ⟨h _, h _, h _⟩
theorem in_clampL (x : Int) : In (clampL x) := by have := clampL_in x; unfold In; omega
theorem in_ofF (n : Int) : In (ofF n) := clamp_in _

set_option maxRecDepth 100000 in
set_option maxHeartbeats 2000000 in
theorem lpixel_any (a : V3) (n : Int) (ha : a.ok) (hn : In n) (w : World) : Calls Try.prog 5 #[vecV a, .int .i64 n] w (VTo (.agg (bytes4 a n)) w) := by
  obtain ⟨ax, ay, az⟩ := a
  have hmx : In (max n 1) := by unfold In at *; omega
  have C1 := Lib.hid (fun w => of_any (max n 1) hmx.1 hmx.2 w)
  have hc := in_ofF (max n 1)
  obtain ⟨c, hcc⟩ : ∃ c, c = ofF (max n 1) := ⟨_, rfl⟩
  rw [← hcc] at C1 hc
  obtain ⟨W, hW⟩ : ∃ W, W = ((w.alloc (box3 ⟨ax, ay, az⟩)).alloc (.cells #[.int .u8 0, .int .u8 0, .int .u8 0, .int .u8 0] 24)).alloc (.cells #[.int .i64 c] 2) := ⟨_, rfl⟩
  have h1 : W.heap[w.heap.size + 1]? = some (.cells #[.int .u8 0, .int .u8 0, .int .u8 0, .int .u8 0] 24) := by rw [hW]; exact alloc3_1 _ _ _ _
  have h2 : W.heap[w.heap.size + 1 + 1]? = some (.cells #[.int .i64 c] 2) := by rw [hW]; exact alloc3_2 _ _ _ _
  have hBW : Below w.heap.size w W := by rw [hW]; exact alloc3_below _ _ _ _
  have hcell : W.cell? ⟨w.heap.size + 1 + 1, 0, none⟩ = some (.int .i64 c) := by rw [cell_of_row W _ 0 _ _ _ h2]; rfl
  have hlt := lt_of_heap h2
  have hmf : ∀ (fn : Fn) (first cap : Array Value) (w : World), (Instr.makeFunc fn first cap).run Try.prog w = .ok (.func fn first cap) w := fun _ _ _ _ => rfl
  have C2 := Lib.hid (leach_any 18 #[.pointer (some ⟨w.heap.size + 1 + 1, 0, none⟩)] (fun x => divF x c) _ ha W (enters Try.func18 (by kernel_rfl) rfl)
    (fun x w' hx hb => pix1_any x c hx hc (w.heap.size + 1 + 1) w' ((hb.cell (p := ⟨w.heap.size + 1 + 1, 0, none⟩) hlt).trans hcell)))
  have C3 := Lib.hid (fun w => lclamp_any ⟨divF ax c, divF ay c, divF az c⟩ ⟨in_div _ _, in_div _ _, in_div _ _⟩ w)
  have C4 := Lib.hid (fun w => leach_any 20 #[] byteL ⟨clampL (divF ax c), clampL (divF ay c), clampL (divF az c)⟩ ⟨in_clampL _, in_clampL _, in_clampL _⟩ w (enters Try.func20 (by kernel_rfl) rfl)
    (fun x w' hx _ => by simp only [Array.append_empty]; exact pix2_any x hx w'))
  have wx := wrap8 ax n
  have wy := wrap8 ay n
  have wz := wrap8 az n
  have hbb : bytes4 ⟨ax, ay, az⟩ n = #[.int .u8 (byteL (clampL (divF ax c))), .int .u8 (byteL (clampL (divF ay c))), .int .u8 (byteL (clampL (divF az c))), .int .u8 255] := by rw [hcc]; rfl
  unfold pixL at wx wy wz
  rw [← hcc] at wx wy wz
  have HBB := Lib.hid hbb
  have H1 := Lib.hid h1
  have BW := Lib.hid hBW
  have HWW := Lib.hid hW
  clear hcc hmx hn hW h1 h2 hBW hcell hlt hbb ha hc
  go_enter Try.func5, Try.ntmps5
  go_wp2_with fail
  refine (C1.out _).mono ?_
  rintro e w1 ⟨rfl, rfl⟩
  go_wp2_with fail
  rw [← HWW.out]
  refine C2.out.mono ?_
  rintro e w1 ⟨rfl, hb1⟩
  have HR1 := Lib.hid ((hb1.block _ (lt_of_heap H1.out)).trans H1.out)
  have HB1 := Lib.hid (BW.out.trans (hb1.mono BW.out.size))
  clear hb1
  obtain ⟨W2, hW2⟩ : ∃ W2, W2 = (w1.alloc (box3 ⟨0, 0, 0⟩)).setRow w1.heap.size #[.int .i64 (divF ax c), .int .i64 (divF ay c), .int .i64 (divF az c)] := ⟨_, rfl⟩
  have hr2 := setRow_heap (w1.alloc (box3 ⟨0, 0, 0⟩)) w1.heap.size _ #[.int .i64 (divF ax c), .int .i64 (divF ay c), .int .i64 (divF az c)] _ _ (heap_alloc_new _ _)
  have hx2 := below_setRow (HB1.out.alloc HB1.out.size (box3 ⟨0, 0, 0⟩)) HB1.out.size #[.int .i64 (divF ax c), .int .i64 (divF ay c), .int .i64 (divF az c)]
  have hk2 : W2.heap[w.heap.size + 1]? = w1.heap[w.heap.size + 1]? := by rw [hW2]; exact (below_setRow (ext_alloc w1 (box3 ⟨0, 0, 0⟩)) (Nat.le_refl _) _).block _ (lt_of_heap HR1.out)
  rw [← hW2] at hr2 hx2
  have HR2 := Lib.hid hr2
  have HX2 := Lib.hid hx2
  have HK2 := Lib.hid (hk2.trans HR1.out)
  have HW2 := Lib.hid hW2
  have c0 := (cell_of_row W2 w1.heap.size 0 _ _ _ hr2)
  have c1 := (cell_of_row W2 w1.heap.size 1 _ _ _ hr2)
  have c2 := (cell_of_row W2 w1.heap.size 2 _ _ _ hr2)
  simp only [List.getElem?_toArray, List.getElem?_cons_succ, List.getElem?_cons_zero] at c0 c1 c2
  clear hr2 hx2 hk2 hW2
  go_upto_region 3 with (with_reducible refine store_vec rfl (.tmp 6) (.tmp 13) rfl rfl w1.heap.size (divF ax c) (divF ay c) (divF az c) rfl rfl _ _ _ (heap_alloc_new _ _) ?_)
  rw [← HW2.out]
  go_wp2_with fail
  refine (C3.out _).mono ?_
  rintro e w3 ⟨rfl, hb3⟩
  have HR3 := Lib.hid ((hb3.block _ (lt_of_heap HK2.out)).trans HK2.out)
  have HB3 := Lib.hid (HX2.out.trans (hb3.mono HX2.out.size))
  clear hb3
  go_wp2_with fail
  refine (C4.out _).mono ?_
  rintro e w4 ⟨rfl, hb4⟩
  have HR4 := Lib.hid ((hb4.block _ (lt_of_heap HR3.out)).trans HR3.out)
  have HB4 := Lib.hid (HB3.out.trans (hb4.mono HB3.out.size))
  clear hb4
  obtain ⟨W5, hW5⟩ : ∃ W5, W5 = (w4.alloc (box3 ⟨0, 0, 0⟩)).setRow w4.heap.size #[.int .i64 (byteL (clampL (divF ax c))), .int .i64 (byteL (clampL (divF ay c))), .int .i64 (byteL (clampL (divF az c)))] := ⟨_, rfl⟩
  have hr5 := setRow_heap (w4.alloc (box3 ⟨0, 0, 0⟩)) w4.heap.size _ #[.int .i64 (byteL (clampL (divF ax c))), .int .i64 (byteL (clampL (divF ay c))), .int .i64 (byteL (clampL (divF az c)))] _ _ (heap_alloc_new _ _)
  have hx5 := below_setRow (HB4.out.alloc HB4.out.size (box3 ⟨0, 0, 0⟩)) HB4.out.size #[.int .i64 (byteL (clampL (divF ax c))), .int .i64 (byteL (clampL (divF ay c))), .int .i64 (byteL (clampL (divF az c)))]
  have hk5 : W5.heap[w.heap.size + 1]? = w4.heap[w.heap.size + 1]? := by rw [hW5]; exact (below_setRow (ext_alloc w4 (box3 ⟨0, 0, 0⟩)) (Nat.le_refl _) _).block _ (lt_of_heap HR4.out)
  rw [← hW5] at hr5 hx5
  have HX5 := Lib.hid hx5
  have HK5 := Lib.hid (hk5.trans HR4.out)
  have HW5 := Lib.hid hW5
  have e0 := (cell_of_row W5 w4.heap.size 0 _ _ _ hr5)
  have e1 := (cell_of_row W5 w4.heap.size 1 _ _ _ hr5)
  have e2 := (cell_of_row W5 w4.heap.size 2 _ _ _ hr5)
  simp only [List.getElem?_toArray, List.getElem?_cons_succ, List.getElem?_cons_zero] at e0 e1 e2
  clear hr5 hx5 hk5 hW5 c0 c1 c2
  go_upto_region 4 with (with_reducible refine store_vec rfl (.tmp 7) (.tmp 16) rfl rfl w4.heap.size (byteL (clampL (divF ax c))) (byteL (clampL (divF ay c))) (byteL (clampL (divF az c))) rfl rfl _ _ _ (heap_alloc_new _ _) ?_)
  rw [← HW5.out]
  have s4 : (Try.prog.info? 24).map (·.size) = some 4 := by kernel_rfl
  have H3 := Lib.hid (setRow_heap W5 (w.heap.size + 1) _ #[.int .u8 (byteL (clampL (divF ax c))), .int .u8 (byteL (clampL (divF ay c))), .int .u8 (byteL (clampL (divF az c))), .int .u8 255] _ _ HK5.out)
  have HB6 := Lib.hid (below_setRow HX5.out (show w.heap.size ≤ w.heap.size + 1 by omega) #[.int .u8 (byteL (clampL (divF ax c))), .int .u8 (byteL (clampL (divF ay c))), .int .u8 (byteL (clampL (divF az c))), .int .u8 255])
  go_wp2_with (with_reducible refine store_b4 rfl (.tmp 4) (.tmp 26) rfl rfl (w.heap.size + 1) (byteL (clampL (divF ax c))) (byteL (clampL (divF ay c))) (byteL (clampL (divF az c))) 255 rfl rfl _ _ _ _ HK5.out ?_)
  generalize W5.setRow (w.heap.size + 1) #[.int .u8 (byteL (clampL (divF ax c))), .int .u8 (byteL (clampL (divF ay c))), .int .u8 (byteL (clampL (divF az c))), .int .u8 255] = w6 at *
  refine bodyPost_ret (results_cell_row rfl _ _ (w.heap.size + 1) 24 _ _ _ rfl H3.out Try.underlying24 rfl s4) rfl ?_
  exact ⟨by rw [HBB.out], HB6.out⟩
end Go.Proofs.Ytnfbeldiideonaa.LightP
