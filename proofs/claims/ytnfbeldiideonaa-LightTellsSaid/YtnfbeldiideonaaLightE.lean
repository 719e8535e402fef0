/- Layer 21's awake. -/
import Derived.Test.YtnfbeldiideonaaLightD
import Derived.Test.YtnfbeldiideonaaLightB
import Derived.Test.YtnfbeldiideonaaArrF
set_option linter.unusedVariables false
set_option linter.unusedSimpArgs false
namespace Go.Proofs.Ytnfbeldiideonaa.LightE
open Go.RowKit Go.Sort FixM Base Num FixW FixV FixU FixT FixS FixO FixN FixK FixP Qb Qt VecW VecV VecU LightM LightW LightQ LightK Qa LightC LightP LightD LightB ArrF

instance (a : Int) : Decidable (In a) := by unfold In; infer_instance
instance (a : V3) : Decidable a.ok := by unfold V3.ok; infer_instance
theorem scn_size : (Try.prog.info? 34).map (·.size) = some 21 := by kernel_rfl
theorem store_scn {ops : Array Oper} {rest : List Oper} {o : Oper} {a : Act} {w : World} {Q : Exit → Act → World → Prop} (hgd : o.guard = none) (x y : Operand) (ho : o.op = .store 34 x y) (hd : o.dst = none)
    (g : Nat) (cs cur : Array Value) (hx : a.eval x = .pointer (some ⟨g, 0, none⟩)) (hy : a.eval y = .agg cs) (hg : w.heap[g]? = some (.cells cur 34)) (hc : cs.size = 21) (hc2 : cur.size = 21) (h1 : ∀ v ∈ cs.toList, v.oneCell' = true)
    (h : wpList Try.prog ops Q rest a (w.setRow g cs)) : wpList Try.prog ops Q (o :: rest) a w :=
  wpList_store_arr hgd 34 x y ho g cs hx hy 34 cur hg (by rw [hc]; exact scn_size) (by rw [hc, hc2]) h1 hd h
theorem load_scn {ops : Array Oper} {rest : List Oper} {o : Oper} {a : Act} {w : World} {Q : Exit → Act → World → Prop} (hgd : o.guard = none) (x : Operand) (ho : o.op = .load 34 x)
    (g : Nat) (cs : Array Value) (hx : a.eval x = .pointer (some ⟨g, 0, none⟩)) (hg : w.heap[g]? = some (.cells cs 34)) (hc : cs.size = 21)
    (h : wpList Try.prog ops Q rest (a.put o.dst (.agg cs)) w) : wpList Try.prog ops Q (o :: rest) a w :=
  wpList_load_row hgd 34 x ho g hx 34 cs (0, 0) _ hg Try.underlying34 rfl (by rw [hc]; exact scn_size) h
theorem store_ray {ops : Array Oper} {rest : List Oper} {o : Oper} {a : Act} {w : World} {Q : Exit → Act → World → Prop} (hgd : o.guard = none) (x y : Operand) (ho : o.op = .store 41 x y) (hd : o.dst = none)
    (g : Nat) (A B C D E F : Int) (hx : a.eval x = .pointer (some ⟨g, 0, none⟩)) (hy : a.eval y = .agg #[.int .i64 A, .int .i64 B, .int .i64 C, .int .i64 D, .int .i64 E, .int .i64 F]) (cur : Array Value) (hg : w.heap[g]? = some (.cells cur 41)) (hc2 : cur.size = 6)
    (h : wpList Try.prog ops Q rest a (w.setRow g #[.int .i64 A, .int .i64 B, .int .i64 C, .int .i64 D, .int .i64 E, .int .i64 F])) : wpList Try.prog ops Q (o :: rest) a w :=
  wpList_store_arr hgd 41 x y ho g _ hx hy 41 cur hg ray_size (by rw [hc2]; rfl) (ones6 _ _ _ _ _ _) hd h
theorem load_ray {ops : Array Oper} {rest : List Oper} {o : Oper} {a : Act} {w : World} {Q : Exit → Act → World → Prop} (hgd : o.guard = none) (x : Operand) (ho : o.op = .load 41 x)
    (g : Nat) (cs : Array Value) (hx : a.eval x = .pointer (some ⟨g, 0, none⟩)) (hg : w.heap[g]? = some (.cells cs 41)) (hc : cs.size = 6)
    (h : wpList Try.prog ops Q rest (a.put o.dst (.agg cs)) w) : wpList Try.prog ops Q (o :: rest) a w :=
  wpList_load_row hgd 41 x ho g hx 41 cs (0, 0) _ hg Try.underlying41 rfl (by rw [hc]; exact ray_size) h
abbrev scn0 : Scn := ⟨1, 1, .int .i64 0, .int .i64 0, .int .u64 0, ⟨0, 0, -17179869184⟩, ⟨0, 0, 0⟩, ⟨0, 4294967296, 0⟩, 4294967296, #[.int .i64 0, .int .i64 0, .int .i64 0, .slice none 0 0, .slice none 0 0, .slice none 0 0]⟩
abbrev row0 : Array Value := #[.int .i64 1, .int .i64 1, .int .i64 0, .int .i64 0, .int .u64 0, .int .i64 0, .int .i64 0, .int .i64 (-17179869184), .int .i64 0, .int .i64 0, .int .i64 0, .int .i64 0, .int .i64 4294967296, .int .i64 0, .int .i64 4294967296, .int .i64 0, .int .i64 0, .int .i64 0, .slice none 0 0, .slice none 0 0, .slice none 0 0]
theorem ones_row0 : ∀ v ∈ row0.toList, v.oneCell' = true := fun v hv => List.all_eq_true.1 (show row0.toList.all (fun v => v.oneCell') = true by decide) v hv
theorem v3_eq {p : V3} {a b c : Int} (h : p.x = a ∧ p.y = b ∧ p.z = c) : p = ⟨a, b, c⟩ := by
  obtain ⟨x, y, z⟩ := p; obtain ⟨rfl, rfl, rfl⟩ := h; rfl
theorem scn0_ok : scn0.ok := ⟨by decide, by decide, by decide, by decide, by decide, by decide⟩
theorem cam0 (w : World) : Calls Try.prog 8 #[.agg row0, .int .i64 0, .int .i64 0, .int .i64 2147483648, .int .i64 2147483648] w (VTo (.agg #[.int .i64 0, .int .i64 0, .int .i64 (-17179869184), .int .i64 0, .int .i64 0, .int .i64 4294967296]) w) := by
  have h := camera_any scn0 scn0_ok 0 0 2147483648 2147483648 (by decide) (by decide) (by decide) (by decide) w
  have e : cameraF 1 1 ⟨0, 0, -17179869184⟩ ⟨0, 0, 0⟩ ⟨0, 4294967296, 0⟩ 4294967296 0 0 2147483648 2147483648 = ⟨0, 0, 4294967296⟩ := v3_eq (by decide +kernel)
  rw [show cameraF scn0.w scn0.h scn0.eye scn0.at' scn0.up scn0.wide 0 0 2147483648 2147483648 = ⟨0, 0, 4294967296⟩ from e] at h
  exact h
theorem litB {a : V3} {n : Int} (x y z : Int) (h : pixL a.x n = x ∧ pixL a.y n = y ∧ pixL a.z n = z) (ha : a.ok) (hn : In n) (w : World) : Calls Try.prog 5 #[vecV a, .int .i64 n] w (VTo (.agg #[.int .u8 x, .int .u8 y, .int .u8 z, .int .u8 255]) w) := by
  have := lpixel_any a n ha hn w
  unfold bytes4 at this
  rw [h.1, h.2.1, h.2.2] at this
  exact this
theorem litV {f : FuncId} {args : Array Value} {p : V3} (h : ∀ w, Calls Try.prog f args w (VTo (vecV p) w)) (a b c : Int) (e : p.x = a ∧ p.y = b ∧ p.z = c) (w : World) : Calls Try.prog f args w (VTo (.agg #[.int .i64 a, .int .i64 b, .int .i64 c]) w) := by
  obtain ⟨rfl, rfl, rfl⟩ := e; exact h w

set_option maxRecDepth 100000 in
set_option maxHeartbeats 4000000 in
theorem awake_any (w : World) : Calls Try.prog 7 #[] w (VTo (.bool true) w) := by
  have C1 := Lib.hid cam0
  have C2 := Lib.hid (fun w => litB (a := ⟨4294967296, 2147483648, -4294967296⟩) (n := 1) 255 128 0 (by decide +kernel) (by decide) (by decide) w)
  have C3 := Lib.hid (fun w => litB (a := ⟨12884901888, 12884901888, 12884901888⟩) (n := 2) 255 255 255 (by decide +kernel) (by decide) (by decide) w)
  have C4 := Lib.hid (litV (mirror_any ⟨4294967296, -4294967296, 0⟩ ⟨0, 4294967296, 0⟩ 0 0 (by decide) (by decide)) 4294967296 4294967296 0 (by decide +kernel))
  have EQ := eq4
  go_enter Try.func7, Try.ntmps7
  go_upto_region 2 with (with_reducible refine store_scn rfl (.tmp 1) (.tmp 5) rfl rfl w.heap.size row0 _ rfl rfl (heap_alloc_new _ _) rfl rfl ones_row0 ?_)
  obtain ⟨W1, hW1⟩ : ∃ W, W = (w.alloc (.cells #[.int .i64 0, .int .i64 0, .int .i64 0, .int .i64 0, .int .u64 0, .int .i64 0, .int .i64 0, .int .i64 0, .int .i64 0, .int .i64 0, .int .i64 0, .int .i64 0, .int .i64 0, .int .i64 0, .int .i64 0, .int .i64 0, .int .i64 0, .int .i64 0, .slice none 0 0, .slice none 0 0, .slice none 0 0] 34)).setRow w.heap.size row0 := ⟨_, rfl⟩
  have S1 := Lib.hid (show W1.heap[w.heap.size]? = some (.cells row0 34) by rw [hW1]; exact setRow_heap _ _ _ _ _ _ (heap_alloc_new _ _))
  have B1 := Lib.hid (show Below w.heap.size w W1 by rw [hW1]; exact below_setRow (ext_alloc _ _) (Nat.le_refl _) _)
  rw [← hW1]
  clear hW1
  go_wp2_with (with_reducible refine load_scn rfl (.tmp 1) rfl w.heap.size row0 rfl S1.out rfl ?_)
  refine (C1.out _).mono ?_
  rintro e W2 ⟨rfl, hb⟩
  have S2 := Lib.hid (vec_step S1.out hb)
  have B2 := Lib.hid (B1.out.trans (hb.mono B1.out.size))
  clear S1 B1 hb W1 C1
  obtain ⟨W3, hW3⟩ : ∃ W, W = (W2.alloc (.cells zero6 41)).setRow W2.heap.size #[.int .i64 0, .int .i64 0, .int .i64 (-17179869184), .int .i64 0, .int .i64 0, .int .i64 4294967296] := ⟨_, rfl⟩
  have R3 := Lib.hid (show W3.heap[W2.heap.size]? = some (.cells #[.int .i64 0, .int .i64 0, .int .i64 (-17179869184), .int .i64 0, .int .i64 0, .int .i64 4294967296] 41) by rw [hW3]; exact setRow_heap _ _ _ _ _ _ (heap_alloc_new _ _))
  have hx3 : Below W2.heap.size W2 W3 := by rw [hW3]; exact below_setRow (ext_alloc _ _) (Nat.le_refl _) _
  have S3 := Lib.hid (vec_step S2.out hx3)
  have B3 := Lib.hid (B2.out.trans (hx3.mono B2.out.size))
  go_upto_region 3 with (with_reducible refine store_ray rfl (.tmp 2) (.tmp 7) rfl rfl W2.heap.size 0 0 (-17179869184) 0 0 4294967296 rfl rfl _ (heap_alloc_new _ _) rfl ?_)
  rw [← hW3]
  clear hW3 hx3 S2 B2
  generalize W2.heap.size = g2 at *
  clear W2
  go_wp2_with fail
  refine (C2.out _).mono ?_
  rintro e W4 ⟨rfl, hb⟩
  have S4 := Lib.hid (vec_step S3.out hb)
  have R4 := Lib.hid (vec_step R3.out hb)
  have B4 := Lib.hid (B3.out.trans (hb.mono B3.out.size))
  clear S3 R3 B3 hb W3 C2
  go_wp2_with fail
  refine (C3.out _).mono ?_
  rintro e W5 ⟨rfl, hb⟩
  have S5 := Lib.hid (vec_step S4.out hb)
  have R5 := Lib.hid (vec_step R4.out hb)
  have B5 := Lib.hid (B4.out.trans (hb.mono B4.out.size))
  clear S4 R4 B4 hb W4 C3
  have c5 := cell_row S5.out 5 _ rfl
  have c6 := cell_row S5.out 6 _ rfl
  have c7 := cell_row S5.out 7 _ rfl
  have r0 := cell_row R5.out 0 _ rfl
  have r1 := cell_row R5.out 1 _ rfl
  have r2 := cell_row R5.out 2 _ rfl
  have r3 := cell_row R5.out 3 _ rfl
  have r4 := cell_row R5.out 4 _ rfl
  have r5 := cell_row R5.out 5 _ rfl
  go_wp2_with fail
  refine (C4.out _).mono ?_
  rintro e W6 ⟨rfl, hb⟩
  have B6 := Lib.hid (B5.out.trans (hb.mono B5.out.size))
  clear S5 R5 B5 hb c5 c6 c7 C4 r0 r1 r2 r3 r4 r5
  go_wp2_with fail
  go_ret
  exact ⟨rfl, B6.out⟩
end Go.Proofs.Ytnfbeldiideonaa.LightE
