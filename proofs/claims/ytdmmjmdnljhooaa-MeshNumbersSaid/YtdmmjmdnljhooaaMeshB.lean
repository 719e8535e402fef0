/- The walks of mesh.Check's own functions. -/
import Derived.Test.YtdmmjmdnljhooaaMeshA
set_option linter.unusedVariables false
set_option linter.unusedSimpArgs false
namespace Go.Proofs.Ytdmmjmdnljhooaa.MeshB
open Go.RowKit Go.Sort FixM Base Num Qb Qt VecW VecV VecU LightQ LightC MeshM Rec MeshA

theorem idx3_0 (x y z : Int) (w : World) : (Instr.index 31 (.agg #[.int .i64 x, .int .i64 y, .int .i64 z]) (.int .i64 0)).run Try.prog w = .ok (.int .i64 x) w := by kernel_rfl
theorem idx3_1 (x y z : Int) (w : World) : (Instr.index 31 (.agg #[.int .i64 x, .int .i64 y, .int .i64 z]) (.int .i64 1)).run Try.prog w = .ok (.int .i64 y) w := by kernel_rfl
theorem idx3_2 (x y z : Int) (w : World) : (Instr.index 31 (.agg #[.int .i64 x, .int .i64 y, .int .i64 z]) (.int .i64 2)).run Try.prog w = .ok (.int .i64 z) w := by kernel_rfl
set_option maxRecDepth 100000 in
set_option maxHeartbeats 1000000 in
theorem has_any (n : Nat) (hn : n ≤ 9223372036854775807) (t : V3) (w : World) : Calls Try.prog 30 #[.int .i64 (n : Int), vecV t] w (VTo (.bool (hasF n t)) w) := by
  obtain ⟨x, y, z⟩ := t
  unfold hasF
  obtain ⟨a, ha⟩ : ∃ a, a = placeI n x := ⟨_, rfl⟩
  obtain ⟨b, hb⟩ : ∃ a, a = placeI n y := ⟨_, rfl⟩
  obtain ⟨c, hc⟩ : ∃ a, a = placeI n z := ⟨_, rfl⟩
  rw [← ha, ← hb, ← hc]
  unfold placeI at ha hb hc
  have HA := Lib.hid ha
  have HBB := Lib.hid hb
  have HC := Lib.hid hc
  clear ha hb hc
  have HB := Lib.hid (ext_alloc w (.cells #[.int .i64 x, .int .i64 y, .int .i64 z] 31))
  have I0 := fun (w : World) => idx3_0 x y z w
  have I1 := fun (w : World) => idx3_1 x y z w
  have I2 := fun (w : World) => idx3_2 x y z w
  go_enter Try.func30, Try.ntmps30
  go_wp2_with fail
  generalize w.alloc (.cells #[.int .i64 x, .int .i64 y, .int .i64 z] 31) = W at *
  go_loopg [8] 3 (fun r n8 wr => ∃ i : Int, 0 ≤ i ∧ i + (r : Int) = 3 ∧ n8 = .int .i64 i ∧ W = wr ∧ Hid ((0 < i → a = true) ∧ (1 < i → b = true) ∧ (2 < i → c = true)))
  case atStart => exact ⟨0, by omega, by omega, rfl, rfl, Lib.hid ⟨by omega, by omega, by omega⟩⟩
  case round =>
    obtain ⟨i, hi0, hir, rfl, rfl, hin⟩ := hrel
    rcases (show i = 0 ∨ i = 1 ∨ i = 2 ∨ i = 3 by omega) with rfl | rfl | rfl | rfl
    · by_cases h1 : x < 0
      · have d1 : decide (x < 0) = true := decide_eq_true h1
        have hh : a = false := by rw [HA.out, decide_eq_false (by omega)]; rfl
        have HH := Lib.hid hh
        clear h1 hh
        go_wp2_with fail
        go_ret
        refine ⟨?_, HB.out⟩
        have hh := HH.out
        rw [hh]; first | rfl | (cases a <;> rfl) | (cases a <;> cases b <;> rfl)
      · have d1 : decide (x < 0) = false := decide_eq_false h1
        by_cases h2 : (n : Int) ≤ x
        · have d2 : decide ((n : Int) ≤ x) = true := decide_eq_true h2
          have hh : a = false := by rw [HA.out, decide_eq_false (show ¬ x < (n : Int) by omega)]; cases decide (0 ≤ x) <;> rfl
          have HH := Lib.hid hh
          clear h1 hh h2
          go_wp2_with fail
          go_ret
          refine ⟨?_, HB.out⟩
          have hh := HH.out
          rw [hh]; first | rfl | (cases a <;> rfl) | (cases a <;> cases b <;> rfl)
        · have d2 : decide ((n : Int) ≤ x) = false := decide_eq_false h2
          have hh : a = true := by rw [HA.out, decide_eq_true (show x < (n : Int) by omega), decide_eq_true (show 0 ≤ x by omega)]; rfl
          have HH := Lib.hid hh
          clear h1 hh h2
          go_wp2_with fail
          go_roundg 2
          case measure => omega
          case rel =>
            have hh := HH.out
            have h0 := hin.out
            exact ⟨1, by omega, by omega, rfl, rfl, Lib.hid ⟨fun _ => hh, by omega, by omega⟩⟩
    · by_cases h1 : y < 0
      · have d1 : decide (y < 0) = true := decide_eq_true h1
        have hh : b = false := by rw [HBB.out, decide_eq_false (by omega)]; rfl
        have HH := Lib.hid hh
        clear h1 hh
        go_wp2_with fail
        go_ret
        refine ⟨?_, HB.out⟩
        have hh := HH.out
        rw [hh]; first | rfl | (cases a <;> rfl) | (cases a <;> cases b <;> rfl)
      · have d1 : decide (y < 0) = false := decide_eq_false h1
        by_cases h2 : (n : Int) ≤ y
        · have d2 : decide ((n : Int) ≤ y) = true := decide_eq_true h2
          have hh : b = false := by rw [HBB.out, decide_eq_false (show ¬ y < (n : Int) by omega)]; cases decide (0 ≤ y) <;> rfl
          have HH := Lib.hid hh
          clear h1 hh h2
          go_wp2_with fail
          go_ret
          refine ⟨?_, HB.out⟩
          have hh := HH.out
          rw [hh]; first | rfl | (cases a <;> rfl) | (cases a <;> cases b <;> rfl)
        · have d2 : decide ((n : Int) ≤ y) = false := decide_eq_false h2
          have hh : b = true := by rw [HBB.out, decide_eq_true (show y < (n : Int) by omega), decide_eq_true (show 0 ≤ y by omega)]; rfl
          have HH := Lib.hid hh
          clear h1 hh h2
          go_wp2_with fail
          go_roundg 1
          case measure => omega
          case rel =>
            have hh := HH.out
            have h0 := hin.out
            exact ⟨2, by omega, by omega, rfl, rfl, Lib.hid ⟨fun _ => h0.1 (by omega), fun _ => hh, by omega⟩⟩
    · by_cases h1 : z < 0
      · have d1 : decide (z < 0) = true := decide_eq_true h1
        have hh : c = false := by rw [HC.out, decide_eq_false (by omega)]; rfl
        have HH := Lib.hid hh
        clear h1 hh
        go_wp2_with fail
        go_ret
        refine ⟨?_, HB.out⟩
        have hh := HH.out
        rw [hh]; first | rfl | (cases a <;> rfl) | (cases a <;> cases b <;> rfl)
      · have d1 : decide (z < 0) = false := decide_eq_false h1
        by_cases h2 : (n : Int) ≤ z
        · have d2 : decide ((n : Int) ≤ z) = true := decide_eq_true h2
          have hh : c = false := by rw [HC.out, decide_eq_false (show ¬ z < (n : Int) by omega)]; cases decide (0 ≤ z) <;> rfl
          have HH := Lib.hid hh
          clear h1 hh h2
          go_wp2_with fail
          go_ret
          refine ⟨?_, HB.out⟩
          have hh := HH.out
          rw [hh]; first | rfl | (cases a <;> rfl) | (cases a <;> cases b <;> rfl)
        · have d2 : decide ((n : Int) ≤ z) = false := decide_eq_false h2
          have hh : c = true := by rw [HC.out, decide_eq_true (show z < (n : Int) by omega), decide_eq_true (show 0 ≤ z by omega)]; rfl
          have HH := Lib.hid hh
          clear h1 hh h2
          go_wp2_with fail
          go_roundg 0
          case measure => omega
          case rel =>
            have hh := HH.out
            have h0 := hin.out
            exact ⟨3, by omega, by omega, rfl, rfl, Lib.hid ⟨fun _ => h0.1 (by omega), fun _ => h0.2.1 (by omega), fun _ => hh⟩⟩
    · go_wp2_with fail
      go_ret
      have h0 := hin.out
      exact ⟨by rw [h0.1 (by omega), h0.2.1 (by omega), h0.2.2 (by omega)]; rfl, HB.out⟩

set_option maxRecDepth 100000 in
set_option maxHeartbeats 1000000 in
theorem ball_any (b : B4) (w : World) : Calls Try.prog 32 #[.agg #[.int .i64 b.c.x, .int .i64 b.c.y, .int .i64 b.c.z, .int .i64 b.r]] w (VTo (.bool (ballF b)) w) := by
  obtain ⟨⟨x, y, z⟩, r⟩ := b
  have C := Lib.hid (near_any ⟨x, y, z⟩)
  unfold ballF
  obtain ⟨a, ha⟩ : ∃ a, a = nearV ⟨x, y, z⟩ := ⟨_, rfl⟩
  dsimp only
  rw [← ha] at C ⊢
  clear ha
  have HB := Lib.hid (ext_alloc w (.cells #[.int .i64 x, .int .i64 y, .int .i64 z, .int .i64 r] 26))
  have H0 := heap_alloc_new w (.cells #[.int .i64 x, .int .i64 y, .int .i64 z, .int .i64 r] 26)
  obtain ⟨W, hW⟩ : ∃ W, W = w.alloc (.cells #[.int .i64 x, .int .i64 y, .int .i64 z, .int .i64 r] 26) := ⟨_, rfl⟩
  rw [← hW] at HB H0
  have HH := Lib.hid H0
  have HWW := Lib.hid hW
  clear H0 hW
  go_enter Try.func32, Try.ntmps32
  go_wp2_with fail
  rw [← HWW.out]
  refine (C.out _).mono ?_
  rintro e w1 ⟨rfl, hb1⟩
  have H1 := Lib.hid ((hb1.block _ (lt_of_heap HH.out)).trans HH.out)
  have HB1 := Lib.hid (HB.out.trans (hb1.mono HB.out.size))
  clear hb1 HB HH HWW
  have c3 := cell_row H1.out 3 (.int .i64 r) rfl
  cases a
  · go_wp2_with fail
    go_ret
    exact ⟨rfl, HB1.out⟩
  · by_cases h1 : 1 ≤ r
    · have d1 : decide (1 ≤ r) = true := decide_eq_true h1
      obtain ⟨q, hq⟩ : ∃ q, q = decide (r ≤ 4503599627370496) := ⟨_, rfl⟩
      have d2 := hq.symm
      clear h1 hq
      go_wp2_with fail
      go_ret
      exact ⟨by rw [d1, d2]; cases q <;> rfl, HB1.out⟩
    · have d1 : decide (1 ≤ r) = false := decide_eq_false h1
      clear h1
      go_wp2_with fail
      go_ret
      exact ⟨by rw [d1]; rfl, HB1.out⟩
/-- the closure of the triangles: g holds the mesh -/
theorem tri_any (t : V3) (g n : Nat) (a : Option Addr) (c : Nat) (v1 v2 : Value) (hn : n ≤ 9223372036854775807) (w : World) (hg : w.heap[g]? = some (.cells #[.slice a n c, v1, v2] 30)) :
    Calls Try.prog 29 #[vecV t, .pointer (some ⟨g, 0, none⟩)] w (VTo (.bool (hasF n t)) w) := by
  have C := Lib.hid (has_any n hn t)
  obtain ⟨q, hq⟩ : ∃ q, q = hasF n t := ⟨_, rfl⟩
  rw [← hq] at C ⊢
  clear hq
  obtain ⟨x, y, z⟩ := t
  have HB := Lib.hid (ext_alloc w (.cells #[.int .i64 x, .int .i64 y, .int .i64 z] 31))
  have hg2 : (w.alloc (.cells #[.int .i64 x, .int .i64 y, .int .i64 z] 31)).heap[g]? = some (.cells #[.slice a n c, v1, v2] 30) := (heap_alloc_old _ _ (lt_of_heap hg)).trans hg
  have c0 := cell_row hg2 0 (.slice a n c) rfl
  clear hg hg2
  go_enter Try.func29, Try.ntmps29
  go_wp2_with fail
  refine (C.out _).mono ?_
  rintro e w1 ⟨rfl, hb1⟩
  have HB1 := Lib.hid (HB.out.trans (hb1.mono HB.out.size))
  clear hb1 c0
  go_wp2_with fail
  go_ret
  exact ⟨rfl, HB1.out⟩

theorem size_recV : (Try.prog.info? 23).map (·.size) = some 3 := by kernel_rfl
theorem store_recV {ops : Array Oper} {rest : List Oper} {o : Oper} {a : Act} {w : World} {Q : Exit → Act → World → Prop} (hgd : o.guard = none) (x y : Operand) (ho : o.op = .store 23 x y) (hd : o.dst = none)
    (g : Nat) (x1 x2 x3 : Int) (hx : a.eval x = .pointer (some ⟨g, 0, none⟩)) (hy : a.eval y = .agg #[.int .i64 x1, .int .i64 x2, .int .i64 x3]) (cur : Array Value) (hg : w.heap[g]? = some (.cells cur 23)) (hc : cur.size = 3)
    (h : wpList Try.prog ops Q rest a (w.setRow g #[.int .i64 x1, .int .i64 x2, .int .i64 x3])) : wpList Try.prog ops Q (o :: rest) a w :=
  wpList_store_arr hgd 23 x y ho g _ hx hy 23 cur hg size_recV (by rw [hc]; rfl) (by intro v hv; simp at hv; rcases hv with rfl | rfl | rfl <;> rfl) hd h

theorem size_recT : (Try.prog.info? 31).map (·.size) = some 3 := by kernel_rfl
theorem store_recT {ops : Array Oper} {rest : List Oper} {o : Oper} {a : Act} {w : World} {Q : Exit → Act → World → Prop} (hgd : o.guard = none) (x y : Operand) (ho : o.op = .store 31 x y) (hd : o.dst = none)
    (g : Nat) (x1 x2 x3 : Int) (hx : a.eval x = .pointer (some ⟨g, 0, none⟩)) (hy : a.eval y = .agg #[.int .i64 x1, .int .i64 x2, .int .i64 x3]) (cur : Array Value) (hg : w.heap[g]? = some (.cells cur 31)) (hc : cur.size = 3)
    (h : wpList Try.prog ops Q rest a (w.setRow g #[.int .i64 x1, .int .i64 x2, .int .i64 x3])) : wpList Try.prog ops Q (o :: rest) a w :=
  wpList_store_arr hgd 31 x y ho g _ hx hy 31 cur hg size_recT (by rw [hc]; rfl) (by intro v hv; simp at hv; rcases hv with rfl | rfl | rfl <;> rfl) hd h

theorem size_recB : (Try.prog.info? 26).map (·.size) = some 4 := by kernel_rfl
theorem store_recB {ops : Array Oper} {rest : List Oper} {o : Oper} {a : Act} {w : World} {Q : Exit → Act → World → Prop} (hgd : o.guard = none) (x y : Operand) (ho : o.op = .store 26 x y) (hd : o.dst = none)
    (g : Nat) (x1 x2 x3 x4 : Int) (hx : a.eval x = .pointer (some ⟨g, 0, none⟩)) (hy : a.eval y = .agg #[.int .i64 x1, .int .i64 x2, .int .i64 x3, .int .i64 x4]) (cur : Array Value) (hg : w.heap[g]? = some (.cells cur 26)) (hc : cur.size = 4)
    (h : wpList Try.prog ops Q rest a (w.setRow g #[.int .i64 x1, .int .i64 x2, .int .i64 x3, .int .i64 x4])) : wpList Try.prog ops Q (o :: rest) a w :=
  wpList_store_arr hgd 26 x y ho g _ hx hy 26 cur hg size_recB (by rw [hc]; rfl) (by intro v hv; simp at hv; rcases hv with rfl | rfl | rfl | rfl <;> rfl) hd h

set_option maxRecDepth 100000 in
set_option maxHeartbeats 2000000 in
theorem allV_any (k : Nat) (cap : Array Value) (F : V3 → Bool) (v : Value) (l : List V3) (w : World) (hv : Recs 3 enc3 w v l)
    (hen : ∀ args w, (callFunc k args).run Try.prog w = .ok (.enter k args) w)
    (hF : ∀ x w', Below w.heap.size w w' → Calls Try.prog k (#[vecV x] ++ cap) w' (VTo (.bool (F x)) w')) :
    Calls Try.prog 26 #[v, .func (.func k) #[] cap] w (VTo (.bool (l.all F)) w) := by
  obtain ⟨a, c, rfl, hlen, -⟩ := hv.open_
  have HV := Lib.hid hv
  have HF := Lib.hid hF
  clear hv hF
  go_enter Try.func26, Try.ntmps26
  go_wp2_with fail
  go_loopg [9] l.length (fun r n9 wr => ∃ i : Nat, i + r = l.length ∧ n9 = .int .i64 (i : Int) ∧ Hid ((∀ j (h : j < l.length), j < i → F l[j] = true) ∧ Below w.heap.size w wr))
  case atStart => exact ⟨0, by omega, rfl, Lib.hid ⟨by omega, Below.refl _ _⟩⟩
  case round =>
    obtain ⟨i, hir, rfl, hin⟩ := hrel
    by_cases hi : i < l.length
    · have hv1 := HV.out.below hin.out.2 (Nat.le_refl _)
      obtain ⟨b, off, e, hb, p0, p1, p2⟩ := at3 hv1 i hi
      subst e
      obtain ⟨u, hu⟩ : ∃ u, u = l[i] := ⟨_, rfl⟩
      rw [← hu] at p0 p1 p2
      have HU := Lib.hid hu
      clear hu hv1
      have d1 : decide ((i : Int) < (l.length : Int)) = true := decide_eq_true (by omega)
      obtain ⟨W, hW⟩ : ∃ W, W = (wr.alloc (.cells #[.int .i64 0, .int .i64 0, .int .i64 0] 23)).setRow wr.heap.size #[.int .i64 u.x, .int .i64 u.y, .int .i64 u.z] := ⟨_, rfl⟩
      have G := Lib.hid (show W.heap[wr.heap.size]? = some (.cells #[.int .i64 u.x, .int .i64 u.y, .int .i64 u.z] 23) by rw [hW]; exact setRow_heap _ _ _ _ _ _ (heap_alloc_new _ _))
      have B := Lib.hid (hin.out.2.trans ((show Below wr.heap.size wr W by rw [hW]; exact below_setRow (ext_alloc _ _) (Nat.le_refl _) _).mono hin.out.2.size))
      have C := Lib.hid (HF.out u W B.out)
      obtain ⟨q, hq⟩ : ∃ q, q = F u := ⟨_, rfl⟩
      rw [← hq] at C
      have HQ := Lib.hid hq
      have HWW := Lib.hid hW
      have HI := Lib.hid hi
      have HR := Lib.hid hir
      clear hq hW hir
      obtain ⟨x, y, z⟩ := u
      go_upto_region 4 with (with_reducible refine store_recV rfl (.tmp 6) (.tmp 12) rfl rfl wr.heap.size x y z rfl rfl _ (heap_alloc_new _ _) rfl ?_)
      rw [← HWW.out]
      clear HWW p0 p1 p2 d1
      obtain ⟨e0, e1, e2⟩ : W.cell? ⟨wr.heap.size, 0, none⟩ = some (.int .i64 x) ∧ W.cell? ⟨wr.heap.size, 1, none⟩ = some (.int .i64 y) ∧ W.cell? ⟨wr.heap.size, 2, none⟩ = some (.int .i64 z) := ⟨cell_row G.out 0 _ rfl, cell_row G.out 1 _ rfl, cell_row G.out 2 _ rfl⟩
      go_wp2_with fail
      refine C.out.mono ?_
      rintro e w2 ⟨rfl, hb2⟩
      have B2 := Lib.hid (B.out.trans (hb2.mono B.out.size))
      clear hb2 C e0 e1 e2
      cases q
      · go_wp2_with fail
        go_ret
        refine ⟨?_, B2.out⟩
        have hq := HQ.out
        have hu := HU.out
        have hall : l.all F = false := by
          rw [← Bool.not_eq_true]
          intro hall
          have := List.all_eq_true.1 hall _ (hu ▸ List.getElem_mem HI.out)
          rw [← hq] at this
          cases this
        rw [hall]; rfl
      · go_wp2_with fail
        go_roundg (l.length - (i + 1))
        case measure => have := HR.out; have := HI.out; omega
        case rel =>
          refine ⟨i + 1, by have := HR.out; have := HI.out; omega, by go_num, Lib.hid ⟨fun j h hj => ?_, B2.out⟩⟩
          by_cases e : j = i
          · subst e
            have hq := HQ.out
            have hu := HU.out
            rw [← hu, ← hq]
          · exact hin.out.1 j h (by omega)
    · have d1 : decide ((i : Int) < (l.length : Int)) = false := decide_eq_false (by omega)
      go_wp2_with fail
      go_ret
      refine ⟨?_, hin.out.2⟩
      have hall : l.all F = true := by
        rw [List.all_eq_true]
        intro x hx
        obtain ⟨j, hj, rfl⟩ := List.mem_iff_getElem.1 hx
        exact hin.out.1 j hj (by omega)
      rw [hall]; rfl

set_option maxRecDepth 100000 in
set_option maxHeartbeats 2000000 in
theorem allT_any (k : Nat) (cap : Array Value) (F : V3 → Bool) (v : Value) (l : List V3) (w : World) (hv : Recs 3 enc3 w v l)
    (hen : ∀ args w, (callFunc k args).run Try.prog w = .ok (.enter k args) w)
    (hF : ∀ x w', Below w.heap.size w w' → Calls Try.prog k (#[vecV x] ++ cap) w' (VTo (.bool (F x)) w')) :
    Calls Try.prog 28 #[v, .func (.func k) #[] cap] w (VTo (.bool (l.all F)) w) := by
  obtain ⟨a, c, rfl, hlen, -⟩ := hv.open_
  have HV := Lib.hid hv
  have HF := Lib.hid hF
  clear hv hF
  go_enter Try.func28, Try.ntmps28
  go_wp2_with fail
  go_loopg [9] l.length (fun r n9 wr => ∃ i : Nat, i + r = l.length ∧ n9 = .int .i64 (i : Int) ∧ Hid ((∀ j (h : j < l.length), j < i → F l[j] = true) ∧ Below w.heap.size w wr))
  case atStart => exact ⟨0, by omega, rfl, Lib.hid ⟨by omega, Below.refl _ _⟩⟩
  case round =>
    obtain ⟨i, hir, rfl, hin⟩ := hrel
    by_cases hi : i < l.length
    · have hv1 := HV.out.below hin.out.2 (Nat.le_refl _)
      obtain ⟨b, off, e, hb, p0, p1, p2⟩ := at3 hv1 i hi
      subst e
      obtain ⟨u, hu⟩ : ∃ u, u = l[i] := ⟨_, rfl⟩
      rw [← hu] at p0 p1 p2
      have HU := Lib.hid hu
      clear hu hv1
      have d1 : decide ((i : Int) < (l.length : Int)) = true := decide_eq_true (by omega)
      obtain ⟨W, hW⟩ : ∃ W, W = (wr.alloc (.cells #[.int .i64 0, .int .i64 0, .int .i64 0] 31)).setRow wr.heap.size #[.int .i64 u.x, .int .i64 u.y, .int .i64 u.z] := ⟨_, rfl⟩
      have G := Lib.hid (show W.heap[wr.heap.size]? = some (.cells #[.int .i64 u.x, .int .i64 u.y, .int .i64 u.z] 31) by rw [hW]; exact setRow_heap _ _ _ _ _ _ (heap_alloc_new _ _))
      have B := Lib.hid (hin.out.2.trans ((show Below wr.heap.size wr W by rw [hW]; exact below_setRow (ext_alloc _ _) (Nat.le_refl _) _).mono hin.out.2.size))
      have C := Lib.hid (HF.out u W B.out)
      obtain ⟨q, hq⟩ : ∃ q, q = F u := ⟨_, rfl⟩
      rw [← hq] at C
      have HQ := Lib.hid hq
      have HWW := Lib.hid hW
      have HI := Lib.hid hi
      have HR := Lib.hid hir
      clear hq hW hir
      obtain ⟨x, y, z⟩ := u
      go_upto_region 4 with (with_reducible refine store_recT rfl (.tmp 6) (.tmp 12) rfl rfl wr.heap.size x y z rfl rfl _ (heap_alloc_new _ _) rfl ?_)
      rw [← HWW.out]
      clear HWW p0 p1 p2 d1
      obtain ⟨e0, e1, e2⟩ : W.cell? ⟨wr.heap.size, 0, none⟩ = some (.int .i64 x) ∧ W.cell? ⟨wr.heap.size, 1, none⟩ = some (.int .i64 y) ∧ W.cell? ⟨wr.heap.size, 2, none⟩ = some (.int .i64 z) := ⟨cell_row G.out 0 _ rfl, cell_row G.out 1 _ rfl, cell_row G.out 2 _ rfl⟩
      go_wp2_with fail
      refine C.out.mono ?_
      rintro e w2 ⟨rfl, hb2⟩
      have B2 := Lib.hid (B.out.trans (hb2.mono B.out.size))
      clear hb2 C e0 e1 e2
      cases q
      · go_wp2_with fail
        go_ret
        refine ⟨?_, B2.out⟩
        have hq := HQ.out
        have hu := HU.out
        have hall : l.all F = false := by
          rw [← Bool.not_eq_true]
          intro hall
          have := List.all_eq_true.1 hall _ (hu ▸ List.getElem_mem HI.out)
          rw [← hq] at this
          cases this
        rw [hall]; rfl
      · go_wp2_with fail
        go_roundg (l.length - (i + 1))
        case measure => have := HR.out; have := HI.out; omega
        case rel =>
          refine ⟨i + 1, by have := HR.out; have := HI.out; omega, by go_num, Lib.hid ⟨fun j h hj => ?_, B2.out⟩⟩
          by_cases e : j = i
          · subst e
            have hq := HQ.out
            have hu := HU.out
            rw [← hu, ← hq]
          · exact hin.out.1 j h (by omega)
    · have d1 : decide ((i : Int) < (l.length : Int)) = false := decide_eq_false (by omega)
      go_wp2_with fail
      go_ret
      refine ⟨?_, hin.out.2⟩
      have hall : l.all F = true := by
        rw [List.all_eq_true]
        intro x hx
        obtain ⟨j, hj, rfl⟩ := List.mem_iff_getElem.1 hx
        exact hin.out.1 j hj (by omega)
      rw [hall]; rfl

set_option maxRecDepth 100000 in
set_option maxHeartbeats 2000000 in
theorem allB_any (k : Nat) (cap : Array Value) (F : B4 → Bool) (v : Value) (l : List B4) (w : World) (hv : Recs 4 enc4 w v l)
    (hen : ∀ args w, (callFunc k args).run Try.prog w = .ok (.enter k args) w)
    (hF : ∀ x w', Below w.heap.size w w' → Calls Try.prog k (#[.agg #[.int .i64 x.c.x, .int .i64 x.c.y, .int .i64 x.c.z, .int .i64 x.r]] ++ cap) w' (VTo (.bool (F x)) w')) :
    Calls Try.prog 31 #[v, .func (.func k) #[] cap] w (VTo (.bool (l.all F)) w) := by
  obtain ⟨a, c, rfl, hlen, -⟩ := hv.open_
  have HV := Lib.hid hv
  have HF := Lib.hid hF
  clear hv hF
  go_enter Try.func31, Try.ntmps31
  go_wp2_with fail
  go_loopg [9] l.length (fun r n9 wr => ∃ i : Nat, i + r = l.length ∧ n9 = .int .i64 (i : Int) ∧ Hid ((∀ j (h : j < l.length), j < i → F l[j] = true) ∧ Below w.heap.size w wr))
  case atStart => exact ⟨0, by omega, rfl, Lib.hid ⟨by omega, Below.refl _ _⟩⟩
  case round =>
    obtain ⟨i, hir, rfl, hin⟩ := hrel
    by_cases hi : i < l.length
    · have hv1 := HV.out.below hin.out.2 (Nat.le_refl _)
      obtain ⟨b, off, e, hb, p0, p1, p2, p3⟩ := at4 hv1 i hi
      subst e
      obtain ⟨u, hu⟩ : ∃ u, u = l[i] := ⟨_, rfl⟩
      rw [← hu] at p0 p1 p2 p3
      have HU := Lib.hid hu
      clear hu hv1
      have d1 : decide ((i : Int) < (l.length : Int)) = true := decide_eq_true (by omega)
      obtain ⟨W, hW⟩ : ∃ W, W = (wr.alloc (.cells #[.int .i64 0, .int .i64 0, .int .i64 0, .int .i64 0] 26)).setRow wr.heap.size #[.int .i64 u.c.x, .int .i64 u.c.y, .int .i64 u.c.z, .int .i64 u.r] := ⟨_, rfl⟩
      have G := Lib.hid (show W.heap[wr.heap.size]? = some (.cells #[.int .i64 u.c.x, .int .i64 u.c.y, .int .i64 u.c.z, .int .i64 u.r] 26) by rw [hW]; exact setRow_heap _ _ _ _ _ _ (heap_alloc_new _ _))
      have B := Lib.hid (hin.out.2.trans ((show Below wr.heap.size wr W by rw [hW]; exact below_setRow (ext_alloc _ _) (Nat.le_refl _) _).mono hin.out.2.size))
      have C := Lib.hid (HF.out u W B.out)
      obtain ⟨q, hq⟩ : ∃ q, q = F u := ⟨_, rfl⟩
      rw [← hq] at C
      have HQ := Lib.hid hq
      have HWW := Lib.hid hW
      have HI := Lib.hid hi
      have HR := Lib.hid hir
      clear hq hW hir
      obtain ⟨⟨x, y, z⟩, s⟩ := u
      go_upto_region 4 with (with_reducible refine store_recB rfl (.tmp 6) (.tmp 12) rfl rfl wr.heap.size x y z s rfl rfl _ (heap_alloc_new _ _) rfl ?_)
      rw [← HWW.out]
      clear HWW p0 p1 p2 p3 d1
      obtain ⟨e0, e1, e2, e3⟩ : W.cell? ⟨wr.heap.size, 0, none⟩ = some (.int .i64 x) ∧ W.cell? ⟨wr.heap.size, 1, none⟩ = some (.int .i64 y) ∧ W.cell? ⟨wr.heap.size, 2, none⟩ = some (.int .i64 z) ∧ W.cell? ⟨wr.heap.size, 3, none⟩ = some (.int .i64 s) := ⟨cell_row G.out 0 _ rfl, cell_row G.out 1 _ rfl, cell_row G.out 2 _ rfl, cell_row G.out 3 _ rfl⟩
      go_wp2_with fail
      refine C.out.mono ?_
      rintro e w2 ⟨rfl, hb2⟩
      have B2 := Lib.hid (B.out.trans (hb2.mono B.out.size))
      clear hb2 C e0 e1 e2 e3
      cases q
      · go_wp2_with fail
        go_ret
        refine ⟨?_, B2.out⟩
        have hq := HQ.out
        have hu := HU.out
        have hall : l.all F = false := by
          rw [← Bool.not_eq_true]
          intro hall
          have := List.all_eq_true.1 hall _ (hu ▸ List.getElem_mem HI.out)
          rw [← hq] at this
          cases this
        rw [hall]; rfl
      · go_wp2_with fail
        go_roundg (l.length - (i + 1))
        case measure => have := HR.out; have := HI.out; omega
        case rel =>
          refine ⟨i + 1, by have := HR.out; have := HI.out; omega, by go_num, Lib.hid ⟨fun j h hj => ?_, B2.out⟩⟩
          by_cases e : j = i
          · subst e
            have hq := HQ.out
            have hu := HU.out
            rw [← hu, ← hq]
          · exact hin.out.1 j h (by omega)
    · have d1 : decide ((i : Int) < (l.length : Int)) = false := decide_eq_false (by omega)
      go_wp2_with fail
      go_ret
      refine ⟨?_, hin.out.2⟩
      have hall : l.all F = true := by
        rw [List.all_eq_true]
        intro x hx
        obtain ⟨j, hj, rfl⟩ := List.mem_iff_getElem.1 hx
        exact hin.out.1 j hj (by omega)
      rw [hall]; rfl

end Go.Proofs.Ytdmmjmdnljhooaa.MeshB
