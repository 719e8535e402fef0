/- The walk of layer 14's add. -/
import Derived.Test.YtdaokkgenfpmhaaBvhW
import Derived.BigRegion
import Derived.Deep.CutRange
set_option linter.unusedVariables false
set_option linter.unusedSimpArgs false
namespace Go.Proofs.Ytdaokkgenfpmhaa.BvhX
open Go Go.RowKit Go.Sort Go.Lib FixM Base Num FixW Qb Qt Qa Qf VecW VecV VecU LightQ LightC MeshM Rec MeshA MeshD MeshP HitM HitX BvhM BvhA BvhB BvhS BvhT BvhU BvhV Qx BvhW
theorem ok_join {a b : Bx} (ha : HitM.Bx.ok a) (hb : HitM.Bx.ok b) : HitM.Bx.ok (joinB a b) := by
  unfold HitM.Bx.ok V3.ok In joinB minI maxI at *
  dsimp only at *
  refine ⟨⟨?_, ?_, ?_⟩, ?_, ?_, ?_⟩ <;> split <;> omega
theorem ok_zero : HitM.Bx.ok zeroB := by unfold HitM.Bx.ok V3.ok In zeroB; decide
theorem ok_at {bs : List Bx} (ok : ∀ b ∈ bs, HitM.Bx.ok b) (i : Nat) : HitM.Bx.ok (bs.getD i zeroB) := by
  by_cases h : i < bs.length
  · have : bs.getD i zeroB = bs[i] := by simp [h]
    rw [this]; exact ok _ (List.getElem_mem h)
  · have : bs.getD i zeroB = zeroB := by simp [h]
    rw [this]; exact ok_zero
theorem ok_fold {bs : List Bx} (ok : ∀ b ∈ bs, HitM.Bx.ok b) (l : List Nat) : ∀ b : Bx, HitM.Bx.ok b → HitM.Bx.ok (l.foldl (fun (b : Bx) (j : Nat) => joinB b (bs.getD j zeroB)) b) := by
  induction l with
  | nil => intro b h; exact h
  | cons x l ih => intro b h; exact ih _ (ok_join h (ok_at ok x))
theorem ok_boxS {bs : List Bx} (ok : ∀ b ∈ bs, HitM.Bx.ok b) (l : List Nat) : HitM.Bx.ok (boxS bs l) := by
  cases l with
  | nil => exact ok_zero
  | cons x l => exact ok_fold ok l _ (ok_at ok x)
theorem node_cell {E base : Nat} {w : World} {g n cp : Nat} {l : List Nd} (h : RecsOwn 10 encN E base w (.slice (some ⟨g, 0, none⟩) n cp) l) (i : Nat) (hi : i < l.length) (k : Nat) (x : Value) (hx : (encN l[i])[k]? = some x) : w.cell? ⟨g, i * 10 + k, none⟩ = some x := by
  obtain ⟨b, off, cap, e, _, hc⟩ := (h.recs lenN).cells (by intro e; subst e; simp at hi)
  simp only [Value.slice.injEq, Option.some.injEq, Addr.mk.injEq, and_true] at e
  obtain ⟨⟨rfl, rfl⟩, -⟩ := e
  have := hc i hi k x hx
  rw [Nat.zero_add] at this
  exact this
theorem drew_below (w : World) : Below w.heap.size w w.drew := ⟨rfl, rfl, rfl, Nat.le_refl _, fun _ _ => rfl⟩
theorem wrap_sum (f k h : Nat) (e : h = f + k) (hb : h ≤ 4611686018427387903) : wrap64 ((f : Int) + (k : Int)) = (h : Int) := by unfold wrap64; omega
theorem wrap_half (m k : Nat) (e : k = m / 2) (hb : m ≤ 4611686018427387903) : wrap64 ((m : Int) / 2) = (k : Int) := by unfold wrap64; omega
theorem wrap_more (d h : Nat) (e : h = d + 1) (hb : d ≤ 4611686018427387903) : IntKind.i64.wrap ((d : Int) + 1) = (h : Int) := by rw [MeshC.wrap_in (by omega) (by omega)]; omega
theorem half_le (f t m k h : Nat) (e : h = f + k) (hk : k = m / 2) (hm : f + m = t) (ht : t ≤ 1048576) : h ≤ 4611686018427387903 ∧ m ≤ 4611686018427387903 := by omega
theorem node_size : (Try.prog.info? 58).map (·.size) = some 10 := by kernel_rfl
theorem ones10 (a b c d e f g h i j : Int) : ∀ v ∈ (#[Value.int .i64 a, .int .i64 b, .int .i64 c, .int .i64 d, .int .i64 e, .int .i64 f, .int .i64 g, .int .i64 h, .int .i64 i, .int .i64 j] : Array Value).toList, v.oneCell' = true := by
  intro v hv; simp at hv; rcases hv with rfl | rfl | rfl | rfl | rfl | rfl | rfl | rfl | rfl | rfl <;> rfl
theorem store_node {ops : Array Oper} {rest : List Oper} {o : Oper} {a : Act} {w : World} {Q : Exit → Act → World → Prop} (hgd : o.guard = none) (x y : Operand) (ho : o.op = .store 58 x y) (hd : o.dst = none)
    (gn : Nat) (A B C D E F G H I J : Int) (hx : a.eval x = .pointer (some ⟨gn, 0, none⟩)) (hy : a.eval y = .agg #[.int .i64 A, .int .i64 B, .int .i64 C, .int .i64 D, .int .i64 E, .int .i64 F, .int .i64 G, .int .i64 H, .int .i64 I, .int .i64 J]) (cur : Array Value) (hg : w.heap[gn]? = some (.cells cur 58)) (hc2 : cur.size = 10)
    (h : wpList Try.prog ops Q rest a (w.setRow gn #[.int .i64 A, .int .i64 B, .int .i64 C, .int .i64 D, .int .i64 E, .int .i64 F, .int .i64 G, .int .i64 H, .int .i64 I, .int .i64 J])) : wpList Try.prog ops Q (o :: rest) a w :=
  wpList_store_arr hgd 58 x y ho gn _ hx hy 58 cur hg node_size (by rw [hc2]; rfl) (ones10 _ _ _ _ _ _ _ _ _ _) hd h
set_option maxRecDepth 100000 in
set_option maxHeartbeats 16000000 in
theorem add_any (w0 : World) (base gM gT : Nat) (vb v0 v1 v2 : Value) (mo : Int) (blk cap : Nat) (bs : List Bx) (ok : ∀ b ∈ bs, HitM.Bx.ok b) (hbs : bs.length ≤ 4611686018427387903) :
    ∀ (n f t d : Nat) (w : World) (vn : Value) (s : Sta), Bd w0 w base gM gT vb v0 v1 v2 mo blk cap bs vn s → Side bs n f t d s →
      Calls Try.prog 23 #[.pointer (some ⟨gM, 0, none⟩), .int .i64 (f : Int), .int .i64 (t : Int), .int .i64 (d : Int)] w (fun e w' => e = .returned (.int .i64 (s.ns.length : Int)) ∧ ∃ vn', Bd w0 w' base gM gT vb v0 v1 v2 mo blk cap bs vn' (addP bs mo n f t d s)) := by
  intro n
  induction n with
  | zero => intro f t d w vn s _ h1; have h2 := h1.2.1; have h3 := h1.2.2.1; omega
  | succ n ih =>
    intro f t d w vn s h hside
    have HSIDE := Lib.hid hside
    obtain ⟨hl, hn, hft, ht, hll, hnl, hst, hdl, hdp⟩ := hside
    have IH := Lib.hid ih
    clear ih
    have HSTOP := Lib.hid (fun hh => addP_stop bs mo n f t d s hh)
    have HGO := Lib.hid (fun hh => addP_go bs mo n f t d s hh)
    obtain ⟨R, hR⟩ : ∃ R, R = addP bs mo (n + 1) f t d s := ⟨_, rfl⟩
    rw [← hR] at HSTOP HGO ⊢
    clear hR
    have HBX := Lib.hid (ok_boxS ok (segL s.l f t))
    have HOK := Lib.hid ok
    have HLK := Lib.hid hl
    have HNN := Lib.hid (And.intro hn (And.intro hft (And.intro ht (And.intro hll (And.intro hnl (And.intro hst (And.intro hdl hdp)))))))
    have HBS := Lib.hid hbs
    have CA := Lib.hid (around_any w gM gT vb vn v0 v1 v2 _ mo _ blk cap bs s.l base h.mt hl f t hft ht (by omega))
    have HS1 := Lib.hid (show s1 bs f t d s = ⟨s.ns ++ [⟨boxS bs (segL s.l f t), f, t, -1, -1⟩], s.l, max s.dp d, s.st + (t - f)⟩ from rfl)
    have HS2 := Lib.hid (show s2 bs f t d s = ⟨s.ns ++ [⟨boxS bs (segL s.l f t), f, t, -1, -1⟩], putSeg s.l f ((segL s.l f t).mergeSort (leN (axisF (boxS bs (segL s.l f t))) bs)), max s.dp d, s.st + (t - f)⟩ from rfl)
    change Hid (Calls _ _ _ _ (VTo (boxV (boxS bs (segL s.l f t))) w)) at CA
    obtain ⟨bx, hbx⟩ : ∃ b, b = boxS bs (segL s.l f t) := ⟨_, rfl⟩
    rw [← hbx] at CA HBX HS1 HS2 HGO
    have HBE := Lib.hid hbx
    unfold boxV at CA
    obtain ⟨m, hm⟩ : ∃ m, m = t - f := ⟨_, rfl⟩
    rw [← hm] at HS1 HS2 HNN HSTOP HGO
    have i1 : IntKind.i64.wrap ((t : Int) - (f : Int)) = (m : Int) := by rw [MeshC.wrap_in (by omega) (by omega)]; omega
    have HME := Lib.hid hm
    have hmst : s.st + m ≤ 1152921504606846976 := by
      have : m ≤ m * m := Nat.le_mul_of_pos_left _ (by omega)
      have := HNN.out.2.2.2.2.2.1
      omega
    obtain ⟨st1, hst1⟩ : ∃ x, x = s.st + m := ⟨_, rfl⟩
    rw [← hst1] at HS1 HS2 HSTOP HGO
    have i2 : IntKind.i64.wrap ((s.st : Int) + (m : Int)) = (st1 : Int) := by rw [MeshC.wrap_in (by omega) (by omega)]; omega
    have HST := Lib.hid (And.intro hst1 hmst)
    obtain ⟨dp1, hdp1⟩ : ∃ x, x = max s.dp d := ⟨_, rfl⟩
    rw [← hdp1] at HS1 HS2
    have i3 := max2_at (x := (s.dp : Int)) (y := (d : Int)) (n := (dp1 : Int)) (by unfold maxI; split <;> omega)
    have HDP := Lib.hid hdp1
    clear hbx hm hst1 hdp1 hmst hn ht hll hnl hst hdl hdp hl hbs ok
    obtain ⟨an, cn, hvn⟩ := h.ns.slice_
    have HD0 := Lib.hid h
    obtain ⟨N, hN⟩ : ∃ N, N = s.ns.length := ⟨_, rfl⟩
    rw [← hN] at hvn HGO ⊢
    have HNL := Lib.hid hN
    clear h hN
    subst hvn
    have c0 := cell_row HD0.out.mt.m 0 _ rfl
    have c4 := cell_row HD0.out.mt.t 4 _ rfl
    go_enter Try.func23, Try.ntmps23
    go_wp2_with fail
    refine CA.out.mono ?_
    rintro e w1 ⟨rfl, hb⟩
    have HD1 := Lib.hid (HD0.out.below hb)
    clear CA HD0 c0 c4 hb
    go_upto_region 4 with (with_reducible refine store_node rfl (.tmp 11) (.tmp 30) rfl rfl w1.heap.size bx.lo.x bx.lo.y bx.lo.z bx.hi.x bx.hi.y bx.hi.z (f : Int) (t : Int) (-1) (-1) rfl rfl _ (heap_alloc_new _ _) rfl ?_)
    have hx : Below w1.heap.size w1 ((w1.alloc (.cells #[.int .i64 0, .int .i64 0, .int .i64 0, .int .i64 0, .int .i64 0, .int .i64 0, .int .i64 0, .int .i64 0, .int .i64 0, .int .i64 0] 58)).setRow w1.heap.size #[.int .i64 bx.lo.x, .int .i64 bx.lo.y, .int .i64 bx.lo.z, .int .i64 bx.hi.x, .int .i64 bx.hi.y, .int .i64 bx.hi.z, .int .i64 (f : Int), .int .i64 (t : Int), .int .i64 (-1), .int .i64 (-1)]) := below_setRow (ext_alloc w1 (.cells #[.int .i64 0, .int .i64 0, .int .i64 0, .int .i64 0, .int .i64 0, .int .i64 0, .int .i64 0, .int .i64 0, .int .i64 0, .int .i64 0] 58)) (Nat.le_refl _) _
    have hn : ((w1.alloc (.cells #[.int .i64 0, .int .i64 0, .int .i64 0, .int .i64 0, .int .i64 0, .int .i64 0, .int .i64 0, .int .i64 0, .int .i64 0, .int .i64 0] 58)).setRow w1.heap.size #[.int .i64 bx.lo.x, .int .i64 bx.lo.y, .int .i64 bx.lo.z, .int .i64 bx.hi.x, .int .i64 bx.hi.y, .int .i64 bx.hi.z, .int .i64 (f : Int), .int .i64 (t : Int), .int .i64 (-1), .int .i64 (-1)]).heap[w1.heap.size]? = some (.cells #[.int .i64 bx.lo.x, .int .i64 bx.lo.y, .int .i64 bx.lo.z, .int .i64 bx.hi.x, .int .i64 bx.hi.y, .int .i64 bx.hi.z, .int .i64 (f : Int), .int .i64 (t : Int), .int .i64 (-1), .int .i64 (-1)] 58) := setRow_heap _ _ _ _ _ _ (heap_alloc_new _ _)
    obtain ⟨W2, hW⟩ : ∃ ww, ww = ((w1.alloc (.cells #[.int .i64 0, .int .i64 0, .int .i64 0, .int .i64 0, .int .i64 0, .int .i64 0, .int .i64 0, .int .i64 0, .int .i64 0, .int .i64 0] 58)).setRow w1.heap.size #[.int .i64 bx.lo.x, .int .i64 bx.lo.y, .int .i64 bx.lo.z, .int .i64 bx.hi.x, .int .i64 bx.hi.y, .int .i64 bx.hi.z, .int .i64 (f : Int), .int .i64 (t : Int), .int .i64 (-1), .int .i64 (-1)]) := ⟨_, rfl⟩
    rw [← hW] at hx hn ⊢
    clear hW
    have HD2 := Lib.hid (HD1.out.below hx)
    have HN := Lib.hid hn
    have HNE := Lib.hid (show gT < w1.heap.size ∧ gM < w1.heap.size ∧ blk < w1.heap.size ∧ (∀ b, (Value.slice an N cn).ownBlock = some b → b < w1.heap.size) from ⟨Base.lt_of_heap HD1.out.mt.t, Base.lt_of_heap HD1.out.mt.m, (HD1.out.mt.o.lt blk rfl).2, fun b e => (HD1.out.ns.lt b e).2⟩)
    clear hx hn HD1
    generalize w1.heap.size = gN at HN HNE ⊢
    clear w1
    have HJ := Lib.hid (fun (wa wb : World) (h : Keeps (fun k => (Value.slice an N cn).ownBlock = some k) W2 wa) (hb : Below wa.heap.size wa wb) => h.trans (Keeps.of_ext hb (fun _ => False)) (fun _ h => h.elim))
    have HG := Lib.hid (fun (wa wb : World) (h : Keeps (fun k => (Value.slice an N cn).ownBlock = some k) W2 wa) (_ : RecsOwn 10 encN 58 base wa (Value.slice an N cn) s.ns) (hg : wa.grownBy wb (Value.slice an N cn).ownBlock) => h.grown hg (fun k e => .inl e))
    have HBA := Lib.hid (fun (wa : World) (h : Keeps (fun k => (Value.slice an N cn).ownBlock = some k) W2 wa) => Nat.le_trans HD2.out.low.2.2.2 h.size)
    have HB2 := Lib.hid (fun (wa : World) (h : Keeps (fun k => (Value.slice an N cn).ownBlock = some k) W2 wa) => h.size)
    have HRT := Lib.hid (fun (wa : World) (h : Keeps (fun k => (Value.slice an N cn).ownBlock = some k) W2 wa) => keep_cell h HD2.out.mt.t (fun e => (HD2.out.nn gT e).2.1 rfl))
    have HRN := Lib.hid (fun (wa : World) (h : Keeps (fun k => (Value.slice an N cn).ownBlock = some k) W2 wa) => keep_cell h HN.out (fun e => Nat.lt_irrefl _ (HNE.out.2.2.2 gN e)))
    have HS0 := Lib.hid (show PhD 10 encN 58 base W2.heap.size (fun w' => Keeps (fun k => (Value.slice an N cn).ownBlock = some k) W2 w') (fun w' => Keeps (fun k => (Value.slice an N cn).ownBlock = some k) W2 w') (Value.slice an N cn) s.ns (⟨bx, f, t, -1, -1⟩ : Nd) #[.int .i64 bx.lo.x, .int .i64 bx.lo.y, .int .i64 bx.lo.z, .int .i64 bx.hi.x, .int .i64 bx.hi.y, .int .i64 bx.hi.z, .int .i64 (f : Int), .int .i64 (t : Int), .int .i64 (-1), .int .i64 (-1)] Ph.p0 W2 from ⟨Keeps.refl _ _, HD2.out.ns⟩)
    have HLE := Lib.hid (show (s.ns.length + 1) * 80 ≤ 140737488355328 by have := HNN.out; omega)
    have HLE2 := Lib.hid (show s.ns.length + 1 ≤ 140737488355328 by have := HNN.out; omega)
    go_upto_region 4 with (fail)
    refine Qw.wp_region_writes 8 [0, 1, 2, 3, 4, 5] [6, 7] (PhD 10 encN 58 base W2.heap.size (fun w' => Keeps (fun k => (Value.slice an N cn).ownBlock = some k) W2 w') (fun w' => Keeps (fun k => (Value.slice an N cn).ownBlock = some k) W2 w') (Value.slice an N cn) s.ns (⟨bx, f, t, -1, -1⟩ : Nd) #[.int .i64 bx.lo.x, .int .i64 bx.lo.y, .int .i64 bx.lo.z, .int .i64 bx.hi.x, .int .i64 bx.hi.y, .int .i64 bx.hi.z, .int .i64 (f : Int), .int .i64 (t : Int), .int .i64 (-1), .int .i64 (-1)]) Ph.p0 (by kernel_rfl) (by kernel_rfl) (PhD.step HJ.out HJ.out Ph.p0 W2 _ HS0.out ⟨rfl, rfl, rfl, Nat.le_refl _, fun _ _ => rfl⟩) ?_
    refine Qw.Walk.step (A := ?A1) (o := ?o1) (fun s w w2 h hb => PhD.step HJ.out HJ.out s w w2 h hb) Ph.p0 W2 HS0.out ?e1 ?w1 31 ?d1 (by simp) ?h1 ?n1
    case e1 => simp only [List.getElem?_toArray, List.getElem?_cons_succ, List.getElem?_cons_zero]; exact rfl
    case w1 => exact rfl
    case d1 => exact rfl
    case h1 =>
      intro s9 w9 h9
      go_big_quiet_op
      exact rfl
    refine Qw.Walk.step (A := ?A2) (o := ?o2) (fun s w w2 h hb => PhD.step HJ.out HJ.out s w w2 h hb) Ph.p0 W2 HS0.out ?e2 ?w2 32 ?d2 (by simp) ?h2 ?n2
    case e2 => simp only [List.getElem?_toArray, List.getElem?_cons_succ, List.getElem?_cons_zero]; exact rfl
    case w2 => exact rfl
    case d2 => exact rfl
    case h2 =>
      intro s9 w9 h9
      go_big_quiet_op
      exact rfl
    refine Qw.Walk.step (A := ?A3) (o := ?o3) (fun s w w2 h hb => PhD.step HJ.out HJ.out s w w2 h hb) Ph.p0 W2 HS0.out ?e3 ?w3 33 ?d3 (by simp) ?h3 ?n3
    case e3 => simp only [List.getElem?_toArray, List.getElem?_cons_succ, List.getElem?_cons_zero]; exact rfl
    case w3 => exact rfl
    case d3 => exact rfl
    case h3 =>
      intro s9 w9 h9
      go_big_quiet_op
      exact rfl
    refine Qw.Walk.step (A := ?A4) (o := ?o4) (fun s w w2 h hb => PhD.step HJ.out HJ.out s w w2 h hb) Ph.p0 W2 HS0.out ?e4 ?w4 34 ?d4 (by simp) ?h4 ?n4
    case e4 => simp only [List.getElem?_toArray, List.getElem?_cons_succ, List.getElem?_cons_zero]; exact rfl
    case w4 => exact rfl
    case d4 => exact rfl
    case h4 =>
      intro s9 w9 h9
      go_big_quiet_op
      exact rfl
    refine Qw.Walk.step (A := ?A5) (o := ?o5) (fun s w w2 h hb => PhD.step HJ.out HJ.out s w w2 h hb) Ph.p0 W2 HS0.out ?e5 ?w5 35 ?d5 (by simp) ?h5 ?n5
    case e5 => simp only [List.getElem?_toArray, List.getElem?_cons_succ, List.getElem?_cons_zero]; exact rfl
    case w5 => exact rfl
    case d5 => exact rfl
    case h5 =>
      intro s9 w9 h9
      have hJ9 : (fun w' => Keeps (fun k => (Value.slice an N cn).ownBlock = some k) W2 w') w9 := by cases s9 <;> exact h9.1
      have e0 := cell_all (HRT.out w9 hJ9) 4 _ rfl
      go_big_quiet_op
      exact rfl
    refine Qw.Walk.step (A := ?A6) (o := ?o6) (fun s w w2 h hb => PhD.step HJ.out HJ.out s w w2 h hb) Ph.p0 W2 HS0.out ?e6 ?w6 36 ?d6 (by simp) ?h6 ?n6
    case e6 => simp only [List.getElem?_toArray, List.getElem?_cons_succ, List.getElem?_cons_zero]; exact rfl
    case w6 => exact rfl
    case d6 => exact rfl
    case h6 =>
      intro s9 w9 h9
      have hJ9 : (fun w' => Keeps (fun k => (Value.slice an N cn).ownBlock = some k) W2 w') w9 := by cases s9 <;> exact h9.1
      have e0 := cell_all (HRN.out w9 hJ9) 0 _ rfl
      have e1 := cell_all (HRN.out w9 hJ9) 1 _ rfl
      have e2 := cell_all (HRN.out w9 hJ9) 2 _ rfl
      have e3 := cell_all (HRN.out w9 hJ9) 3 _ rfl
      have e4 := cell_all (HRN.out w9 hJ9) 4 _ rfl
      have e5 := cell_all (HRN.out w9 hJ9) 5 _ rfl
      have e6 := cell_all (HRN.out w9 hJ9) 6 _ rfl
      have e7 := cell_all (HRN.out w9 hJ9) 7 _ rfl
      have e8 := cell_all (HRN.out w9 hJ9) 8 _ rfl
      have e9 := cell_all (HRN.out w9 hJ9) 9 _ rfl
      go_big_quiet_op
      exact rfl
    refine Qx.Chain.app (ob := ?ob1) (oa := ?oa1) nodes_slice HJ.out HG.out HBA.out HB2.out rfl HLE.out HLE2.out ?b1 ?b2 ?b3 ?b4 ?b6 (.tmp 35) (.tmp 37) ?b7 ?b8 ?b9 ?b5
    case b1 => simp only [List.getElem?_toArray, List.getElem?_cons_succ, List.getElem?_cons_zero]; exact rfl
    case b4 => simp only [List.getElem?_toArray, List.getElem?_cons_succ, List.getElem?_cons_zero]; exact rfl
    case b2 => exact rfl
    case b6 => exact rfl
    case b7 => exact rfl
    case b8 => exact fun gs => rfl
    case b9 => exact fun gs => rfl
    case b3 => intro w9; simp [execOp, Act.eval, Act.put, go_sem]
    intro gs v9 w9 h9
    have H9 := Lib.hid h9
    clear h9
    simp only [List.drop_succ_cons, List.drop_zero, Act.put, List.setIfInBounds_toArray, List.set_cons_succ, List.set_cons_zero]
    obtain ⟨a9, c9, hv9⟩ := H9.out.2.1.slice_
    obtain ⟨N1, hN1⟩ : ∃ x, x = (s.ns ++ [(⟨bx, f, t, -1, -1⟩ : Nd)]).length := ⟨_, rfl⟩
    rw [← hN1] at hv9
    have HN1 := Lib.hid hN1
    clear hN1
    subst hv9
    have HT9 := Lib.hid (HRT.out _ H9.out.1)
    have HN9 := Lib.hid (HRN.out _ H9.out.1)
    have HD3 := Lib.hid (HD2.out.app H9.out.1 H9.out.2.1 H9.out.2.2)
    clear HJ HG HBA HB2 HRT HRN HS0 HLE HLE2
    have HN3 := Lib.hid (show (w9.setCell ⟨gT, 4, none⟩ (.slice a9 N1 c9)).heap[gN]? = some (.cells #[.int .i64 bx.lo.x, .int .i64 bx.lo.y, .int .i64 bx.lo.z, .int .i64 bx.hi.x, .int .i64 bx.hi.y, .int .i64 bx.hi.z, .int .i64 (f : Int), .int .i64 (t : Int), .int .i64 (-1), .int .i64 (-1)] 58) from (heap_setCell_other _ _ _ _ (Nat.ne_of_gt HNE.out.1)).trans HN9.out)
    have r9 := cell_row HT9.out 4 _ rfl
    have t9 := frozen_of_row _ _ 4 _ _ HT9.out
    go_upto_region 5 with (fail)
    obtain ⟨W3, hW⟩ : ∃ ww, ww = w9.setCell ⟨gT, 4, none⟩ (.slice a9 N1 c9) := ⟨_, rfl⟩
    rw [← hW] at HD3 HN3 ⊢
    clear hW r9 t9 H9 HT9 HN9 HD2 HN
    clear w9 W2
    have r9 : W3.cell? ⟨gT, 6, none⟩ = some (.int .i64 (s.dp : Int)) := cell_row HD3.out.mt.t 6 _ rfl
    have t9 := frozen_of_row _ _ 6 _ _ HD3.out.mt.t
    have HD4 := Lib.hid (HD3.out.setT dp1)
    have HN4 := Lib.hid (show (W3.setCell ⟨gT, 6, none⟩ (.int .i64 (dp1 : Int))).heap[gN]? = some (.cells #[.int .i64 bx.lo.x, .int .i64 bx.lo.y, .int .i64 bx.lo.z, .int .i64 bx.hi.x, .int .i64 bx.hi.y, .int .i64 bx.hi.z, .int .i64 (f : Int), .int .i64 (t : Int), .int .i64 (-1), .int .i64 (-1)] 58) from (heap_setCell_other _ _ _ _ (Nat.ne_of_gt HNE.out.1)).trans HN3.out)
    go_upto_region 6 with (fail)
    obtain ⟨W4, hW⟩ : ∃ ww, ww = W3.setCell ⟨gT, 6, none⟩ (.int .i64 (dp1 : Int)) := ⟨_, rfl⟩
    rw [← hW] at HD4 HN4 ⊢
    clear hW r9 t9 HD3 HN3
    clear W3
    have r9 : W4.cell? ⟨gM, 2, none⟩ = some (.int .i64 (s.st : Int)) := cell_row HD4.out.mt.m 2 _ rfl
    have t9 := frozen_of_row _ _ 2 _ _ HD4.out.mt.m
    have HD5 := Lib.hid (HD4.out.setM st1)
    have HN5 := Lib.hid (show (W4.setCell ⟨gM, 2, none⟩ (.int .i64 (st1 : Int))).heap[gN]? = some (.cells #[.int .i64 bx.lo.x, .int .i64 bx.lo.y, .int .i64 bx.lo.z, .int .i64 bx.hi.x, .int .i64 bx.hi.y, .int .i64 bx.hi.z, .int .i64 (f : Int), .int .i64 (t : Int), .int .i64 (-1), .int .i64 (-1)] 58) from (heap_setCell_other _ _ _ _ (Nat.ne_of_gt HNE.out.2.1)).trans HN4.out)
    go_upto_region 7 with (fail)
    obtain ⟨W5, hW⟩ : ∃ ww, ww = W4.setCell ⟨gM, 2, none⟩ (.int .i64 (st1 : Int)) := ⟨_, rfl⟩
    rw [← hW] at HD5 HN5 ⊢
    clear hW r9 t9 HD4 HN4
    clear W4
    have r2 := fun d os => cell_regrown (show W5.cell? ⟨gM, 2, none⟩ = some (.int .i64 (st1 : Int)) from cell_row HD5.out.mt.m 2 _ rfl) d os
    have r3 := fun d os => cell_regrown (show W5.cell? ⟨gM, 3, none⟩ = some (.int .i64 mo) from cell_row HD5.out.mt.m 3 _ rfl) d os
    by_cases hm2 : m ≤ 2
    · have d1 : decide ((m : Int) ≤ 2) = true := decide_eq_true (by omega)
      have HR := Lib.hid (HSTOP.out (.inl hm2))
      clear hm2
      refine wp_region_quiet_below (by kernel_rfl) (by kernel_rfl) ?_
      repeat (go_big_quiet_step (fail))
      refine wpQuiet_nil ?_
      first | (rintro _ ⟨⟨dq, osq⟩, rfl⟩) | (rintro ⟨dq, osq⟩)
      have hb := below_regrown W5 dq osq
      obtain ⟨W6, hW⟩ : ∃ ww, ww = grow (redrawn W5 dq) osq := ⟨_, rfl⟩
      rw [← hW] at hb ⊢
      clear hW
      have HD6 := Lib.hid (HD5.out.below hb)
      have HN6 := Lib.hid (vec_step HN5.out hb)
      clear hb r2 r3 HD5 HN5
      clear W5
      clear d1
      go_wp2_with fail
      first | go_ret | go_end0
      exact ⟨by first | rfl | trivial, _, by rw [HR.out, HS1.out]; exact HD6.out⟩
    · have d1 : decide ((m : Int) ≤ 2) = false := decide_eq_false (by omega)
      by_cases hmo : mo < (st1 : Int)
      · have d2 : decide (mo < (st1 : Int)) = true := decide_eq_true hmo
        have HR := Lib.hid (HSTOP.out (.inr hmo))
        clear hmo hm2
        refine wp_region_quiet_below (by kernel_rfl) (by kernel_rfl) ?_
        repeat (go_big_quiet_step (fail))
        refine wpQuiet_nil ?_
        first | (rintro _ ⟨⟨dq, osq⟩, rfl⟩) | (rintro ⟨dq, osq⟩)
        have hb := below_regrown W5 dq osq
        obtain ⟨W6, hW⟩ : ∃ ww, ww = grow (redrawn W5 dq) osq := ⟨_, rfl⟩
        rw [← hW] at hb ⊢
        clear hW
        have HD6 := Lib.hid (HD5.out.below hb)
        have HN6 := Lib.hid (vec_step HN5.out hb)
        clear hb r2 r3 HD5 HN5
        clear W5
        clear d1 d2
        go_wp2_with fail
        first | go_ret | go_end0
        exact ⟨by first | rfl | trivial, _, by rw [HR.out, HS1.out]; exact HD6.out⟩
      · have d2 : decide (mo < (st1 : Int)) = false := decide_eq_false hmo
        have HR := Lib.hid (HGO.out (by omega))
        have HM2 := Lib.hid hm2
        clear hmo hm2
        refine wp_region_quiet_below (by kernel_rfl) (by kernel_rfl) ?_
        repeat (go_big_quiet_step (fail))
        refine wpQuiet_nil ?_
        first | (rintro _ ⟨⟨dq, osq⟩, rfl⟩) | (rintro ⟨dq, osq⟩)
        have hb := below_regrown W5 dq osq
        obtain ⟨W6, hW⟩ : ∃ ww, ww = grow (redrawn W5 dq) osq := ⟨_, rfl⟩
        rw [← hW] at hb ⊢
        clear hW
        have HD6 := Lib.hid (HD5.out.below hb)
        have HN6 := Lib.hid (vec_step HN5.out hb)
        clear hb r2 r3 HD5 HN5
        clear W5
        clear d1 d2
        go_upto_region 9 with (fail)
        have y0 := cell_row HN6.out 0 _ rfl
        have y1 := cell_row HN6.out 1 _ rfl
        have y2 := cell_row HN6.out 2 _ rfl
        have y3 := cell_row HN6.out 3 _ rfl
        have y4 := cell_row HN6.out 4 _ rfl
        have y5 := cell_row HN6.out 5 _ rfl
        have y6 := cell_row HN6.out 6 _ rfl
        have y7 := cell_row HN6.out 7 _ rfl
        have y8 := cell_row HN6.out 8 _ rfl
        have y9 := cell_row HN6.out 9 _ rfl
        go_wp2_with fail
        refine (sort_any W6 gM gT vb _ v0 v1 v2 _ mo _ blk cap bs s.l base HD6.out.mt HOK.out HLK.out HBS.out (by have := HNN.out; omega) bx HBX.out f t hft HNN.out.2.2.1).mono ?_
        rintro e W7 ⟨rfl, ho, hk⟩
        have HD7 := Lib.hid (show Bd w0 W7 base gM gT vb v0 v1 v2 mo blk cap bs (.slice a9 N1 c9) (s2 bs f t d s) by
          rw [HS2.out]
          exact HD6.out.sorted hk ho (putSeg_length _ _ _ (by rw [List.length_mergeSort]; have h1 := segL_length s.l f t HNN.out.2.2.1; have h2 := h1; unfold segL at h2; have := HNN.out; omega)))
        clear ho hk HD6 HN6 y0 y1 y2 y3 y4 y5 y6 y7 y8 y9
        clear W6
        have HMB := Lib.hid (show m ≤ 1048576 ∧ t ≤ 1048576 ∧ f + m = t ∧ d ≤ 1073741824 from by have h1 := HNN.out.2.2.1; have h2 := HNN.out.2.2.2.1; have h3 := HNN.out.2.2.2.2.2.2.1; have h4 := HME.out; omega)
        obtain ⟨k2, hk2⟩ : ∃ x, x = m / 2 := ⟨_, rfl⟩
        obtain ⟨hf, hhf⟩ : ∃ x, x = f + (t - f) / 2 := ⟨_, rfl⟩
        have hfe : hf = f + k2 := by rw [hhf, hk2, HME.out]
        have HLB := half_le f t m k2 hf hfe hk2 HMB.out.2.2.1 HMB.out.2.1
        have i4 := wrap_half m k2 hk2 HLB.2
        have i5 := wrap_sum f k2 hf hfe HLB.1
        clear HLB
        obtain ⟨d1, hd1⟩ : ∃ x, x = d + 1 := ⟨_, rfl⟩
        have i6 := wrap_more d d1 hd1 (Nat.le_trans HMB.out.2.2.2 (by decide))
        have HHF := Lib.hid (And.intro hhf (And.intro hfe (And.intro hk2 hd1)))
        clear hk2 hhf hfe hd1
        go_upto_region 11 with (fail)
        rw [i5]
        clear i4 i5
        have HGT := Lib.hid (show ¬ t - f ≤ 2 by rw [← HME.out]; exact HM2.out)
        go_wp2_with fail
        refine (IH.out f hf d1 W7 _ (s2 bs f t d s) HD7.out (by rw [HHF.out.1, HHF.out.2.2.2]; exact side_first HSIDE.out HGT.out)).mono ?_
        rintro e W8 ⟨rfl, vn8, hd8⟩
        have HD8 := Lib.hid (show Bd w0 W8 base gM gT vb v0 v1 v2 mo blk cap bs vn8 (s3 bs mo n f t d s) by rw [HHF.out.1, HHF.out.2.2.2] at hd8; exact hd8)
        clear hd8 HD7
        clear W7
        go_wp2_with fail
        refine (IH.out hf t d1 W8 _ (s3 bs mo n f t d s) HD8.out (by rw [HHF.out.1, HHF.out.2.2.2]; exact side_second HSIDE.out HGT.out)).mono ?_
        rintro e W9 ⟨rfl, vn9, hd9⟩
        have HD9 := Lib.hid (show Bd w0 W9 base gM gT vb v0 v1 v2 mo blk cap bs vn9 (s4 bs mo n f t d s) by rw [HHF.out.1, HHF.out.2.2.2] at hd9; exact hd9)
        clear hd9 HD8
        clear W8
        obtain ⟨hk1, hk2⟩ := kids_at (mo := mo) HSIDE.out HGT.out
        obtain ⟨g, cp, cur, hv9, hg9, hcp, hcp2⟩ := HD9.out.ns.form (by omega)
        have HK := Lib.hid (show ∃ h : N < (s4 bs mo n f t d s).ns.length, (s4 bs mo n f t d s).ns[N] = ⟨bx, f, t, -1, -1⟩ by rw [HBE.out]; obtain rfl := HNL.out; exact ⟨hk1, hk2⟩)
        obtain ⟨n2, hn2⟩ : ∃ x, x = (s2 bs f t d s).ns.length := ⟨_, rfl⟩
        obtain ⟨n3, hn3⟩ : ∃ x, x = (s3 bs mo n f t d s).ns.length := ⟨_, rfl⟩
        obtain ⟨LL, hLL⟩ : ∃ x, x = (s4 bs mo n f t d s).ns.length := ⟨_, rfl⟩
        rw [← hn2, ← hn3]
        rw [← hLL] at hv9 hcp
        have hNL : N < LL := by rw [hLL]; exact HK.out.1
        have HN2 := Lib.hid (And.intro hn2 (And.intro hn3 hLL))
        clear hn2 hn3 hLL hk1 hk2
        subst hv9
        have c4 := cell_row HD9.out.mt.t 4 _ rfl
        have t1 := frozen_of_row _ _ (N * 10 + 8) _ _ hg9
        have t2 := frozen_of_row _ _ (N * 10 + 9) _ _ hg9
        have q1 := node_cell HD9.out.ns N HK.out.1 8 (.int .i64 (-1)) (by rw [HK.out.2]; rfl)
        have q2 := node_cell HD9.out.ns N HK.out.1 9 (.int .i64 (-1)) (by rw [HK.out.2]; rfl)
        clear hg9
        go_upto_region 13 with (fail)
        go_region
        have HE := Lib.hid ((HD9.out.kids N HK.out.1 bx f t (-1) (-1) (n2 : Int) (n3 : Int) HK.out.2).below (drew_below _))
        have HRR := Lib.hid (show R = ⟨(s4 bs mo n f t d s).ns.set N ⟨bx, f, t, (n2 : Int), (n3 : Int)⟩, (s4 bs mo n f t d s).l, (s4 bs mo n f t d s).dp, (s4 bs mo n f t d s).st⟩ by
          rw [HR.out, HN2.out.2.1, HN2.out.1]
          have : (s2 bs f t d s).ns.length = N + 1 := by rw [HS2.out, HNL.out]; simp
          rw [this])
        obtain ⟨WW, hW⟩ : ∃ ww, ww = ((W9.setCell ⟨g, N * 10 + 8, none⟩ (.int .i64 (n2 : Int))).setCell ⟨g, N * 10 + 9, none⟩ (.int .i64 (n3 : Int))).drew := ⟨_, rfl⟩
        rw [← hW] at HE ⊢
        clear hW q1 q2 t1 t2 c4 HD9
        go_wp2_with fail
        first | go_ret | go_end0
        exact ⟨by first | rfl | trivial, _, by rw [HRR.out]; exact HE.out⟩

end Go.Proofs.Ytdaokkgenfpmhaa.BvhX
