/- The walk of layer 14's Build. -/
import Derived.Test.YtdaokkgenfpmhaaBvhD
set_option linter.unusedVariables false
set_option linter.unusedSimpArgs false
namespace Go.Proofs.Ytdaokkgenfpmhaa.BvhE
open Go Go.RowKit Go.Sort Go.Lib FixM Base Num FixW Qb Qt Qa Qf Qr Qz VecW VecV VecU LightQ LightC MeshM Rec MeshA MeshC MeshD MeshP HitM HitX BvhM BvhA BvhB BvhS BvhC BvhD BvhU BvhW BvhX Qx HitS
/-- what Build leaves -/
def cntM (m : Msh) : Nat := m.ts.length + m.bs.length
def flatM (m : Msh) : List Nd := if cntM m = 0 then [] else flatN m (wholeT m) 0 0
def ordM (m : Msh) : List Nat := if cntM m = 0 then [] else leavesT (wholeT m)
def deepM (m : Msh) : Nat := if cntM m = 0 then 0 else deepT (wholeT m)
def stepsM (m : Msh) : Nat := if cntM m = 0 then 0 else stepsT (wholeT m)
structure TreeAt (w : World) (g : Nat) (m : Msh) : Prop where
  is_ : ∃ v0 v1 v2 vn vo, w.heap[g]? = some (.cells #[.bool true, v0, v1, v2, vn, vo, .int .i64 (deepM m : Int)] 35) ∧ IsMesh w (.agg #[v0, v1, v2]) m ∧ Recs 10 encN w vn (flatM m) ∧ Nums .i64 9223372036854775808 w vo (ordM m)
def BuildTo (w : World) (m : Msh) (steps : Int) (e : Ending) (w' : World) : Prop :=
  Below w.heap.size w w' ∧ (if checkF m ≠ 0 then e = .returned (.tuple #[.pointer none, .int .i64 0, .int .i64 (checkF m)])
    else if steps < (stepsM m : Int) then e = .returned (.tuple #[.pointer none, .int .i64 0, .int .i64 15])
    else ∃ g, e = .returned (.tuple #[.pointer (some ⟨g, 0, none⟩), .int .i64 (stepsM m : Int), .int .i64 0]) ∧ TreeAt w' g m ∧ w.heap.size ≤ g)
theorem len_of {m : Msh} (h : checkF m = 0) : m.ps.length ≤ 1000000 ∧ m.ts.length ≤ 1000000 ∧ m.bs.length ≤ 1000000 := by
  unfold checkF at h
  by_cases h1 : tooF m
  · rw [if_pos h1] at h; omega
  · unfold tooF at h1; omega
theorem cnt_of {m : Msh} (h : checkF m = 0) : m.ts.length + m.bs.length ≤ 4096 := by
  unfold checkF at h
  by_cases h1 : tooF m
  · rw [if_pos h1] at h; omega
  · unfold tooF at h1; omega
theorem boxes_next (m : Msh) (k : Nat) (h : k < m.ts.length + m.bs.length) : (boxesM m).take (k + 1) = (boxesM m).take k ++ [boxF m (k : Int)] := by
  rw [List.take_add_one]
  congr 1
  unfold boxesM
  simp [h]
theorem boxes_all (m : Msh) : (boxesM m).take (m.ts.length + m.bs.length) = boxesM m := List.take_of_length_le (by simp [boxesM])
theorem _root_.Go.Proofs.Ytdaokkgenfpmhaa.Base.Own.slice_len {k : IntKind} {N E base : Nat} {w : World} {a : Option Addr} {n c : Nat} {l : List Nat} (h : Own k N E base w (.slice a n c) l) : n = l.length := by
  obtain ⟨a', c', e, -⟩ := h.nums.shape
  simp only [Value.slice.injEq] at e
  exact e.2.1
theorem seg_all (n : Nat) : segL (List.range n) 0 n = List.range n := by unfold segL; rw [List.drop_zero, Nat.sub_zero]; exact List.take_of_length_le (by simp)
theorem put_all (l s : List Nat) (h : s.length = l.length) : putSeg l 0 s = s := by unfold putSeg; rw [List.take_zero, List.nil_append, Nat.zero_add, h, List.drop_length, List.append_nil]
def startS (m : Msh) : Sta := ⟨[], List.range (cntM m), 0, 0⟩
theorem added (m : Msh) (hc : cntM m ≠ 0) (mo : Int) :
    (¬ mo < (stepsM m : Int) → addP (boxesM m) mo (cntM m) 0 (cntM m) 1 (startS m) = ⟨flatM m, ordM m, deepM m, stepsM m⟩) ∧ (mo < (stepsM m : Int) → mo < (((addP (boxesM m) mo (cntM m) 0 (cntM m) 1 (startS m)).st : Nat) : Int)) := by
  have h := add_tree m mo (cntM m) 0 (cntM m) 1 (startS m) (Nat.le_refl _) (by omega) (by show _ ≤ (List.range _).length; simp)
  have e : segL (startS m).l 0 (cntM m) = allL m := seg_all _
  rw [e] at h
  have eT : treeF m (cntM m) (allL m) = wholeT m := rfl
  rw [eT] at h
  have e1 : (startS m).ns = [] := rfl
  have e2 : (startS m).st = 0 := rfl
  have e3 : (startS m).dp = 0 := rfl
  have e4 : (startS m).l = List.range (cntM m) := rfl
  have hd := deep_pos (wholeT m)
  have hg := whole_good m hc
  have hl : (leavesT (wholeT m)).length = cntM m := by rw [leaves_length _ hg, whole_l]; simp [allL]; rfl
  rw [e1, e2, e3, e4, put_all _ _ (by rw [hl]; simp), Nat.zero_add, List.nil_append, show max 0 (1 + deepT (wholeT m) - 1) = deepT (wholeT m) by omega] at h
  unfold flatM ordM deepM stepsM
  rw [if_neg hc, if_neg hc, if_neg hc, if_neg hc]
  exact ⟨fun hs => h.1 (by omega), h.2⟩
theorem tree_done {WT wr : World} {gM gT : Nat} {vb u0 u1 u2 vn : Value} {mo : Int} {blk cap : Nat} {m : Msh} {s : Sta} (h : Bd WT wr gT gM gT vb u0 u1 u2 mo blk cap (boxesM m) vn s) (hs : s = ⟨flatM m, ordM m, deepM m, stepsM m⟩) (hm : IsMesh WT (.agg #[u0, u1, u2]) m) (hg : gT = WT.heap.size) : TreeAt wr gT m := by
  subst hs
  refine ⟨u0, u1, u2, vn, _, h.mt.t, hm.below (by rw [← hg]; exact h.hb), h.ns.recs lenN, h.mt.o.nums⟩
theorem tree_none {WT wr : World} {gM gT : Nat} {vb vo u0 u1 u2 : Value} {mo : Int} {m : Msh} {bx : List Bx} (h : Lp WT wr gT gM gT vb vo u0 u1 u2 mo bx []) (hc : cntM m = 0) (hm : IsMesh WT (.agg #[u0, u1, u2]) m) (hg : gT = WT.heap.size) : TreeAt wr gT m := by
  refine ⟨u0, u1, u2, .slice none 0 0, vo, ?_, hm.below (by rw [← hg]; exact h.hb), ?_, ?_⟩
  · have := h.t; unfold deepM; rw [if_pos hc]; exact this
  · unfold flatM; rw [if_pos hc]; exact Recs.nil _
  · unfold ordM; rw [if_pos hc]; exact h.o.nums
theorem start_bd {WT wr : World} {gM gT : Nat} {vb u0 u1 u2 : Value} {mo : Int} {blk cap : Nat} {m : Msh} (h : Lp WT wr gT gM gT vb (.slice (some ⟨blk, 0, none⟩) (cntM m) cap) u0 u1 u2 mo (boxesM m) (List.range (cntM m))) : Bd WT wr gT gM gT vb u0 u1 u2 mo blk cap (boxesM m) (.slice none 0 0) (startS m) := by
  have hl : (startS m).l.length = cntM m := by show (List.range _).length = _; simp
  refine ⟨⟨h.m, by rw [hl]; exact h.t, h.b.recs lenB, by rw [hl]; exact h.o, fun e => (h.no blk rfl).1 e.symm, fun e => (h.no blk rfl).2 e.symm, fun e => (h.nb blk e).2.2 rfl⟩, RecsOwn.nil _ _ _, h.hb, h.low, fun b e => by simp [Value.ownBlock] at e, ⟨fun e => (h.nb gM e).1 rfl, fun e => (h.nb gT e).2.1 rfl⟩, fun b e => (h.b.lt b e).2⟩
theorem start_side (m : Msh) (hc : cntM m ≠ 0) (hl : cntM m ≤ 4096) : Side (boxesM m) (cntM m) 0 (cntM m) 1 (startS m) := by
  have e1 : (startS m).ns = [] := rfl
  have e2 : (startS m).st = 0 := rfl
  have e3 : (startS m).dp = 0 := rfl
  have e4 : (startS m).l = List.range (cntM m) := rfl
  have hq : cntM m * cntM m ≤ 4096 * 4096 := Nat.mul_le_mul hl hl
  unfold Side
  rw [e1, e2, e3, e4, List.length_range, Nat.sub_zero]
  refine ⟨fun i hi => ?_, Nat.le_refl _, by omega, Nat.le_refl _, by omega, by simp; omega, ?_, by omega, by omega⟩
  · rw [List.mem_range] at hi; unfold boxesM; simp; exact hi
  · generalize cntM m * cntM m = X at *; omega
theorem ok_boxes (m : Msh) (ok : m.ok) : ∀ b ∈ boxesM m, HitM.Bx.ok b := by
  intro b hb
  unfold boxesM at hb
  obtain ⟨i, -, rfl⟩ := List.mem_map.1 hb
  exact ok_box m ok _
theorem in_small (k : Nat) (h : k < 4096) : In (k : Int) := by unfold In; omega
theorem built_tree (a0 : Option Addr) (n0 c0 : Nat) (a1 : Option Addr) (n1 c1 : Nat) (a2 : Option Addr) (n2 c2 : Nat) : Try.prog.built 35 [(0, .bool true), (1, .agg #[.slice a0 n0 c0, .slice a1 n1 c1, .slice a2 n2 c2])] = some (trow (.slice a0 n0 c0) (.slice a1 n1 c1) (.slice a2 n2 c2)) := by kernel_rfl
theorem built_mesh (a0 : Option Addr) (n0 c0 : Nat) (a1 : Option Addr) (n1 c1 : Nat) (a2 : Option Addr) (n2 c2 : Nat) : Try.prog.built 31 [(0, .slice a0 n0 c0), (1, .slice a1 n1 c1), (2, .slice a2 n2 c2)] = some #[.slice a0 n0 c0, .slice a1 n1 c1, .slice a2 n2 c2] := by kernel_rfl
set_option maxRecDepth 100000 in
set_option maxHeartbeats 16000000 in
theorem build_any (v : Value) (m : Msh) (w : World) (hm : IsMesh w v m) (ok : m.ok) (steps : Int) : Calls Try.prog 10 #[v, .int .i64 steps] w (BuildTo w m steps) := by
  obtain ⟨a0, c0, a1, c1, a2, c2, rfl, -⟩ := hm.open_
  have HMO := Lib.hid (And.intro hm ok)
  have hA := heap_alloc_new w (.cells #[.slice a0 m.ps.length c0, .slice a1 m.ts.length c1, .slice a2 m.bs.length c2] 31)
  have hB := ext_alloc w (.cells #[.slice a0 m.ps.length c0, .slice a1 m.ts.length c1, .slice a2 m.bs.length c2] 31)
  obtain ⟨n0, hn0⟩ : ∃ x, x = m.ps.length := ⟨_, rfl⟩
  obtain ⟨n1, hn1⟩ : ∃ x, x = m.ts.length := ⟨_, rfl⟩
  obtain ⟨n2, hn2⟩ : ∃ x, x = m.bs.length := ⟨_, rfl⟩
  rw [← hn0, ← hn1, ← hn2] at hA hB HMO ⊢
  have HNS := Lib.hid (And.intro hn0 (And.intro hn1 hn2))
  clear hn0 hn1 hn2 hm ok
  obtain ⟨W, hW⟩ : ∃ ww, ww = w.alloc (.cells #[.slice a0 n0 c0, .slice a1 n1 c1, .slice a2 n2 c2] 31) := ⟨_, rfl⟩
  rw [← hW] at hA hB
  have HP := Lib.hid hA
  have HB := Lib.hid hB
  have HME := Lib.hid (HMO.out.1.below hB)
  have CC := Lib.hid (check_any _ m W HME.out)
  have HWW := Lib.hid hW
  have HTO := Lib.hid (show BuildTo w m steps = fun e w' => Below w.heap.size w w' ∧ (if checkF m ≠ 0 then e = .returned (.tuple #[.pointer none, .int .i64 0, .int .i64 (checkF m)]) else if steps < (stepsM m : Int) then e = .returned (.tuple #[.pointer none, .int .i64 0, .int .i64 15]) else ∃ g, e = .returned (.tuple #[.pointer (some ⟨g, 0, none⟩), .int .i64 (stepsM m : Int), .int .i64 0]) ∧ TreeAt w' g m ∧ w.heap.size ≤ g) from rfl)
  obtain ⟨QQ, hQQ⟩ : ∃ Q, Q = BuildTo w m steps := ⟨_, rfl⟩
  obtain ⟨cd, hcd⟩ : ∃ c, c = checkF m := ⟨_, rfl⟩
  rw [← hQQ] at HTO ⊢
  rw [← hcd] at HTO CC
  have HCD := Lib.hid hcd
  clear hA hB hW hQQ hcd
  go_enter Try.func10, Try.ntmps10
  go_upto_region 1 with (fail)
  rw [← HWW.out]
  clear HWW
  have p0 := cell_row HP.out 0 _ rfl
  have p1 := cell_row HP.out 1 _ rfl
  have p2 := cell_row HP.out 2 _ rfl
  go_wp2_with fail
  refine CC.out.mono ?_
  rintro e W1 ⟨rfl, hb⟩
  have HP1 := Lib.hid (vec_step HP.out hb)
  have HME1 := Lib.hid (HME.out.below hb)
  have HB1 := Lib.hid (HB.out.trans (hb.mono HB.out.size))
  have HGP := Lib.hid (Base.lt_of_heap HP1.out)
  clear hb p0 p1 p2 CC HP HB HME
  clear W
  generalize hgP : w.heap.size = gP at HP1 HGP
  by_cases hc : cd = 0
  · subst hc
    have HLEN := Lib.hid (len_of HCD.out.symm)
    obtain ⟨_, _, _, eM, hr0, hr1, hr2⟩ := HME1.out.ex
    simp only [Value.agg.injEq, Array.mk.injEq, List.cons.injEq, and_true] at eM
    obtain ⟨rfl, rfl, rfl⟩ := eM
    have HR0 := Lib.hid hr0
    have HR1 := Lib.hid hr1
    have HR2 := Lib.hid hr2
    clear hr0 hr1 hr2
    go_upto_region 4 with (fail)
    refine wp_region_rel 84 (phiB W1 gP (.slice a0 n0 c0) (.slice a1 n1 c1) (.slice a2 n2 c2) m) (by kernel_rfl) rfl (by kernel_rfl) (phiB_mono _ _ _ _ _ _) ?hst ?_
    case hst =>
      refine ⟨?q0, ?q1, ?q2, ?q3, ?q4, ?q5, ?q6, ?q7, ?q8, ?q9, ?q10, ?q11, ?q12, trivial⟩
      case q0 =>
        intro b w1 hb hd hk
        have e2 : b.eval (.tmp 2) = .pointer (some ⟨gP, 0, none⟩) := by
          have := hk 2 (nodst (by kernel_rfl))
          simp [Act.eval, Array.getD_eq_getD_getElem?, this]
        rw [fa0_run rfl gP e2 w1]
        exact ⟨rfl, Below.refl _ _⟩
      case q1 =>
        intro b w1 hb hd hk
        have e2 : b.eval (.tmp 16) = .pointer (some ⟨gP, 0, none⟩) := hd 16 (by decide) 0 rfl
        rw [ldv_run rfl gP 0 e2 ((hb.cell (p := ⟨gP, 0, none⟩) HGP.out).trans (cell_row HP1.out 0 _ rfl))]
        exact ⟨rfl, Below.refl _ _⟩
      case q2 =>
        intro b w1 hb hd hk
        have e2 : b.eval (.tmp 17) = .slice a0 n0 c0 := hd 17 (by decide) 1 rfl
        rw [call_run (f := 19) (fn := Try.f19) rfl rfl Try.func19 rfl rfl w1]
        simp only [List.map_toArray, List.map_cons, List.map_nil, e2]
        show Calls Try.prog _ _ w1 _
        refine (clone_vec w1 _ m.ps (HR0.out.below hb (Nat.le_refl _)) HLEN.out.1).mono ?_
        rintro e w2 ⟨a, n, cap, rfl, hr, hb2⟩
        exact ⟨_, rfl, ⟨a, n, cap, rfl, hr⟩, hb2⟩
      case q3 =>
        intro b w1 hb hd hk
        have e2 : b.eval (.tmp 2) = .pointer (some ⟨gP, 0, none⟩) := by
          have := hk 2 (nodst (by kernel_rfl))
          simp [Act.eval, Array.getD_eq_getD_getElem?, this]
        rw [fa1_run rfl gP e2 w1]
        exact ⟨rfl, Below.refl _ _⟩
      case q4 =>
        intro b w1 hb hd hk
        have e2 : b.eval (.tmp 19) = .pointer (some ⟨gP, 1, none⟩) := hd 19 (by decide) 3 rfl
        rw [ldt_run rfl gP 1 e2 ((hb.cell (p := ⟨gP, 1, none⟩) HGP.out).trans (cell_row HP1.out 1 _ rfl))]
        exact ⟨rfl, Below.refl _ _⟩
      case q5 =>
        intro b w1 hb hd hk
        have e2 : b.eval (.tmp 20) = .slice a1 n1 c1 := hd 20 (by decide) 4 rfl
        rw [call_run (f := 20) (fn := Try.f20) rfl rfl Try.func20 rfl rfl w1]
        simp only [List.map_toArray, List.map_cons, List.map_nil, e2]
        show Calls Try.prog _ _ w1 _
        refine (clone_tri w1 _ m.ts (HR1.out.below hb (Nat.le_refl _)) HLEN.out.2.1).mono ?_
        rintro e w2 ⟨a, n, cap, rfl, hr, hb2⟩
        exact ⟨_, rfl, ⟨a, n, cap, rfl, hr⟩, hb2⟩
      case q6 =>
        intro b w1 hb hd hk
        have e2 : b.eval (.tmp 2) = .pointer (some ⟨gP, 0, none⟩) := by
          have := hk 2 (nodst (by kernel_rfl))
          simp [Act.eval, Array.getD_eq_getD_getElem?, this]
        rw [fa2_run rfl gP e2 w1]
        exact ⟨rfl, Below.refl _ _⟩
      case q7 =>
        intro b w1 hb hd hk
        have e2 : b.eval (.tmp 22) = .pointer (some ⟨gP, 2, none⟩) := hd 22 (by decide) 6 rfl
        rw [ldb_run rfl gP 2 e2 ((hb.cell (p := ⟨gP, 2, none⟩) HGP.out).trans (cell_row HP1.out 2 _ rfl))]
        exact ⟨rfl, Below.refl _ _⟩
      case q8 =>
        intro b w1 hb hd hk
        have e2 : b.eval (.tmp 23) = .slice a2 n2 c2 := hd 23 (by decide) 7 rfl
        rw [call_run (f := 21) (fn := Try.f21) rfl rfl Try.func21 rfl rfl w1]
        simp only [List.map_toArray, List.map_cons, List.map_nil, e2]
        show Calls Try.prog _ _ w1 _
        refine (clone_ball w1 _ m.bs (HR2.out.below hb (Nat.le_refl _)) HLEN.out.2.2).mono ?_
        rintro e w2 ⟨a, n, cap, rfl, hr, hb2⟩
        exact ⟨_, rfl, ⟨a, n, cap, rfl, hr⟩, hb2⟩
      case q9 =>
        intro b w1 hb hd hk
        obtain ⟨x0, y0, z0, e0, r0⟩ := hd 18 (by decide) 2 rfl
        obtain ⟨x1, y1, z1, e1, r1⟩ := hd 21 (by decide) 5 rfl
        obtain ⟨x2, y2, z2, e2, r2⟩ := hd 24 (by decide) 8 rfl
        rw [build_run rfl (r := #[.slice x0 y0 z0, .slice x1 y1 z1, .slice x2 y2 z2]) (by simp only [List.map_toArray, List.map_cons, List.map_nil, e0, e1, e2]; exact built_mesh _ _ _ _ _ _ _ _ _) w1]
        rw [e0] at r0
        rw [e1] at r1
        rw [e2] at r2
        exact ⟨⟨_, _, _, _, _, _, _, _, _, rfl, ⟨⟨_, _, _, rfl, r0, r1, r2⟩⟩⟩, Below.refl _ _⟩
      case q10 =>
        intro b w1 hb hd hk
        obtain ⟨x0, y0, z0, x1, y1, z1, x2, y2, z2, e0, r0⟩ := hd 25 (by decide) 9 rfl
        rw [build_run rfl (r := trow (.slice x0 y0 z0) (.slice x1 y1 z1) (.slice x2 y2 z2)) (by simp only [List.map_toArray, List.map_cons, List.map_nil, e0, ev_const]; exact built_tree _ _ _ _ _ _ _ _ _) w1]
        rw [e0] at r0
        exact ⟨⟨_, _, _, _, _, _, _, _, _, rfl, r0⟩, Below.refl _ _⟩
      case q11 =>
        intro b w1 hb hd hk
        obtain ⟨x0, y0, z0, x1, y1, z1, x2, y2, z2, e0, r0⟩ := hd 26 (by decide) 10 rfl
        rw [box_run2 rfl (by rw [e0]; exact box_run w1 _ _ _ _ _ _ _ _ _)]
        exact ⟨⟨w1, _, _, _, hb, r0, rfl, Below.refl _ _⟩, ext_alloc _ _⟩
      case q12 =>
        intro b w1 hb hd hk
        have e0 : TreeNew W1 m w1 (b.eval (.tmp 27)) := hd 27 (by decide) 11 rfl
        rw [assign_run rfl w1]
        exact ⟨e0, Below.refl _ _⟩
    intro V W2 hb2 hV
    have h12 : TreeNew W1 m W2 (V 12) := hV 12 (by decide)
    clear hV
    obtain ⟨WT, u0, u1, u2, hbT, hmT, e12, hbN⟩ := h12
    have HT2 := Lib.hid (show W2.heap[WT.heap.size]? = some (.cells (trow u0 u1 u2) 35) from (hbN.block _ (Nat.lt_succ_self _)).trans (heap_alloc_new _ _))
    have hbN2 : Below (WT.alloc (.cells (trow u0 u1 u2) 35)).heap.size (WT.alloc (.cells (trow u0 u1 u2) 35)) W2 := hbN.mono (by simp)
    have HMT := Lib.hid (hmT.below (ext_alloc WT (.cells (trow u0 u1 u2) 35)))
    have HMT2 := Lib.hid (HMT.out.below hbN2)
    have HBT := Lib.hid (show Below WT.heap.size WT W2 from (ext_alloc WT _).trans (hbN.mono (Nat.le_succ _)))
    have HBW := Lib.hid (show Below w.heap.size w WT from HB1.out.trans (hbT.mono HB1.out.size))
    have HPT := Lib.hid (vec_step HP1.out hbT)
    have HMI := Lib.hid (HME1.out.below hbT)
    have HMW := Lib.hid hmT
    have HTL := Lib.hid (show gP < WT.heap.size from Base.lt_of_heap HPT.out)
    simp only [putsL, Act.put, List.setIfInBounds_toArray, List.set_cons_succ, List.set_cons_zero, Nat.reduceAdd, List.drop_succ_cons, List.drop_zero, List.take_succ_cons, List.take_zero, e12]
    clear hb2 hbT hmT e12 hbN hbN2 HMT HP1 HME1 HB1 HGP HR0 HR1 HR2
    clear W1
    obtain ⟨gT, hgT⟩ : ∃ g, g = WT.heap.size := ⟨_, rfl⟩
    rw [← hgT] at HT2 HBT HTL ⊢
    have HGT := Lib.hid hgT
    clear hgT
    have hx := ext_alloc W2 (.cells #[.pointer (some ⟨gT, 0, none⟩), .slice none 0 0, .int .i64 0, .int .i64 steps] 75)
    have hn := heap_alloc_new W2 (.cells #[.pointer (some ⟨gT, 0, none⟩), .slice none 0 0, .int .i64 0, .int .i64 steps] 75)
    have HTT := Lib.hid (Base.lt_of_heap HT2.out)
    have HL3 := Lib.hid (show Lp WT (W2.alloc (.cells #[.pointer (some ⟨gT, 0, none⟩), .slice none 0 0, .int .i64 0, .int .i64 steps] 75)) gT W2.heap.size gT (.slice none 0 0) (.slice none 0 0) u0 u1 u2 steps [] [] from
      ⟨hn, vec_step HT2.out hx, RecsOwn.nil _ _ _, Own.nil _ _ _ _ _, HBT.out.trans (hx.mono (by rw [HGT.out]; exact HBT.out.size)), ⟨Nat.le_of_lt HTT.out, Nat.le_refl _, by have := HTT.out; omega, Nat.le_trans (Nat.le_of_lt HTT.out) hx.size⟩, fun g e => by simp [Value.ownBlock] at e, fun g e => by simp [Value.ownBlock] at e⟩)
    go_upto_region 6 with (fail)
    obtain ⟨W3, hW⟩ : ∃ ww, ww = W2.alloc (.cells #[.pointer (some ⟨gT, 0, none⟩), .slice none 0 0, .int .i64 0, .int .i64 steps] 75) := ⟨_, rfl⟩
    rw [← hW] at HL3 ⊢
    clear hW hx hn
    generalize W2.heap.size = gM at HL3 ⊢
    have HM3 := Lib.hid (show IsMesh W3 (.agg #[.slice a0 n0 c0, .slice a1 n1 c1, .slice a2 n2 c2]) m from HMO.out.1.below ((HBW.out.trans (HL3.out.hb.mono (by rw [HGT.out]; exact HBW.out.size)))))
    have HP3 := Lib.hid (show W3.heap[gP]? = some (.cells #[.slice a0 n0 c0, .slice a1 n1 c1, .slice a2 n2 c2] 31) from (HL3.out.hb.block gP HTL.out).trans HPT.out)
    have CN := Lib.hid (count_any _ m W3 HM3.out (by have := HLEN.out; omega))
    obtain ⟨cnt, hcnt⟩ : ∃ c, c = m.ts.length + m.bs.length := ⟨_, rfl⟩
    rw [← hcnt] at CN
    have hcl : cnt ≤ 4096 := by rw [hcnt]; exact cnt_of HCD.out.symm
    have HCN := Lib.hid (And.intro hcnt hcl)
    clear hcnt hcl
    have p0 := cell_row HP3.out 0 _ rfl
    have p1 := cell_row HP3.out 1 _ rfl
    have p2 := cell_row HP3.out 2 _ rfl
    go_wp2_with fail
    refine CN.out.mono ?_
    rintro e W4 ⟨rfl, hb⟩
    have HL4 := Lib.hid (HL3.out.below hb)
    clear p0 p1 p2 hb CN HL3 HM3 HP3 HT2 HMT2 HBT HTT
    clear W3 W2
    go_wp2_with fail
    go_loopg [34] cnt (fun r n wr => ∃ (k : Nat) (vb vo : Value), k + r = cnt ∧ n = .int .i64 (k : Int) ∧ Hid (Lp WT wr gT gM gT vb vo u0 u1 u2 steps ((boxesM m).take k) (List.range k)))
    case atStart => exact ⟨0, _, _, by omega, rfl, HL4⟩
    case round =>
      obtain ⟨k, vb, vo, hkr, rfl, hin⟩ := hrel
      obtain ⟨ab, cb, hvb⟩ := hin.out.b.slice_
      obtain ⟨ao, no, co, hvo⟩ := hin.out.o.slice_
      obtain ⟨nb, hnb⟩ : ∃ x, x = ((boxesM m).take k).length := ⟨_, rfl⟩
      rw [← hnb] at hvb
      have HNB := Lib.hid hnb
      clear hnb
      subst hvb hvo
      have HM5 := Lib.hid (show wr.heap[gP]? = some (.cells #[.slice a0 n0 c0, .slice a1 n1 c1, .slice a2 n2 c2] 31) from (hin.out.hb.block gP HTL.out).trans HPT.out)
      by_cases hk : k < cnt
      · have d1 : decide ((k : Int) < (cnt : Int)) = true := decide_eq_true (by omega)
        have d2 : decide (k < cnt) = true := decide_eq_true hk
        have HKK := Lib.hid (show k < 4096 by have := HCN.out.2; omega)
        have HMS := Lib.hid (show cnt - (k + 1) < gk by omega)
        have HKR := Lib.hid (show k + 1 + (cnt - (k + 1)) = cnt by omega)
        obtain ⟨bq, hbq⟩ : ∃ b, b = boxF m (k : Int) := ⟨_, rfl⟩
        have HTK := Lib.hid (show (boxesM m).take (k + 1) = (boxesM m).take k ++ [bq] by rw [hbq]; exact boxes_next m k (by rw [← HCN.out.1]; exact hk))
        have CV := Lib.hid (fun (w2 : World) (h : IsMesh w2 (.agg #[.slice a0 n0 c0, .slice a1 n1 c1, .slice a2 n2 c2]) m) => box_any _ m w2 h HMO.out.2 (by have := HLEN.out; omega) (k : Int) (in_small k HKK.out))
        rw [← hbq] at CV
        unfold boxV at CV
        clear hbq hk
        have HIN := hin
        clear hin
        have HJ := Lib.hid (fun (wa wb : World) (h : Keeps (fun k => (Value.slice ab nb cb).ownBlock = some k) wr wa) (hb : Below wa.heap.size wa wb) => h.trans (Keeps.of_ext hb (fun _ => False)) (fun _ h => h.elim))
        have HG := Lib.hid (fun (wa wb : World) (h : Keeps (fun k => (Value.slice ab nb cb).ownBlock = some k) wr wa) (_ : RecsOwn 6 encB 56 gT wa (Value.slice ab nb cb) ((boxesM m).take k)) (hg : wa.grownBy wb (Value.slice ab nb cb).ownBlock) => h.grown hg (fun k e => .inl e))
        have HBA := Lib.hid (fun (wa : World) (h : Keeps (fun k => (Value.slice ab nb cb).ownBlock = some k) wr wa) => Nat.le_trans HIN.out.low.2.2.2 h.size)
        have HB2 := Lib.hid (fun (wa : World) (h : Keeps (fun k => (Value.slice ab nb cb).ownBlock = some k) wr wa) => h.size)
        have HRM := Lib.hid (fun (wa : World) (h : Keeps (fun k => (Value.slice ab nb cb).ownBlock = some k) wr wa) => keep_cell h HIN.out.m (fun e => (HIN.out.nb gM e).1 rfl))
        have HRP := Lib.hid (fun (wa : World) (h : Keeps (fun k => (Value.slice ab nb cb).ownBlock = some k) wr wa) => keep_cell h HM5.out (fun e => by have := (HIN.out.b.lt _ e).1; have := HTL.out; omega))
        have HNM := Lib.hid (fun (wa wb : World) (h : Keeps (fun k => (Value.slice ab nb cb).ownBlock = some k) wr wa) (hb : Below wa.heap.size wa wb) => (show IsMesh wb (.agg #[.slice a0 n0 c0, .slice a1 n1 c1, .slice a2 n2 c2]) m from HMI.out.below (by rw [← HGT.out]; exact (HIN.out.hb.trans (h.below gT HIN.out.low.2.2.2 (fun k e => (HIN.out.b.lt k e).1))).trans (hb.mono (Nat.le_trans HIN.out.low.2.2.2 h.size)))))
        have HS0 := Lib.hid (show (PhD 6 encB 56 gT wr.heap.size (fun w' => Keeps (fun k => (Value.slice ab nb cb).ownBlock = some k) wr w') (fun w' => Keeps (fun k => (Value.slice ab nb cb).ownBlock = some k) wr w') (Value.slice ab nb cb) ((boxesM m).take k) bq #[.int .i64 bq.lo.x, .int .i64 bq.lo.y, .int .i64 bq.lo.z, .int .i64 bq.hi.x, .int .i64 bq.hi.y, .int .i64 bq.hi.z]) Ph.p0 wr from ⟨Keeps.refl _ _, HIN.out.b⟩)
        have HLE := Lib.hid (show (((boxesM m).take k).length + 1) * 48 ≤ 140737488355328 by rw [List.length_take]; have := HKK.out; omega)
        have HLE2 := Lib.hid (show ((boxesM m).take k).length + 1 ≤ 140737488355328 by rw [List.length_take]; have := HKK.out; omega)
        go_upto_region 9 with (fail)
        refine Qw.wp_region_writes 10 [0, 1, 2, 3, 4, 5, 6, 7] [8, 9] (PhD 6 encB 56 gT wr.heap.size (fun w' => Keeps (fun k => (Value.slice ab nb cb).ownBlock = some k) wr w') (fun w' => Keeps (fun k => (Value.slice ab nb cb).ownBlock = some k) wr w') (Value.slice ab nb cb) ((boxesM m).take k) bq #[.int .i64 bq.lo.x, .int .i64 bq.lo.y, .int .i64 bq.lo.z, .int .i64 bq.hi.x, .int .i64 bq.hi.y, .int .i64 bq.hi.z]) Ph.p0 (by kernel_rfl) (by kernel_rfl) (PhD.step HJ.out HJ.out Ph.p0 wr _ HS0.out ⟨rfl, rfl, rfl, Nat.le_refl _, fun _ _ => rfl⟩) ?_
        refine Qw.Walk.step (A := ?A1) (o := ?o1) (fun s w w2 h hb => PhD.step HJ.out HJ.out s w w2 h hb) Ph.p0 wr HS0.out ?e1 ?w1 37 ?d1 (by simp) ?h1 ?n1
        case e1 => simp only [List.getElem?_toArray, List.getElem?_cons_succ, List.getElem?_cons_zero]; exact rfl
        case w1 => exact rfl
        case d1 => exact rfl
        case h1 =>
          intro s9 w9 h9
          go_big_quiet_op
          exact rfl
        refine Qw.Walk.step (A := ?A2) (o := ?o2) (fun s w w2 h hb => PhD.step HJ.out HJ.out s w w2 h hb) Ph.p0 wr HS0.out ?e2 ?w2 38 ?d2 (by simp) ?h2 ?n2
        case e2 => simp only [List.getElem?_toArray, List.getElem?_cons_succ, List.getElem?_cons_zero]; exact rfl
        case w2 => exact rfl
        case d2 => exact rfl
        case h2 =>
          intro s9 w9 h9
          go_big_quiet_op
          exact rfl
        refine Qw.Walk.step (A := ?A3) (o := ?o3) (fun s w w2 h hb => PhD.step HJ.out HJ.out s w w2 h hb) Ph.p0 wr HS0.out ?e3 ?w3 39 ?d3 (by simp) ?h3 ?n3
        case e3 => simp only [List.getElem?_toArray, List.getElem?_cons_succ, List.getElem?_cons_zero]; exact rfl
        case w3 => exact rfl
        case d3 => exact rfl
        case h3 =>
          intro s9 w9 h9
          go_big_quiet_op
          exact rfl
        refine Qw.Walk.step (A := ?A4) (o := ?o4) (fun s w w2 h hb => PhD.step HJ.out HJ.out s w w2 h hb) Ph.p0 wr HS0.out ?e4 ?w4 40 ?d4 (by simp) ?h4 ?n4
        case e4 => simp only [List.getElem?_toArray, List.getElem?_cons_succ, List.getElem?_cons_zero]; exact rfl
        case w4 => exact rfl
        case d4 => exact rfl
        case h4 =>
          intro s9 w9 h9
          go_big_quiet_op
          exact rfl
        refine Qw.Walk.step (A := ?A5) (o := ?o5) (fun s w w2 h hb => PhD.step HJ.out HJ.out s w w2 h hb) Ph.p0 wr HS0.out ?e5 ?w5 41 ?d5 (by simp) ?h5 ?n5
        case e5 => simp only [List.getElem?_toArray, List.getElem?_cons_succ, List.getElem?_cons_zero]; exact rfl
        case w5 => exact rfl
        case d5 => exact rfl
        case h5 =>
          intro s9 w9 h9
          have hJ9 : (fun w' => Keeps (fun k => (Value.slice ab nb cb).ownBlock = some k) wr w') w9 := by cases s9 <;> exact h9.1
          have e0 := cell_all (HRM.out w9 hJ9) 1 _ rfl
          go_big_quiet_op
          exact rfl
        refine Qw.Walk.step (A := ?A6) (o := ?o6) (fun s w w2 h hb => PhD.step HJ.out HJ.out s w w2 h hb) Ph.p0 wr HS0.out ?e6 ?w6 42 ?d6 (by simp) ?h6 ?n6
        case e6 => simp only [List.getElem?_toArray, List.getElem?_cons_succ, List.getElem?_cons_zero]; exact rfl
        case w6 => exact rfl
        case d6 => exact rfl
        case h6 =>
          intro s9 w9 h9
          have hJ9 : (fun w' => Keeps (fun k => (Value.slice ab nb cb).ownBlock = some k) wr w') w9 := by cases s9 <;> exact h9.1
          have e0 := cell_all (HRP.out w9 hJ9) 0 _ rfl
          have e1 := cell_all (HRP.out w9 hJ9) 1 _ rfl
          have e2 := cell_all (HRP.out w9 hJ9) 2 _ rfl
          go_big_quiet_op
          exact rfl
        refine Qw.Walk.step (A := ?A7) (o := ?o7) (fun s w w2 h hb => PhD.step HJ.out HJ.out s w w2 h hb) Ph.p0 wr HS0.out ?e7 ?w7 43 ?d7 (by simp) ?h7 ?n7
        case e7 => simp only [List.getElem?_toArray, List.getElem?_cons_succ, List.getElem?_cons_zero]; exact rfl
        case w7 => exact rfl
        case d7 => exact rfl
        case h7 =>
          intro s9 w9 h9
          go_big_quiet_op
          exact rfl
        refine Qw.Walk.step (A := ?A8) (o := ?o8) (fun s w w2 h hb => PhD.step HJ.out HJ.out s w w2 h hb) Ph.p0 wr HS0.out ?e8 ?w8 44 ?d8 (by simp) ?h8 ?n8
        case e8 => simp only [List.getElem?_toArray, List.getElem?_cons_succ, List.getElem?_cons_zero]; exact rfl
        case w8 => exact rfl
        case d8 => exact rfl
        case h8 =>
          intro s9 w9 h9
          have hJ9 : (fun w' => Keeps (fun k => (Value.slice ab nb cb).ownBlock = some k) wr w') w9 := by cases s9 <;> exact h9.1
          have Q9 := qb (P := Try.prog) (W := w9) (fun w2 hb => CV.out w2 (HNM.out w9 w2 hJ9 hb))
          go_big_quiet_op
          apply Exists.intro
          refine ⟨fun _ => ?_, ?_⟩
          · with_reducible exact Q9 _ _
          · exact rfl
        refine Qx.Chain.app (ob := ?ob1) (oa := ?oa1) boxes_slice HJ.out HG.out HBA.out HB2.out rfl HLE.out HLE2.out ?b1 ?b2 ?b3 ?b4 ?b6 (.tmp 41) (.tmp 45) ?b7 ?b8 ?b9 ?b5
        case b1 => simp only [List.getElem?_toArray, List.getElem?_cons_succ, List.getElem?_cons_zero]; exact rfl
        case b4 => simp only [List.getElem?_toArray, List.getElem?_cons_succ, List.getElem?_cons_zero]; exact rfl
        case b2 => exact rfl
        case b6 => exact rfl
        case b7 => exact rfl
        case b8 => exact fun gs => rfl
        case b9 => exact fun gs => rfl
        case b3 => intro w9; simp [execOp, Act.eval, Act.put, go_sem]
        intro gs v9 w9 h9
        have H9 := Lib.hid h9
        clear h9
        simp only [List.drop_succ_cons, List.drop_zero, Act.put, List.setIfInBounds_toArray, List.set_cons_succ, List.set_cons_zero]
        obtain ⟨a9, c9, hv9⟩ := H9.out.2.1.slice_
        obtain ⟨N1, hN1⟩ : ∃ x, x = ((boxesM m).take k ++ [bq]).length := ⟨_, rfl⟩
        rw [← hN1] at hv9
        have HN1 := Lib.hid hN1
        clear hN1
        subst hv9
        have HM9 := Lib.hid (HRM.out _ H9.out.1)
        have HL5 := Lib.hid (HIN.out.box H9.out.1 H9.out.2.1 H9.out.2.2)
        clear HJ HG HBA HB2 HRM HRP HNM HS0 HLE HLE2 CV HIN HM5
        have r9 := cell_row HM9.out 1 _ rfl
        have t9 := frozen_of_row _ _ 1 _ _ HM9.out
        go_upto_region 10 with (fail)
        obtain ⟨W5, hW⟩ : ∃ ww, ww = w9.setCell ⟨gM, 1, none⟩ (.slice a9 N1 c9) := ⟨_, rfl⟩
        rw [← hW] at HL5 ⊢
        clear hW r9 t9 H9 HM9
        clear w9 wr
        have HL6 := Lib.hid (HL5.out.below (ext_alloc W5 (.cells #[.int .i64 (k : Int)] 3)))
        have R1 := Lib.hid (nums_one .i64 9223372036854775808 3 W5 k (by have := HKK.out; omega))
        have HA := Lib.hid (show ((List.range k).length + [k].length) * 8 ≤ 140737488355328 by rw [List.length_range]; have := HKK.out; simp; omega)
        have HA2 := Lib.hid (show (List.range k).length + [k].length ≤ 140737488355328 by rw [List.length_range]; have := HKK.out; simp; omega)
        have q5 := cell_row HL5.out.t 5 _ rfl
        go_upto_region 11 with (at_builtin; refine wpList_append_nums_at rfl (.tmp 53) (.tmp 55) 33 3 rfl .i64 9223372036854775808 8 gT ints (.slice ao no co) (List.range k) rfl HL6.out.o _ [k] rfl R1.out HA.out HA2.out HL6.out.low.2.2.2 ?_; intro v7 w7 hown7 hgr7 hv7; have HL7 := Lib.hid (HL6.out.ord hgr7 hown7 hv7); obtain ⟨a7, n7, c7, rfl⟩ := hown7.slice_; have HT7 := Lib.hid (show w7.heap[gT]? = _ from (hgr7.block gT (Base.lt_of_heap HL6.out.t) (fun e => (HL6.out.no gT e.symm).2 rfl)).trans HL6.out.t); have r9 := cell_row HT7.out 5 _ rfl; have t9 := frozen_of_row _ _ 5 _ _ HT7.out; clear hown7 hgr7 hv7)
        obtain ⟨W7, hW⟩ : ∃ ww, ww = w7.setCell ⟨gT, 5, none⟩ (.slice a7 n7 c7) := ⟨_, rfl⟩
        rw [← hW] at HL7 ⊢
        clear hW r9 t9 HL6 HL5 R1 HA HA2 q5 HT7
        have i9 : IntKind.i64.wrap ((k : Int) + 1) = ((k + 1 : Nat) : Int) := by have := HKK.out; rw [wrap_in (by omega) (by omega)]; omega
        go_wp2_with fail
        go_roundg (cnt - (k + 1))
        case measure => exact HMS.out
        case rel => exact ⟨k + 1, _, _, HKR.out, by first | rfl | go_num, by rw [HTK.out, List.range_succ]; exact HL7⟩
      · have hkk : k = cnt := by omega
        subst hkk
        have d1 : decide ((k : Int) < (k : Int)) = false := decide_eq_false (by omega)
        have d2 : decide (k < k) = false := decide_eq_false (by omega)
        have HTK := Lib.hid (show (boxesM m).take k = boxesM m by rw [HCN.out.1]; exact boxes_all m)
        have HL8 := Lib.hid hin.out
        rw [HTK.out] at HL8
        clear hin HTK HL4
        go_upto_region 12 with (fail)
        have q5 := cell_row HL8.out.t 5 _ rfl
        have q6 : no = k := by have := HL8.out.o.slice_len; simpa using this
        subst q6
        by_cases hz : no = 0
        · subst hz
          have d3 : decide ((0 : Int) < ((0 : Nat) : Int)) = false := rfl
          have HC0 := Lib.hid (show cntM m = 0 from HCN.out.1.symm)
          have HST := Lib.hid (show (stepsM m : Int) = 0 by unfold stepsM; rw [if_pos HC0.out]; rfl)
          have r2 := cell_row HL8.out.m 2 _ rfl
          have r3 := fun d os => cell_regrown r2 d os
          by_cases hs : steps < 0
          · have d4 : decide (steps < 0) = true := decide_eq_true hs
            have HF := Lib.hid (show QQ (.returned (.tuple #[.pointer none, .int .i64 0, .int .i64 15])) wr by rw [HTO.out]; exact ⟨HBW.out.trans (HL8.out.hb.mono (by rw [HGT.out]; exact HBW.out.size)), by rw [if_neg (fun h => h rfl), if_pos (by rw [HST.out]; exact hs)]⟩)
            clear hs
            go_wp2_with fail
            refine bodyPost_ret (results_tmp3 rfl _ _ _) rfl ?_
            exact HF.out
          · have d4 : decide (steps < 0) = false := decide_eq_false hs
            have HNG := Lib.hid hs
            clear hs
            go_upto_region 16 with (fail)
            refine wp_region_quiet_below (by kernel_rfl) (by kernel_rfl) ?_
            repeat (go_big_quiet_step (fail))
            refine wpQuiet_nil ?_
            first | (rintro _ ⟨⟨dq, osq⟩, rfl⟩) | (rintro ⟨dq, osq⟩)
            have hb := below_regrown wr dq osq
            obtain ⟨W9, hW⟩ : ∃ ww, ww = grow (redrawn wr dq) osq := ⟨_, rfl⟩
            rw [← hW] at hb ⊢
            clear hW
            have HL9 := Lib.hid (HL8.out.below hb)
            clear hb r3 r2
            go_wp2_with fail
            refine bodyPost_ret (results_tmp3 rfl _ _ _) rfl ?_
            rw [HTO.out]
            refine ⟨HBW.out.trans (HL9.out.hb.mono (by rw [HGT.out]; exact HBW.out.size)), ?_⟩
            rw [if_neg (fun h => h rfl), if_neg (by rw [HST.out]; have := HNG.out; omega)]
            exact ⟨gT, by rw [HST.out]; rfl, tree_none HL9.out HC0.out HMW.out HGT.out, by rw [HGT.out]; exact HBW.out.size⟩
        · have HC0 := Lib.hid (show cntM m ≠ 0 from fun e => hz (HCN.out.1.trans e))
          have HNO := Lib.hid (show no = cntM m from HCN.out.1)
          have d3 : decide ((0 : Int) < (no : Int)) = true := decide_eq_true (by omega)
          have d5 : decide (0 < no) = true := decide_eq_true (by omega)
          obtain ⟨blk, cp, hvo, -⟩ := HL8.out.o.at_ (by rw [List.length_range]; omega)
          simp only [Value.slice.injEq] at hvo
          obtain ⟨rfl, -, rfl⟩ := hvo
          have HBD := Lib.hid (show Bd WT wr gT gM gT (.slice ab nb cb) u0 u1 u2 steps blk co (boxesM m) (.slice none 0 0) (startS m) from by have h := HL8.out; rw [HNO.out] at h; exact start_bd h)
          have CA0 := add_any WT gT gM gT (.slice ab nb cb) u0 u1 u2 steps blk co (boxesM m) (ok_boxes m HMO.out.2) (by have := HCN.out; simp [boxesM]; omega) (cntM m) 0 (cntM m) 1 wr _ (startS m) HBD.out (start_side m HC0.out (by rw [← HNO.out]; exact HCN.out.2))
          have HAD := Lib.hid (added m HC0.out steps)
          obtain ⟨R, hR⟩ : ∃ R, R = addP (boxesM m) steps (cntM m) 0 (cntM m) 1 (startS m) := ⟨_, rfl⟩
          rw [← hR] at CA0 HAD
          rw [← HNO.out] at CA0
          have CA := Lib.hid (show Calls Try.prog 23 #[.pointer (some ⟨gM, 0, none⟩), .int .i64 0, .int .i64 (no : Int), .int .i64 1] wr (fun e w' => e = .returned (.int .i64 0) ∧ ∃ vn', Bd WT w' gT gM gT (.slice ab nb cb) u0 u1 u2 steps blk co (boxesM m) vn' R) from CA0)
          clear CA0 hR hz HBD
          go_wp2_with fail
          refine CA.out.mono ?_
          rintro e W8 ⟨rfl, vn, hbd⟩
          have HBD := Lib.hid hbd
          clear hbd CA q5 HL8 d3 d5 HM5
          clear wr
          obtain ⟨rs, hrs⟩ : ∃ x, x = R.st := ⟨_, rfl⟩
          have HRS := Lib.hid hrs
          clear hrs
          have r2 : W8.cell? ⟨gM, 2, none⟩ = some (.int .i64 (rs : Int)) := by rw [HRS.out]; exact cell_row HBD.out.mt.m 2 _ rfl
          have r3 := fun d os => cell_regrown r2 d os
          by_cases hs : steps < (stepsM m : Int)
          · have d4 : decide (steps < (rs : Int)) = true := decide_eq_true (by rw [HRS.out]; exact HAD.out.2 hs)
            have HF := Lib.hid (show QQ (.returned (.tuple #[.pointer none, .int .i64 0, .int .i64 15])) W8 by rw [HTO.out]; exact ⟨HBW.out.trans (HBD.out.hb.mono (by rw [HGT.out]; exact HBW.out.size)), by rw [if_neg (fun h => h rfl), if_pos hs]⟩)
            clear hs
            go_wp2_with fail
            refine bodyPost_ret (results_tmp3 rfl _ _ _) rfl ?_
            exact HF.out
          · have HRE := Lib.hid (HAD.out.1 (by omega))
            have HRV := Lib.hid (show rs = stepsM m by rw [HRS.out, HRE.out])
            have d4 : decide (steps < (rs : Int)) = false := decide_eq_false (by rw [HRV.out]; exact hs)
            have HNG := Lib.hid hs
            clear hs
            go_upto_region 16 with (fail)
            refine wp_region_quiet_below (by kernel_rfl) (by kernel_rfl) ?_
            repeat (go_big_quiet_step (fail))
            refine wpQuiet_nil ?_
            first | (rintro _ ⟨⟨dq, osq⟩, rfl⟩) | (rintro ⟨dq, osq⟩)
            have hb := below_regrown W8 dq osq
            obtain ⟨W9, hW⟩ : ∃ ww, ww = grow (redrawn W8 dq) osq := ⟨_, rfl⟩
            rw [← hW] at hb ⊢
            clear hW
            have HL9 := Lib.hid (HBD.out.below hb)
            clear hb r3 r2
            go_wp2_with fail
            refine bodyPost_ret (results_tmp3 rfl _ _ _) rfl ?_
            rw [HTO.out]
            refine ⟨HBW.out.trans (HL9.out.hb.mono (by rw [HGT.out]; exact HBW.out.size)), ?_⟩
            rw [if_neg (fun h => h rfl), if_neg (by have := HNG.out; omega)]
            exact ⟨gT, by rw [← HRV.out]; rfl, tree_done HL9.out HRE.out HMW.out HGT.out, by rw [HGT.out]; exact HBW.out.size⟩
  · have d0 : decide (cd = 0) = false := decide_eq_false hc
    have HF := Lib.hid (show QQ (.returned (.tuple #[.pointer none, .int .i64 0, .int .i64 cd])) W1 by rw [HTO.out]; exact ⟨HB1.out, by rw [if_pos hc]⟩)
    go_wp2_with fail
    refine bodyPost_ret (results_tmp3 rfl _ _ _) rfl ?_
    exact HF.out
end Go.Proofs.Ytdaokkgenfpmhaa.BvhE
