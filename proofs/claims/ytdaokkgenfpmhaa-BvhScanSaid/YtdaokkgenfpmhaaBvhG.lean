/- The walk of layer 14's Nearest. -/
import Derived.Test.YtdaokkgenfpmhaaBvhF
import Derived.Deep.CutRange
import Derived.BigRegion
set_option linter.unusedVariables false
set_option linter.unusedSimpArgs false
namespace Go.Proofs.Ytdaokkgenfpmhaa.BvhG
open Go Go.RowKit Go.Sort Go.Lib FixM Base Num FixW Qb Qt Qa Qf Qg VecW VecV VecU LightQ LightC MeshM Rec MeshA MeshC MeshD MeshP HitM HitT HitX HitN HitS HitV BvhM BvhA BvhB BvhS BvhC BvhD BvhU BvhW BvhX BvhE BvhF
/-- the loop's state: the best so far in block g8, what is still to be asked in block g10 -/
structure Nx (w W wr : World) (g8 g10 : Nat) (best : Ht) (ss : List Pd) : Prop where
  row : wr.heap[g8]? = some (.cells (hrow best) 38)
  stk : ∃ cur, wr.heap[g10]? = some (.cells cur 53) ∧ cur.size = 32 ∧ ∀ k q, k < ss.length → ss[ss.length - 1 - k]? = some q → cur[k]? = some (.int .i64 (q.i : Int))
  hb : Below w.heap.size w wr
  k : Keeps (fun j => j = g8 ∨ j = g10) W wr
theorem Nx.step {w W wr w' : World} {g8 g10 : Nat} {best : Ht} {ss : List Pd} (h : Nx w W wr g8 g10 best ss) (hb : Below wr.heap.size wr w') : Nx w W w' g8 g10 best ss :=
  ⟨vec_step h.row hb, by obtain ⟨cur, h1, h2⟩ := h.stk; exact ⟨cur, vec_step h1 hb, h2⟩, h.hb.trans (hb.mono h.hb.size), h.k.trans (Keeps.of_ext hb _) (fun k hk => .inl hk)⟩
theorem root_box {m : Msh} {ns : List Nd} {ord : List Nat} {p : Pd} {nd : Nd} (h : Lies m ns ord p) (e : ns[p.i]? = some nd) : nd.b = boxL m p.T.l := by
  obtain ⟨T, i, f⟩ := p
  cases T with
  | leaf l => rw [h.leaf] at e; cases e; rfl
  | node l a b => rw [h.node] at e; cases e; rfl
theorem Nx.tail {w W wr : World} {g8 g10 : Nat} {best : Ht} {p : Pd} {ss : List Pd} (h : Nx w W wr g8 g10 best (p :: ss)) : Nx w W wr g8 g10 best ss :=
  ⟨h.row, by
    obtain ⟨cur, h1, h2, h3⟩ := h.stk
    refine ⟨cur, h1, h2, fun k q hk e => h3 k q (by rw [List.length_cons]; omega) ?_⟩
    rw [List.length_cons, show ss.length + 1 - 1 - k = (ss.length - 1 - k) + 1 by omega, List.getElem?_cons_succ]
    exact e, h.hb, h.k⟩
theorem _root_.Go.Proofs.Ytdaokkgenfpmhaa.BvhF.Lo.tail {m : Msh} {ns : List Nd} {ord : List Nat} {an : List Pd → Ht → Nat → Ht × Nat} {res : Ht × Nat} {p : Pd} {ss : List Pd} {best best' : Ht} {c c' : Nat} (h : Lo m ns ord an res (p :: ss) best c) (e : an (p :: ss) best c = an ss best' c') (hc : c' ≤ c + nodesT p.T + p.T.l.length) : Lo m ns ord an res ss best' c' :=
  ⟨fun q hq => h.lies q (List.mem_cons_of_mem _ hq), h.fit.2, by rw [← e]; exact h.ans, by have := h.bd; change c + (nodesT p.T + p.T.l.length + cst ss) ≤ 100000 at this; omega⟩
theorem Nx.push {w W wr : World} {g8 g10 : Nat} {best : Ht} {p q1 q2 : Pd} {ss : List Pd} {L L1 P1 P2 : Nat} (h : Nx w W wr g8 g10 best (p :: ss)) (hne : g8 ≠ g10) (hg : w.heap.size ≤ g10) (hL : L = ss.length) (h1 : L1 = L + 1) (h32 : L + 1 < 32) (e1 : q1.i = P1) (e2 : q2.i = P2) :
    Nx w W (((wr.setCell ⟨g10, L, none⟩ (.int .i64 (P2 : Int))).setCell ⟨g10, L1, none⟩ (.int .i64 (P1 : Int))).drew) g8 g10 best (q1 :: q2 :: ss) := by
  subst h1 e1 e2
  obtain ⟨cur, hc, hs, hk⟩ := h.tail.stk
  have k0 := (h.k.setCell g10 L (.int .i64 (q2.i : Int)) (.inl (.inr rfl))).setCell g10 (L + 1) (.int .i64 (q1.i : Int)) (.inl (.inr rfl))
  have b0 := setCell_below (setCell_below h.hb hg (.int .i64 (q2.i : Int)) (j := L)) hg (.int .i64 (q1.i : Int)) (j := L + 1)
  refine ⟨?_, ⟨(cur.setIfInBounds L (.int .i64 (q2.i : Int))).setIfInBounds (L + 1) (.int .i64 (q1.i : Int)), ?_, by simp [hs], ?_⟩, b0.trans ((drew_below _).mono b0.size), k0.drew⟩
  · exact (heap_setCell_other _ _ _ _ hne).trans ((heap_setCell_other _ _ _ _ hne).trans h.row)
  · exact heap_setCell_same _ _ _ _ _ _ (heap_setCell_same _ _ _ _ _ _ hc)
  · intro k q hk2 e
    rw [List.length_cons, List.length_cons, ← hL] at e hk2
    by_cases c1 : k = L + 1
    · subst c1
      rw [show L + 1 + 1 - 1 - (L + 1) = 0 by omega] at e
      simp at e; subst e
      simp [hs, h32]
    · rw [Array.getElem?_setIfInBounds_ne (by omega)]
      by_cases c2 : k = L
      · subst c2
        rw [show k + 1 + 1 - 1 - k = 1 by omega] at e
        simp at e; subst e
        have : k < cur.size := by omega
        simp [this]
      · rw [Array.getElem?_setIfInBounds_ne (by omega)]
        rw [show L + 1 + 1 - 1 - k = (L - 1 - k) + 1 + 1 by omega, List.getElem?_cons_succ, List.getElem?_cons_succ] at e
        exact hk k q (by omega) (by rw [← hL]; exact e)
theorem Nx.put {w W wr : World} {g8 g10 : Nat} {best b' : Ht} {ss : List Pd} (h : Nx w W wr g8 g10 best ss) (hne : g8 ≠ g10) (hg : w.heap.size ≤ g8) : Nx w W (wr.setRow g8 (hrow b')) g8 g10 b' ss :=
  ⟨setRow_heap _ _ _ _ _ _ h.row, by obtain ⟨cur, h1, h2⟩ := h.stk; exact ⟨cur, (setRow_other _ _ _ _ (Ne.symm hne)).trans h1, h2⟩, below_setRow h.hb hg _, h.k.setRow g8 _ (.inl (.inl rfl))⟩
theorem cap_nums {k : IntKind} {N : Nat} {w : World} {a : Option Addr} {n c : Nat} {l : List Nat} (h : Nums k N w (.slice a n c) l) : n ≤ c ∧ c ≤ 9223372036854775807 := by
  obtain ⟨a', c', e, h1, h2, -⟩ := h.shape
  simp only [Value.slice.injEq] at e
  obtain ⟨-, rfl, rfl⟩ := e
  exact ⟨h1, h2⟩
theorem alloc_hit2 (w : World) : (Instr.alloc 38 true (.tuple #[])).run Try.prog w = .ok (.pointer (some ⟨w.heap.size, 0, none⟩)) (w.alloc (.cells #[.int .i64 0, .int .i64 0, .int .i64 0, .int .i64 0] 38)) := by kernel_rfl
theorem row_one4 (a b c d : Int) : (#[Value.int .i64 a, .int .i64 b, .int .i64 c, .int .i64 d] : Array Value).all (·.oneCell') = true := by
  rw [Array.all_eq_true']; intro v hv; simp at hv; rcases hv with rfl | rfl | rfl | rfl <;> rfl
def NearTo (w : World) (res : Ht × Nat) (e : Ending) (w' : World) : Prop := e = .returned (.tuple #[hitV res.1, .int .i64 (res.2 : Int)]) ∧ Below w.heap.size w w'
def zero32 : Array Value := Go.madeCells #[.int .i64 0] 32
theorem alloc_i32 (w : World) : (Instr.alloc 53 true (.tuple #[])).run Try.prog w = .ok (.pointer (some ⟨w.heap.size, 0, none⟩)) (w.alloc (.cells zero32 53)) := by kernel_rfl
set_option maxRecDepth 100000 in
set_option maxHeartbeats 16000000 in
theorem near_some (w : World) (gT : Nat) (m : Msh) (h : TreeAt w gT m) (ok : m.ok) (hc : cntM m ≠ 0) (hl : cntM m ≤ 4096) (r : Ry) (hr : r.ok) (least : Int) : Calls Try.prog 5 #[.pointer (some ⟨gT, 0, none⟩), rayV r, .int .i64 least] w (NearTo w (nearestF m r least)) := by
  obtain ⟨v0, v1, v2, vn, vo, ht0, hmesh, hns, hord⟩ := h.is_
  have CB := Lib.hid (fun (b : Bx) (hb : HitM.Bx.ok b) (w2 : World) => hbox_any r b hr hb w2)
  have CS := Lib.hid (fun (w2 : World) (h2 : IsMesh w2 (.agg #[v0, v1, v2]) m) (i : Nat) (hi : i < cntM m) => shape_any _ m w2 h2 ok (by have : cntM m = m.ts.length + m.bs.length := rfl; omega) (i : Int) ⟨by omega, by omega⟩ r hr least)
  have HAN := Lib.hid (ans_whole m r least hc)
  have HFI := Lib.hid (fit_whole m hl)
  have HLI := Lib.hid (lies_whole m hc)
  obtain ⟨res, hres⟩ : ∃ x, x = nearestF m r least := ⟨_, rfl⟩
  rw [← hres] at HAN ⊢
  have HOK := Lib.hid (fun (l : List Nat) => (show HitM.Bx.ok (boxL m l) by rw [← boxS_boxes]; exact ok_boxS (ok_boxes m ok) l))
  have HMS := Lib.hid hmesh
  have HNS := Lib.hid hns
  have HOR := Lib.hid hord
  have HCL := Lib.hid (And.intro hc hl)
  have HNP := Lib.hid (show 0 < (flatM m).length by unfold flatM; rw [if_neg hc, flat_length]; exact nodes_pos _)
  have HOP := Lib.hid (show 0 < (ordM m).length by unfold ordM; rw [if_neg hc, leaves_length _ (whole_good m hc)]; exact good_pos _ (whole_good m hc))
  have HCW := Lib.hid (cst_whole m hc hl)
  have HOL := Lib.hid (fun i (hi : i ∈ ordM m) => ord_lt m i hi)
  obtain ⟨ns, hns2⟩ : ∃ x, x = flatM m := ⟨_, rfl⟩
  obtain ⟨ord, hord2⟩ : ∃ x, x = ordM m := ⟨_, rfl⟩
  rw [← hns2] at HNS HLI HNP
  rw [← hord2] at HOR HLI HOL HOP
  have HT := Lib.hid ht0
  have HBH := Lib.hid (show ∀ l, boxH r (boxL m l) = boxH r (boxL m l) from fun _ => rfl)
  obtain ⟨bh, hbh⟩ : ∃ f : List Nat → Option Int, f = fun l => boxH r (boxL m l) := ⟨_, rfl⟩
  have CB2 := Lib.hid (fun (l : List Nat) (w2 : World) => (show Calls Try.prog 14 #[rayV r, boxV (boxL m l)] w2 (VTo (boxR (bh l)) w2) by rw [hbh]; exact CB.out (boxL m l) (HOK.out l) w2))
  have HAE := Lib.hid (show ∀ h c, ansS m r least [] h c = (h, c) from fun _ _ => rfl)
  have HA1 := Lib.hid (fun (p : Pd) (ss : List Pd) (h : Ht) (c : Nat) (hs : bh p.T.l = none ∨ ∃ near, bh p.T.l = some near ∧ 0 ≤ h.i ∧ h.t < near) => ans_skip m r least p ss h c (by rw [hbh] at hs; exact hs))
  have HA2 := Lib.hid (fun (l : List Nat) (i f : Nat) (ss : List Pd) (h : Ht) (c : Nat) (near : Int) (e : bh l = some near) (hn : ¬ (0 ≤ h.i ∧ h.t < near)) => ans_leaf m r least l i f ss h c near (by rw [hbh] at e; exact e) hn)
  have HA3 := Lib.hid (fun (l : List Nat) (a b : Tr) (i f : Nat) (ss : List Pd) (h : Ht) (c : Nat) (near : Int) (e : bh l = some near) (hn : ¬ (0 ≤ h.i ∧ h.t < near)) (ia fa ib fb : Nat) => ans_node m r least l a b i f ss h c near (by rw [hbh] at e; exact e) hn ia fa ib fb)
  obtain ⟨sh, hsh⟩ : ∃ f : Nat → Option Ht, f = fun (i : Nat) => shapeF m (i : Int) r least := ⟨_, rfl⟩
  have CS2 := Lib.hid (fun (w2 : World) (h2 : IsMesh w2 (.agg #[v0, v1, v2]) m) (i : Nat) (hi : i < cntM m) => (show Calls Try.prog 15 #[.agg #[v0, v1, v2], .int .i64 (i : Int), rayV r, .int .i64 least] w2 (VTo (shapeR (sh i)) w2) by rw [hsh]; exact CS.out w2 h2 i hi))
  have HTF := Lib.hid (show ∀ h i, tryF m r least h i = match sh i with | none => h | some x => if betterF x h then x else h by rw [hsh]; intro h i; rfl)
  obtain ⟨tf, htf⟩ : ∃ x, x = tryF m r least := ⟨_, rfl⟩
  obtain ⟨an, han⟩ : ∃ x, x = ansS m r least := ⟨_, rfl⟩
  rw [← htf] at HTF HA2
  rw [← han] at HAN HA1 HA2 HA3 HAE
  clear hres hns2 hord2 hbh hsh htf han CB CS HBH hmesh hns hord ht0 h hc hl ok
  obtain ⟨an0, cn0, hvn, -, hcn⟩ := HNS.out.open_
  obtain ⟨bn, on, rfl, hbn, hce⟩ := hcn 0 HNP.out
  obtain ⟨ao0, co0, hvo, -, -, hco⟩ := HOR.out.open_
  obtain ⟨bo, oo, rfl, hbo, hcf⟩ := hco 0 HOP.out
  have HCE := Lib.hid (fun (w2 : World) (hb : Below w.heap.size w w2) i (h : i < ns.length) k x (hx : (encN ns[i])[k]? = some x) => (hb.cell (p := ⟨bn, on + i * 10 + k, none⟩) hbn).trans (hce i h k x hx))
  have HCF := Lib.hid (fun (w2 : World) (hb : Below w.heap.size w w2) i (h : i < ord.length) => (hb.cell (p := ⟨bo, oo + i, none⟩) hbo).trans (hcf i h))
  have HBN := Lib.hid hbn
  clear hcn hbn hce hco hbo hcf
  obtain ⟨NL, hNL⟩ : ∃ x, x = ns.length := ⟨_, rfl⟩
  obtain ⟨OL, hOL⟩ : ∃ x, x = ord.length := ⟨_, rfl⟩
  rw [← hNL] at hvn HNP
  rw [← hOL] at hvo
  subst hvn hvo
  have HLL := Lib.hid (And.intro hNL hOL)
  clear hNL hOL
  obtain ⟨⟨oX, oY, oZ⟩, ⟨dX, dY, dZ⟩⟩ := r
  dsimp only [rayV] at *
  have hA := alloc2_0 w (.cells #[.int .i64 oX, .int .i64 oY, .int .i64 oZ, .int .i64 dX, .int .i64 dY, .int .i64 dZ] 25) (.cells #[.int .i64 0, .int .i64 0, .int .i64 0, .int .i64 0] 38)
  have hB := alloc2_1 w (.cells #[.int .i64 oX, .int .i64 oY, .int .i64 oZ, .int .i64 dX, .int .i64 dY, .int .i64 dZ] 25) (.cells #[.int .i64 0, .int .i64 0, .int .i64 0, .int .i64 0] 38)
  have hB0 := alloc2_below w (.cells #[.int .i64 oX, .int .i64 oY, .int .i64 oZ, .int .i64 dX, .int .i64 dY, .int .i64 dZ] 25) (.cells #[.int .i64 0, .int .i64 0, .int .i64 0, .int .i64 0] 38)
  obtain ⟨W, hW⟩ : ∃ ww, ww = (w.alloc (.cells #[.int .i64 oX, .int .i64 oY, .int .i64 oZ, .int .i64 dX, .int .i64 dY, .int .i64 dZ] 25)).alloc (.cells #[.int .i64 0, .int .i64 0, .int .i64 0, .int .i64 0] 38) := ⟨_, rfl⟩
  rw [← hW] at hA hB hB0
  have HY0 := Lib.hid hA
  have HZ0 := Lib.hid hB
  have HB0 := Lib.hid hB0
  have HTW := Lib.hid (Base.lt_of_heap HT.out)
  have HT0 := Lib.hid (vec_step HT.out hB0)
  have HWW := Lib.hid hW
  clear hA hB hB0 hW hr HT
  go_enter Try.func5, Try.ntmps5
  go_upto_region 1 with (fail)
  rw [← HWW.out]
  clear HWW
  have d0 : ((NL : Int) == 0) = false := beq_eq_false_iff_ne.2 (by have := HNP.out; omega)
  have d0b : ¬ NL = 0 := by have := HNP.out; omega
  go_upto_region 2 with (with_reducible refine store_hit rfl (.tmp 8) (.tmp 19) rfl rfl W.heap.size 0 (-1) 0 0 rfl rfl _ (heap_alloc_new _ _) rfl ?_)
  have hx : Below W.heap.size W ((W.alloc (.cells #[.int .i64 0, .int .i64 0, .int .i64 0, .int .i64 0] 38)).setRow W.heap.size #[.int .i64 0, .int .i64 (-1), .int .i64 0, .int .i64 0]) := below_setRow (ext_alloc W (.cells #[.int .i64 0, .int .i64 0, .int .i64 0, .int .i64 0] 38)) (Nat.le_refl _) _
  have hn : ((W.alloc (.cells #[.int .i64 0, .int .i64 0, .int .i64 0, .int .i64 0] 38)).setRow W.heap.size #[.int .i64 0, .int .i64 (-1), .int .i64 0, .int .i64 0]).heap[W.heap.size]? = some (.cells (hrow htN) 38) := setRow_heap _ _ _ _ _ _ (heap_alloc_new _ _)
  obtain ⟨W2, hW⟩ : ∃ ww, ww = ((W.alloc (.cells #[.int .i64 0, .int .i64 0, .int .i64 0, .int .i64 0] 38)).setRow W.heap.size #[.int .i64 0, .int .i64 (-1), .int .i64 0, .int .i64 0]) := ⟨_, rfl⟩
  rw [← hW] at hx hn ⊢
  clear hW
  have HG8 := Lib.hid (show w.heap.size < W.heap.size from Nat.lt_of_le_of_lt (Nat.le_succ _) (Base.lt_of_heap HZ0.out))
  have HGZ := Lib.hid (Base.lt_of_heap HZ0.out)
  have HY1 := Lib.hid (vec_step HY0.out hx)
  have HZ1 := Lib.hid (vec_step HZ0.out hx)
  have HT1 := Lib.hid (vec_step HT0.out hx)
  have HB1 := Lib.hid (HB0.out.trans (hx.mono HB0.out.size))
  clear HY0 HZ0 HT0 HB0 hx  
  have HE1 := Lib.hid (hn)
  clear hn
  generalize W.heap.size = g8 at HE1 HG8 HGZ ⊢
  have cHT0 := cell_row HT1.out 0 _ rfl
  have cHT4 := cell_row HT1.out 4 _ rfl
  go_upto_region 4 with (fail)
  go_wp2_with fail
  clear cHT0 cHT4
  have hx := ext_alloc W2 (.cells #[.int .i64 0, .int .i64 0, .int .i64 0, .int .i64 0, .int .i64 0, .int .i64 0, .int .i64 0, .int .i64 0, .int .i64 0, .int .i64 0, .int .i64 0, .int .i64 0, .int .i64 0, .int .i64 0, .int .i64 0, .int .i64 0, .int .i64 0, .int .i64 0, .int .i64 0, .int .i64 0, .int .i64 0, .int .i64 0, .int .i64 0, .int .i64 0, .int .i64 0, .int .i64 0, .int .i64 0, .int .i64 0, .int .i64 0, .int .i64 0, .int .i64 0, .int .i64 0] 53)
  have hn := heap_alloc_new W2 (.cells #[.int .i64 0, .int .i64 0, .int .i64 0, .int .i64 0, .int .i64 0, .int .i64 0, .int .i64 0, .int .i64 0, .int .i64 0, .int .i64 0, .int .i64 0, .int .i64 0, .int .i64 0, .int .i64 0, .int .i64 0, .int .i64 0, .int .i64 0, .int .i64 0, .int .i64 0, .int .i64 0, .int .i64 0, .int .i64 0, .int .i64 0, .int .i64 0, .int .i64 0, .int .i64 0, .int .i64 0, .int .i64 0, .int .i64 0, .int .i64 0, .int .i64 0, .int .i64 0] 53)
  obtain ⟨W3, hW⟩ : ∃ ww, ww = W2.alloc (.cells #[.int .i64 0, .int .i64 0, .int .i64 0, .int .i64 0, .int .i64 0, .int .i64 0, .int .i64 0, .int .i64 0, .int .i64 0, .int .i64 0, .int .i64 0, .int .i64 0, .int .i64 0, .int .i64 0, .int .i64 0, .int .i64 0, .int .i64 0, .int .i64 0, .int .i64 0, .int .i64 0, .int .i64 0, .int .i64 0, .int .i64 0, .int .i64 0, .int .i64 0, .int .i64 0, .int .i64 0, .int .i64 0, .int .i64 0, .int .i64 0, .int .i64 0, .int .i64 0] 53) := ⟨_, rfl⟩
  rw [← hW] at hx hn ⊢
  clear hW
  have HGA := Lib.hid (Base.lt_of_heap HE1.out)
  have HY2 := Lib.hid (vec_step HY1.out hx)
  have HZ2 := Lib.hid (vec_step HZ1.out hx)
  have HT2 := Lib.hid (vec_step HT1.out hx)
  have HB2 := Lib.hid (HB1.out.trans (hx.mono HB1.out.size))
  have HE2 := Lib.hid (vec_step HE1.out hx)
  clear HY1 HZ1 HT1 HB1 HE1 hx  
  have HG10 := Lib.hid (show w.heap.size ≤ W2.heap.size from by have := HGA.out; have := HG8.out; omega)
  generalize W2.heap.size = g10 at hn HGA HG10 ⊢
  have HX0 := Lib.hid (show Nx w W3 W3 g8 g10 htN [⟨wholeT m, 0, 0⟩] from ⟨HE2.out, ⟨_, hn, rfl, fun k q h e => by have : k = 0 := (by simpa using h); subst this; simp at e; subst e; rfl⟩, HB2.out, Keeps.refl _ _⟩)
  have HL0 := Lib.hid (show Lo m ns ord an res [⟨wholeT m, 0, 0⟩] htN 0 from ⟨fun p hp => by rw [List.mem_singleton.1 hp]; exact HLI.out, HFI.out, HAN.out, by have := HCW.out; omega⟩)
  clear hn HLI HFI HAN HCW HE2
  go_loopg [9, 11] (wt [⟨wholeT m, 0, 0⟩]) (fun r n9 n11 wr => ∃ (ss : List Pd) (best : Ht) (c L1 : Nat), wt ss = r ∧ n9 = .int .i64 (c : Int) ∧ n11 = .int .i64 (L1 : Int) ∧ Hid (L1 = ss.length ∧ Lo m ns ord an res ss best c ∧ Nx w W3 wr g8 g10 best ss))
  case atStart => exact ⟨[⟨wholeT m, 0, 0⟩], htN, 0, 1, rfl, rfl, rfl, Lib.hid ⟨rfl, HL0.out, HX0.out⟩⟩
  case round =>
    obtain ⟨ss, best, c, L1, hwt, rfl, rfl, hin⟩ := hrel
    have HWT := Lib.hid hwt
    clear hwt HL0 HX0
    have HY9 := Lib.hid (keep_cell hin.out.2.2.k HY2.out (fun e => by have := HG8.out; have := HGA.out; have := HG10.out; have := HGZ.out; have := HTW.out; rcases e with e | e <;> omega))
    have HZ9 := Lib.hid (keep_cell hin.out.2.2.k HZ2.out (fun e => by have := HG8.out; have := HGA.out; have := HG10.out; have := HGZ.out; have := HTW.out; rcases e with e | e <;> omega))
    have HT9 := Lib.hid (keep_cell hin.out.2.2.k HT2.out (fun e => by have := HG8.out; have := HGA.out; have := HG10.out; have := HGZ.out; have := HTW.out; rcases e with e | e <;> omega))
    obtain ⟨bt, bi, bu, bv⟩ := best
    cases ss with
    | nil =>
      obtain rfl : L1 = 0 := hin.out.1
      have HRS := Lib.hid (show an [] ⟨bt, bi, bu, bv⟩ c = res from hin.out.2.1.ans)
      have HRE := Lib.hid (show res = (⟨bt, bi, bu, bv⟩, c) by rw [← HRS.out, HAE.out])
      have e0 := cell_row hin.out.2.2.row 0 _ rfl
      have e1 := cell_row hin.out.2.2.row 1 _ rfl
      have e2 := cell_row hin.out.2.2.row 2 _ rfl
      have e3 := cell_row hin.out.2.2.row 3 _ rfl
      have HB9 := Lib.hid hin.out.2.2.hb
      clear hin
      go_wp2_with (with_reducible refine store_hit rfl (.tmp 6) (.tmp 133) rfl rfl (w.heap.size + 1) bt bi bu bv rfl rfl _ HZ9.out rfl ?_)
      refine bodyPost_ret (results_row_tmp rfl _ _ _ (w.heap.size + 1) 38 _ _ _ rfl (setRow_heap _ _ _ _ _ _ HZ9.out) Try.underlying38 hit_size) rfl ?_
      exact ⟨by rw [HRE.out]; rfl, below_setRow HB9.out (Nat.le_succ _) _⟩
    | cons p ss =>
      obtain ⟨L, hL⟩ : ∃ x, x = ss.length := ⟨_, rfl⟩
      have HL1 := Lib.hid (show L1 = L + 1 by rw [hL]; exact hin.out.1)
      have HLN := Lib.hid hL
      clear hL
      have HLO := Lib.hid hin.out.2.1
      have HNX := Lib.hid hin.out.2.2
      have HLP := Lib.hid (HLO.out.lies p (List.mem_cons_self ..))
      have hL32 : L < 32 := by have h1 := HLO.out.fit.1; have h2 := deep_pos p.T; rw [← HLN.out] at h1; omega
      have HLB := Lib.hid (And.intro HL1.out hL32)
      have HCC := Lib.hid (show c ≤ 99999 by have h1 := HLO.out.bd; have h2 := nodes_pos p.T; change c + (nodesT p.T + p.T.l.length + cst ss) ≤ 100000 at h1; omega)
      obtain ⟨cur, hcur, hsz, hst⟩ := HNX.out.stk
      have hpi : cur[L]? = some (.int .i64 (p.i : Int)) := hst L p (by rw [List.length_cons, ← HLN.out]; exact Nat.lt_succ_self _) (by rw [List.length_cons, ← HLN.out, show L + 1 - 1 - L = 0 by omega]; rfl)
      have hpn : p.i < ns.length := by
        have h1 := HLP.out.1 0 (nodes_pos _)
        rw [Nat.add_zero, List.getElem?_eq_getElem (show 0 < (flatN m p.T p.i p.f).length by rw [flat_length]; exact nodes_pos _)] at h1
        exact (List.getElem?_eq_some_iff.1 h1).1
      have HPI := Lib.hid hpi
      have HPN := Lib.hid hpn
      have HCU := Lib.hid hcur
      have HSZ := Lib.hid hsz
      have dp : p.i < NL := by rw [HLL.out.1]; exact hpn
      have d1 : decide ((0 : Int) < (L1 : Int)) = true := decide_eq_true (by have := HLB.out; omega)
      have d1b : decide (0 < L1) = true := decide_eq_true (by have := HLB.out; omega)
      have i1 : IntKind.i64.wrap ((L1 : Int) - 1) = (L : Int) := by have := HLB.out; rw [wrap_in (by omega) (by omega)]; omega
      obtain ⟨c1, hc1⟩ : ∃ x, x = c + 1 := ⟨_, rfl⟩
      have i2 := wrap_more c c1 hc1 (Nat.le_trans HCC.out (by decide))
      have HC1 := Lib.hid hc1
      clear hpi hpn hsz hst hin hcur hc1
      have f4 := fun d os => cell_regrown (cell_row HT9.out 4 _ rfl) d os
      have f10 := fun d os => cell_regrown (cell_row HCU.out L _ HPI.out) d os
      go_upto_region 9 with (fail)
      refine wp_region_quiet_below (by kernel_rfl) (by kernel_rfl) ?_
      repeat (go_big_quiet_step (fail))
      refine wpQuiet_nil ?_
      first | (rintro _ ⟨⟨dq, osq⟩, rfl⟩) | (rintro ⟨dq, osq⟩)
      have hb := below_regrown wr dq osq
      obtain ⟨x1, hW⟩ : ∃ ww, ww = grow (redrawn wr dq) osq := ⟨_, rfl⟩
      rw [← hW] at hb ⊢
      clear hW
      have HY9_ := Lib.hid (vec_step HY9.out hb)
      clear HY9
      have HY9 := HY9_
      clear HY9_
      have HZ9_ := Lib.hid (vec_step HZ9.out hb)
      clear HZ9
      have HZ9 := HZ9_
      clear HZ9_
      have HT9_ := Lib.hid (vec_step HT9.out hb)
      clear HT9
      have HT9 := HT9_
      clear HT9_
      have HCU_ := Lib.hid (vec_step HCU.out hb)
      clear HCU
      have HCU := HCU_
      clear HCU_
      have HNX_ := Lib.hid (HNX.out.step hb)
      clear HNX
      have HNX := HNX_
      clear HNX_
      clear hb f4 f10 d1 d1b i1 dp
      obtain ⟨nd, hnd⟩ : ∃ x, x = ns[p.i]'HPN.out := ⟨_, rfl⟩
      have HND := Lib.hid (show ∀ w2, Below w.heap.size w w2 → ∀ k x, (encN nd)[k]? = some x → w2.cell? ⟨bn, on + p.i * 10 + k, none⟩ = some x from fun w2 hb k x hx => HCE.out w2 hb p.i HPN.out k x (by rw [← hnd]; exact hx))
      have HNE := Lib.hid (show ns[p.i]? = some nd by rw [hnd]; exact List.getElem?_eq_getElem HPN.out)
      clear hnd
      have HRB := Lib.hid (show nd.b = boxL m p.T.l from root_box HLP.out HNE.out)
      obtain ⟨bx, hbx⟩ : ∃ x, x = boxL m p.T.l := ⟨_, rfl⟩
      have CBX := Lib.hid (CB2.out p.T.l)
      unfold boxV at CBX
      rw [← hbx] at HRB CBX
      clear hbx
      have f0 := fun d os => cell_regrown (show x1.cell? ⟨bn, on + p.i * 10, none⟩ = some (.int .i64 bx.lo.x) from HND.out x1 HNX.out.hb 0 _ (show (encN nd)[0]? = some (.int .i64 bx.lo.x) by rw [← HRB.out]; rfl)) d os
      have f1 := fun d os => cell_regrown (show x1.cell? ⟨bn, on + p.i * 10 + 1, none⟩ = some (.int .i64 bx.lo.y) from HND.out x1 HNX.out.hb 1 _ (show (encN nd)[1]? = some (.int .i64 bx.lo.y) by rw [← HRB.out]; rfl)) d os
      have f2 := fun d os => cell_regrown (show x1.cell? ⟨bn, on + p.i * 10 + 2, none⟩ = some (.int .i64 bx.lo.z) from HND.out x1 HNX.out.hb 2 _ (show (encN nd)[2]? = some (.int .i64 bx.lo.z) by rw [← HRB.out]; rfl)) d os
      have f3 := fun d os => cell_regrown (show x1.cell? ⟨bn, on + p.i * 10 + 3, none⟩ = some (.int .i64 bx.hi.x) from HND.out x1 HNX.out.hb 3 _ (show (encN nd)[3]? = some (.int .i64 bx.hi.x) by rw [← HRB.out]; rfl)) d os
      have f4 := fun d os => cell_regrown (show x1.cell? ⟨bn, on + p.i * 10 + 4, none⟩ = some (.int .i64 bx.hi.y) from HND.out x1 HNX.out.hb 4 _ (show (encN nd)[4]? = some (.int .i64 bx.hi.y) by rw [← HRB.out]; rfl)) d os
      have f5 := fun d os => cell_regrown (show x1.cell? ⟨bn, on + p.i * 10 + 5, none⟩ = some (.int .i64 bx.hi.z) from HND.out x1 HNX.out.hb 5 _ (show (encN nd)[5]? = some (.int .i64 bx.hi.z) by rw [← HRB.out]; rfl)) d os
      have g0 := fun d os => cell_regrown (cell_row HY9.out 0 _ rfl) d os
      have g1 := fun d os => cell_regrown (cell_row HY9.out 1 _ rfl) d os
      have g2 := fun d os => cell_regrown (cell_row HY9.out 2 _ rfl) d os
      have g3 := fun d os => cell_regrown (cell_row HY9.out 3 _ rfl) d os
      have g4 := fun d os => cell_regrown (cell_row HY9.out 4 _ rfl) d os
      have g5 := fun d os => cell_regrown (cell_row HY9.out 5 _ rfl) d os
      cases hbh : bh p.T.l with
      | none =>
        rw [hbh] at CBX
        unfold boxR at CBX
        dsimp only [Option.getD_none, Option.isSome_none] at CBX
        have HBH := Lib.hid hbh
        clear hbh
        have Q1 := Lib.hid (qb (P := Try.prog) (W := x1) (fun w2 hb => CBX.out w2))
        go_upto_region 11 with (fail)
        refine wp_region_quiet_below (by kernel_rfl) (by kernel_rfl) ?_
        repeat (go_big_quiet_step (first | (with_reducible exact Q1.out _ _)))
        refine wpQuiet_nil ?_
        first | (rintro _ ⟨⟨dq, osq⟩, rfl⟩) | (rintro ⟨dq, osq⟩)
        have hb := below_regrown x1 dq osq
        obtain ⟨x2, hW⟩ : ∃ ww, ww = grow (redrawn x1 dq) osq := ⟨_, rfl⟩
        rw [← hW] at hb ⊢
        clear hW
        have HY9_ := Lib.hid (vec_step HY9.out hb)
        clear HY9
        have HY9 := HY9_
        clear HY9_
        have HZ9_ := Lib.hid (vec_step HZ9.out hb)
        clear HZ9
        have HZ9 := HZ9_
        clear HZ9_
        have HT9_ := Lib.hid (vec_step HT9.out hb)
        clear HT9
        have HT9 := HT9_
        clear HT9_
        have HCU_ := Lib.hid (vec_step HCU.out hb)
        clear HCU
        have HCU := HCU_
        clear HCU_
        have HNX_ := Lib.hid (HNX.out.step hb)
        clear HNX
        have HNX := HNX_
        clear HNX_
        clear hb Q1 CBX f0 g0 f1 g1 f2 g2 f3 g3 f4 g4 f5 g5
        clear x1
        have HA := Lib.hid (HA1.out p ss ⟨bt, bi, bu, bv⟩ c (.inl HBH.out))
        go_wp2_with fail
        go_roundg (wt ss)
        case measure => rw [← HWT.out]; exact wt_drop p ss
        case rel => exact ⟨ss, ⟨bt, bi, bu, bv⟩, c1, L, rfl, rfl, rfl, Lib.hid ⟨HLN.out, HLO.out.tail (by rw [HA.out, HC1.out]) (by have h1 := nodes_pos p.T; have h2 := HC1.out; omega), HNX.out.tail⟩⟩
      | some near =>
        rw [hbh] at CBX
        unfold boxR at CBX
        dsimp only [Option.getD_some, Option.isSome_some] at CBX
        have HBH := Lib.hid hbh
        clear hbh
        have Q1 := Lib.hid (qb (P := Try.prog) (W := x1) (fun w2 hb => CBX.out w2))
        go_upto_region 11 with (fail)
        refine wp_region_quiet_below (by kernel_rfl) (by kernel_rfl) ?_
        repeat (go_big_quiet_step (first | (with_reducible exact Q1.out _ _)))
        refine wpQuiet_nil ?_
        first | (rintro _ ⟨⟨dq, osq⟩, rfl⟩) | (rintro ⟨dq, osq⟩)
        have hb := below_regrown x1 dq osq
        obtain ⟨x2, hW⟩ : ∃ ww, ww = grow (redrawn x1 dq) osq := ⟨_, rfl⟩
        rw [← hW] at hb ⊢
        clear hW
        have HY9_ := Lib.hid (vec_step HY9.out hb)
        clear HY9
        have HY9 := HY9_
        clear HY9_
        have HZ9_ := Lib.hid (vec_step HZ9.out hb)
        clear HZ9
        have HZ9 := HZ9_
        clear HZ9_
        have HT9_ := Lib.hid (vec_step HT9.out hb)
        clear HT9
        have HT9 := HT9_
        clear HT9_
        have HCU_ := Lib.hid (vec_step HCU.out hb)
        clear HCU
        have HCU := HCU_
        clear HCU_
        have HNX_ := Lib.hid (HNX.out.step hb)
        clear HNX
        have HNX := HNX_
        clear HNX_
        clear hb Q1 CBX f0 g0 f1 g1 f2 g2 f3 g3 f4 g4 f5 g5
        clear x1
        by_cases hsk : 0 ≤ bi ∧ bt < near
        · have e1 := cell_row HNX.out.row 1 (.int .i64 bi) rfl
          have e0 := cell_row HNX.out.row 0 (.int .i64 bt) rfl
          have d1 : decide (0 ≤ bi) = true := decide_eq_true hsk.1
          have d2 : decide (bt < near) = true := decide_eq_true hsk.2
          have HSK := Lib.hid hsk
          clear hsk
          have HA := Lib.hid (HA1.out p ss ⟨bt, bi, bu, bv⟩ c (.inr ⟨near, HBH.out, HSK.out⟩))
          go_wp2_with fail
          go_roundg (wt ss)
          case measure => rw [← HWT.out]; exact wt_drop p ss
          case rel => exact ⟨ss, ⟨bt, bi, bu, bv⟩, c1, L, rfl, rfl, rfl, Lib.hid ⟨HLN.out, HLO.out.tail (by rw [HA.out, HC1.out]) (by have h1 := nodes_pos p.T; have h2 := HC1.out; omega), HNX.out.tail⟩⟩
        · have HSK := Lib.hid hsk
          go_upto_region 12 with (fail)
          go_cut [73] from 61 to 72 (fun b wc => b = .bool false ∧ wc = x2)
          case first =>
            have e1 := cell_row HNX.out.row 1 (.int .i64 bi) rfl
            have e0 := cell_row HNX.out.row 0 (.int .i64 bt) rfl
            by_cases h1 : 0 ≤ bi
            · have d1 : decide (0 ≤ bi) = true := decide_eq_true h1
              have d2 : decide (bt < near) = false := decide_eq_false (fun h => HSK.out ⟨h1, h⟩)
              clear h1 hsk
              go_wp2_with fail
              go_meet
              case rel => exact ⟨rfl, rfl⟩
            · have d1 : decide (0 ≤ bi) = false := decide_eq_false h1
              clear h1 hsk
              go_wp2_with fail
              go_meet
              case rel => exact ⟨rfl, rfl⟩
          case rest =>
            obtain ⟨rfl, rfl⟩ := hcut
            clear hsk
            rename World => x2
            obtain ⟨T, pi_, pf⟩ := p
            dsimp only at *
            cases T with
            | leaf l =>
              have HPT := Lib.hid HLP.out.part
              obtain ⟨tt, htt⟩ : ∃ x, x = pf + l.length := ⟨_, rfl⟩
              have hnd : nd = ⟨boxL m l, pf, tt, -1, -1⟩ := by
                have h1 := HNE.out
                rw [HLP.out.leaf] at h1
                rw [htt]
                exact (Option.some.inj h1).symm
              have x8 := HND.out x2 HNX.out.hb 8 (.int .i64 (-1)) (by rw [hnd]; rfl)
              have x6 := fun d os => cell_regrown (HND.out x2 HNX.out.hb 6 (.int .i64 (pf : Int)) (by rw [hnd]; rfl)) d os
              have x7 := fun d os => cell_regrown (HND.out x2 HNX.out.hb 7 (.int .i64 (tt : Int)) (by rw [hnd]; rfl)) d os
              have f5 := fun d os => cell_regrown (cell_row HT9.out 5 _ rfl) d os
              have hft : pf < tt := by have := HPT.out.1; omega
              have htl : tt ≤ OL := by rw [htt, HLL.out.2]; exact HPT.out.2.2.1
              have hcap := cap_nums HOR.out
              have HTE := Lib.hid htt
              clear htt hnd
              go_upto_region 16 with (fail)
              refine wp_region_quiet_below (by kernel_rfl) (by kernel_rfl) ?_
              repeat (go_big_quiet_step (fail))
              refine wpQuiet_nil ?_
              first | (rintro _ ⟨⟨dq, osq⟩, rfl⟩) | (rintro ⟨dq, osq⟩)
              have hb := below_regrown x2 dq osq
              obtain ⟨x3, hW⟩ : ∃ ww, ww = grow (redrawn x2 dq) osq := ⟨_, rfl⟩
              rw [← hW] at hb ⊢
              clear hW
              have HY9_ := Lib.hid (vec_step HY9.out hb)
              clear HY9
              have HY9 := HY9_
              clear HY9_
              have HZ9_ := Lib.hid (vec_step HZ9.out hb)
              clear HZ9
              have HZ9 := HZ9_
              clear HZ9_
              have HT9_ := Lib.hid (vec_step HT9.out hb)
              clear HT9
              have HT9 := HT9_
              clear HT9_
              have HCU_ := Lib.hid (vec_step HCU.out hb)
              clear HCU
              have HCU := HCU_
              clear HCU_
              have HNX_ := Lib.hid (HNX.out.step hb)
              clear HNX
              have HNX := HNX_
              clear HNX_
              clear hb f5 x6 x7 x8
              clear x2
              go_wp2_with fail
              have HX4 := Lib.hid HNX.out.tail
              go_loopg [9, 108] l.length (fun r n9 n108 wr => ∃ (k ck : Nat) (b2 : Ht), k + r = l.length ∧ n9 = .int .i64 (ck : Int) ∧ n108 = .int .i64 (k : Int) ∧ Hid (ck = c1 + k ∧ b2 = (l.take k).foldl tf ⟨bt, bi, bu, bv⟩ ∧ Nx w W3 wr g8 g10 b2 ss))
              case atStart => exact ⟨0, c1, ⟨bt, bi, bu, bv⟩, by omega, rfl, rfl, Lib.hid ⟨rfl, rfl, HX4.out⟩⟩
              case round =>
                obtain ⟨k, ck, b2, hkr, rfl, rfl, hin⟩ := hrel
                have HKR := Lib.hid hkr
                have htp : tt - pf = l.length := by have := HTE.out; omega
                by_cases hk : k < tt - pf
                · have hkl : k < l.length := by omega
                  have d1 : decide ((k : Int) < ((tt - pf : Nat) : Int)) = true := decide_eq_true (by omega)
                  have d1b : decide (k < tt - pf) = true := decide_eq_true hk
                  have hok := HPT.out.2.2.2 k hkl
                  obtain ⟨i, hi⟩ : ∃ x, x = l[k] := ⟨_, rfl⟩
                  rw [← hi] at hok
                  have HIC := Lib.hid (HOL.out i (List.mem_of_getElem? hok))
                  have HIN := Lib.hid hin.out
                  have HX5 := Lib.hid hin.out.2.2
                  have z0 : wr.cell? ⟨bo, oo + pf + k, none⟩ = some (.int .i64 (i : Int)) := by
                    obtain ⟨h1, h2⟩ := List.getElem?_eq_some_iff.1 hok
                    have h3 := HCF.out wr HX5.out.hb (pf + k) h1
                    rw [h2, ← Nat.add_assoc] at h3
                    exact h3
                  have HTFI := Lib.hid (show (l.take (k + 1)).foldl tf ⟨bt, bi, bu, bv⟩ = tf b2 i by rw [List.take_add_one, List.getElem?_eq_getElem hkl, ← hi, List.foldl_append, ← HIN.out.2.1]; rfl)
                  have HCK := Lib.hid (show ck ≤ 100002 by have h1 := HIN.out.1; have h2 := HC1.out; have h3 := HCC.out; have h4 := HPT.out.2.1; omega)
                  obtain ⟨ck1, hck1⟩ : ∃ x, x = ck + 1 := ⟨_, rfl⟩
                  have i5 := wrap_more ck ck1 hck1 (Nat.le_trans HCK.out (by decide))
                  have HC2 := Lib.hid (show ck1 = c1 + (k + 1) by rw [hck1, HIN.out.1]; omega)
                  have HMR := Lib.hid (show l.length - (k + 1) < gk by omega)
                  have HKK := Lib.hid (show k + 1 + (l.length - (k + 1)) = l.length by omega)
                  have i6 : IntKind.i64.wrap ((k : Int) + 1) = ((k + 1 : Nat) : Int) := by have := HPT.out.2.1; rw [wrap_in (by omega) (by omega)]; omega
                  have HT8 := Lib.hid (keep_cell HX5.out.k HT2.out (fun e => by have := HG8.out; have := HG10.out; have := HTW.out; rcases e with e | e <;> omega))
                  have HY8 := Lib.hid (keep_cell HX5.out.k HY2.out (fun e => by have := HG8.out; have := HGZ.out; have := HGA.out; rcases e with e | e <;> omega))
                  have KT := Lib.hid (fun W9 (hb : Below wr.heap.size wr W9) => vec_step HT8.out hb)
                  have KY := Lib.hid (fun W9 (hb : Below wr.heap.size wr W9) => vec_step HY8.out hb)
                  have CSI := Lib.hid (fun W9 (hb : Below wr.heap.size wr W9) => CS2.out W9 (HMS.out.below (HX5.out.hb.trans (hb.mono HX5.out.hb.size))) i HIC.out)
                  obtain ⟨b2t, b2i, b2u, b2v⟩ := b2
                  clear hin hkr hkl hi hok hck1 htp HT8 HY8 htl hft hcap HX4 HNX HCU hL32
                  go_upto_region 20 with (fail)
                  clear hk
                  have HTFE := HTF.out ⟨b2t, b2i, b2u, b2v⟩ i
                  cases hsh : sh i with
                  | none =>
                    rw [hsh] at CSI HTFE
                    clear hsh
                    dsimp only at HTFE
                    have HTFX := Lib.hid (HTFI.out.trans HTFE)
                    clear HTFE HTFI
                    unfold shapeR at CSI
                    dsimp only [hitV, htN, Option.getD_some, Option.getD_none, Option.isSome_some, Option.isSome_none] at CSI
                    refine wp_region_free 135 [0, 1, 2, 3, 4, 5, 6, 7, 8, 9, 10, 13] [⟨11, 17, #[.int .i64 0, .int .i64 0, .int .i64 0, .int .i64 0], 38, 12, 123, #[.int .i64 0, .int .i64 (-1), .int .i64 0, .int .i64 0]⟩] (by kernel_rfl) rfl (by kernel_rfl) (by
                      intro x hx
                      simp only [List.mem_cons, List.not_mem_nil, or_false] at hx
                      subst hx
                      exact ⟨⟨_, rfl, ⟨⟨_, rfl, alloc_hit2⟩, rfl, rfl⟩⟩, _, rfl, ⟨⟨_, rfl, hit_size⟩, rfl, rfl, rfl, row_one4 _ _ _ _⟩⟩) ?_
                    refine Walk.step (A := ?A00) (o := ?o00) ?e00 ?w00 115 ?d00 (by simp) ?h00 ?n00
                    case e00 => simp only [List.getElem?_toArray, List.getElem?_cons_succ, List.getElem?_cons_zero]; exact rfl
                    case w00 => exact rfl
                    case d00 => exact rfl
                    case h00 =>
                      intro W9 hW9
                      go_big_quiet_op
                      exact rfl
                    refine Walk.step (A := ?A01) (o := ?o01) ?e01 ?w01 116 ?d01 (by simp) ?h01 ?n01
                    case e01 => simp only [List.getElem?_toArray, List.getElem?_cons_succ, List.getElem?_cons_zero]; exact rfl
                    case w01 => exact rfl
                    case d01 => exact rfl
                    case h01 =>
                      intro W9 hW9
                      go_big_quiet_op
                      exact rfl
                    refine Walk.step (A := ?A02) (o := ?o02) ?e02 ?w02 117 ?d02 (by simp) ?h02 ?n02
                    case e02 => simp only [List.getElem?_toArray, List.getElem?_cons_succ, List.getElem?_cons_zero]; exact rfl
                    case w02 => exact rfl
                    case d02 => exact rfl
                    case h02 =>
                      intro W9 hW9
                      go_big_quiet_op
                      exact rfl
                    refine Walk.step (A := ?A03) (o := ?o03) ?e03 ?w03 118 ?d03 (by simp) ?h03 ?n03
                    case e03 => simp only [List.getElem?_toArray, List.getElem?_cons_succ, List.getElem?_cons_zero]; exact rfl
                    case w03 => exact rfl
                    case d03 => exact rfl
                    case h03 =>
                      intro W9 hW9
                      have z1 := cell_all (KT.out W9 hW9) 1 _ rfl
                      have z2 := cell_all (KT.out W9 hW9) 2 _ rfl
                      have z3 := cell_all (KT.out W9 hW9) 3 _ rfl
                      go_big_quiet_op
                      exact rfl
                    refine Walk.step (A := ?A04) (o := ?o04) ?e04 ?w04 119 ?d04 (by simp) ?h04 ?n04
                    case e04 => simp only [List.getElem?_toArray, List.getElem?_cons_succ, List.getElem?_cons_zero]; exact rfl
                    case w04 => exact rfl
                    case d04 => exact rfl
                    case h04 =>
                      intro W9 hW9
                      go_big_quiet_op
                      exact rfl
                    refine Walk.step (A := ?A05) (o := ?o05) ?e05 ?w05 120 ?d05 (by simp) ?h05 ?n05
                    case e05 => simp only [List.getElem?_toArray, List.getElem?_cons_succ, List.getElem?_cons_zero]; exact rfl
                    case w05 => exact rfl
                    case d05 => exact rfl
                    case h05 =>
                      intro W9 hW9
                      have z0 := cell_all (KY.out W9 hW9) 0 _ rfl
                      have z1 := cell_all (KY.out W9 hW9) 1 _ rfl
                      have z2 := cell_all (KY.out W9 hW9) 2 _ rfl
                      have z3 := cell_all (KY.out W9 hW9) 3 _ rfl
                      have z4 := cell_all (KY.out W9 hW9) 4 _ rfl
                      have z5 := cell_all (KY.out W9 hW9) 5 _ rfl
                      go_big_quiet_op
                      exact rfl
                    refine Walk.step (A := ?A06) (o := ?o06) ?e06 ?w06 121 ?d06 (by simp) ?h06 ?n06
                    case e06 => simp only [List.getElem?_toArray, List.getElem?_cons_succ, List.getElem?_cons_zero]; exact rfl
                    case w06 => exact rfl
                    case d06 => exact rfl
                    case h06 =>
                      intro W9 hW9
                      go_big_quiet_op
                      exact rfl
                    refine Walk.step (A := ?A07) (o := ?o07) ?e07 ?w07 122 ?d07 (by simp) ?h07 ?n07
                    case e07 => simp only [List.getElem?_toArray, List.getElem?_cons_succ, List.getElem?_cons_zero]; exact rfl
                    case w07 => exact rfl
                    case d07 => exact rfl
                    case h07 =>
                      intro W9 hW9
                      have Q9 := qb (P := Try.prog) (W := W9) (fun w2 hb => CSI.out w2 (hW9.trans (hb.mono hW9.size)))
                      go_big_quiet_op
                      apply Exists.intro
                      refine ⟨fun _ => ?_, ?_⟩
                      · with_reducible exact Q9 _ _
                      · exact rfl
                    refine Walk.step (A := ?A08) (o := ?o08) ?e08 ?w08 114 ?d08 (by simp) ?h08 ?n08
                    case e08 => simp only [List.getElem?_toArray, List.getElem?_cons_succ, List.getElem?_cons_zero]; exact rfl
                    case w08 => exact rfl
                    case d08 => exact rfl
                    case h08 =>
                      intro W9 hW9
                      go_big_quiet_op
                      exact rfl
                    refine Walk.step (A := ?A09) (o := ?o09) ?e09 ?w09 123 ?d09 (by simp) ?h09 ?n09
                    case e09 => simp only [List.getElem?_toArray, List.getElem?_cons_succ, List.getElem?_cons_zero]; exact rfl
                    case w09 => exact rfl
                    case d09 => exact rfl
                    case h09 =>
                      intro W9 hW9
                      go_big_quiet_op
                      exact rfl
                    refine Walk.step (A := ?A010) (o := ?o010) ?e010 ?w010 124 ?d010 (by simp) ?h010 ?n010
                    case e010 => simp only [List.getElem?_toArray, List.getElem?_cons_succ, List.getElem?_cons_zero]; exact rfl
                    case w010 => exact rfl
                    case d010 => exact rfl
                    case h010 =>
                      intro W9 hW9
                      go_big_quiet_op
                      exact rfl
                    refine Walk.step (A := ?A011) (o := ?o011) ?e011 ?w011 18 ?d011 (by simp) ?h011 ?n011
                    case e011 => simp only [List.getElem?_toArray, List.getElem?_cons_succ, List.getElem?_cons_zero]; exact rfl
                    case w011 => exact rfl
                    case d011 => exact rfl
                    case h011 =>
                      intro W9 hW9
                      go_big_quiet_op
                      exact rfl
                    refine ⟨?_, ?_⟩
                    · intro x hx
                      simp only [List.mem_cons, List.not_mem_nil, or_false] at hx
                      subst hx
                      rfl
                    intro G hG hne y1 hb hk
                    have k7 := hk _ (List.mem_cons_self ..)
                    dsimp only at k7
                    simp only [lay, Act.put, List.setIfInBounds_toArray, List.set_cons_succ, List.set_cons_zero, ptr]
                    generalize G 11 = gH at k7 ⊢
                    have HX6 := Lib.hid (HX5.out.step hb)
                    have HHR := Lib.hid k7
                    clear hG hne hk hb k7 KT KY CSI z0 HX5
                    go_wp2_with fail
                    go_roundg (l.length - (k + 1))
                    case measure => exact HMR.out
                    case rel => exact ⟨k + 1, ck1, ⟨b2t, b2i, b2u, b2v⟩, HKK.out, rfl, by first | rfl | go_num, Lib.hid ⟨HC2.out, HTFX.out.symm, HX6.out⟩⟩
                  | some hh =>
                    obtain ⟨ht, hi_, hu, hv⟩ := hh
                    rw [hsh] at CSI HTFE
                    clear hsh
                    dsimp only at HTFE
                    have HTFX := Lib.hid (HTFI.out.trans HTFE)
                    clear HTFE HTFI
                    unfold shapeR at CSI
                    dsimp only [hitV, htN, Option.getD_some, Option.getD_none, Option.isSome_some, Option.isSome_none] at CSI
                    refine wp_region_free 135 [0, 1, 2, 3, 4, 5, 6, 7, 8, 9, 10, 13] [⟨11, 17, #[.int .i64 0, .int .i64 0, .int .i64 0, .int .i64 0], 38, 12, 123, #[.int .i64 ht, .int .i64 hi_, .int .i64 hu, .int .i64 hv]⟩] (by kernel_rfl) rfl (by kernel_rfl) (by
                      intro x hx
                      simp only [List.mem_cons, List.not_mem_nil, or_false] at hx
                      subst hx
                      exact ⟨⟨_, rfl, ⟨⟨_, rfl, alloc_hit2⟩, rfl, rfl⟩⟩, _, rfl, ⟨⟨_, rfl, hit_size⟩, rfl, rfl, rfl, row_one4 _ _ _ _⟩⟩) ?_
                    refine Walk.step (A := ?A10) (o := ?o10) ?e10 ?w10 115 ?d10 (by simp) ?h10 ?n10
                    case e10 => simp only [List.getElem?_toArray, List.getElem?_cons_succ, List.getElem?_cons_zero]; exact rfl
                    case w10 => exact rfl
                    case d10 => exact rfl
                    case h10 =>
                      intro W9 hW9
                      go_big_quiet_op
                      exact rfl
                    refine Walk.step (A := ?A11) (o := ?o11) ?e11 ?w11 116 ?d11 (by simp) ?h11 ?n11
                    case e11 => simp only [List.getElem?_toArray, List.getElem?_cons_succ, List.getElem?_cons_zero]; exact rfl
                    case w11 => exact rfl
                    case d11 => exact rfl
                    case h11 =>
                      intro W9 hW9
                      go_big_quiet_op
                      exact rfl
                    refine Walk.step (A := ?A12) (o := ?o12) ?e12 ?w12 117 ?d12 (by simp) ?h12 ?n12
                    case e12 => simp only [List.getElem?_toArray, List.getElem?_cons_succ, List.getElem?_cons_zero]; exact rfl
                    case w12 => exact rfl
                    case d12 => exact rfl
                    case h12 =>
                      intro W9 hW9
                      go_big_quiet_op
                      exact rfl
                    refine Walk.step (A := ?A13) (o := ?o13) ?e13 ?w13 118 ?d13 (by simp) ?h13 ?n13
                    case e13 => simp only [List.getElem?_toArray, List.getElem?_cons_succ, List.getElem?_cons_zero]; exact rfl
                    case w13 => exact rfl
                    case d13 => exact rfl
                    case h13 =>
                      intro W9 hW9
                      have z1 := cell_all (KT.out W9 hW9) 1 _ rfl
                      have z2 := cell_all (KT.out W9 hW9) 2 _ rfl
                      have z3 := cell_all (KT.out W9 hW9) 3 _ rfl
                      go_big_quiet_op
                      exact rfl
                    refine Walk.step (A := ?A14) (o := ?o14) ?e14 ?w14 119 ?d14 (by simp) ?h14 ?n14
                    case e14 => simp only [List.getElem?_toArray, List.getElem?_cons_succ, List.getElem?_cons_zero]; exact rfl
                    case w14 => exact rfl
                    case d14 => exact rfl
                    case h14 =>
                      intro W9 hW9
                      go_big_quiet_op
                      exact rfl
                    refine Walk.step (A := ?A15) (o := ?o15) ?e15 ?w15 120 ?d15 (by simp) ?h15 ?n15
                    case e15 => simp only [List.getElem?_toArray, List.getElem?_cons_succ, List.getElem?_cons_zero]; exact rfl
                    case w15 => exact rfl
                    case d15 => exact rfl
                    case h15 =>
                      intro W9 hW9
                      have z0 := cell_all (KY.out W9 hW9) 0 _ rfl
                      have z1 := cell_all (KY.out W9 hW9) 1 _ rfl
                      have z2 := cell_all (KY.out W9 hW9) 2 _ rfl
                      have z3 := cell_all (KY.out W9 hW9) 3 _ rfl
                      have z4 := cell_all (KY.out W9 hW9) 4 _ rfl
                      have z5 := cell_all (KY.out W9 hW9) 5 _ rfl
                      go_big_quiet_op
                      exact rfl
                    refine Walk.step (A := ?A16) (o := ?o16) ?e16 ?w16 121 ?d16 (by simp) ?h16 ?n16
                    case e16 => simp only [List.getElem?_toArray, List.getElem?_cons_succ, List.getElem?_cons_zero]; exact rfl
                    case w16 => exact rfl
                    case d16 => exact rfl
                    case h16 =>
                      intro W9 hW9
                      go_big_quiet_op
                      exact rfl
                    refine Walk.step (A := ?A17) (o := ?o17) ?e17 ?w17 122 ?d17 (by simp) ?h17 ?n17
                    case e17 => simp only [List.getElem?_toArray, List.getElem?_cons_succ, List.getElem?_cons_zero]; exact rfl
                    case w17 => exact rfl
                    case d17 => exact rfl
                    case h17 =>
                      intro W9 hW9
                      have Q9 := qb (P := Try.prog) (W := W9) (fun w2 hb => CSI.out w2 (hW9.trans (hb.mono hW9.size)))
                      go_big_quiet_op
                      apply Exists.intro
                      refine ⟨fun _ => ?_, ?_⟩
                      · with_reducible exact Q9 _ _
                      · exact rfl
                    refine Walk.step (A := ?A18) (o := ?o18) ?e18 ?w18 114 ?d18 (by simp) ?h18 ?n18
                    case e18 => simp only [List.getElem?_toArray, List.getElem?_cons_succ, List.getElem?_cons_zero]; exact rfl
                    case w18 => exact rfl
                    case d18 => exact rfl
                    case h18 =>
                      intro W9 hW9
                      go_big_quiet_op
                      exact rfl
                    refine Walk.step (A := ?A19) (o := ?o19) ?e19 ?w19 123 ?d19 (by simp) ?h19 ?n19
                    case e19 => simp only [List.getElem?_toArray, List.getElem?_cons_succ, List.getElem?_cons_zero]; exact rfl
                    case w19 => exact rfl
                    case d19 => exact rfl
                    case h19 =>
                      intro W9 hW9
                      go_big_quiet_op
                      exact rfl
                    refine Walk.step (A := ?A110) (o := ?o110) ?e110 ?w110 124 ?d110 (by simp) ?h110 ?n110
                    case e110 => simp only [List.getElem?_toArray, List.getElem?_cons_succ, List.getElem?_cons_zero]; exact rfl
                    case w110 => exact rfl
                    case d110 => exact rfl
                    case h110 =>
                      intro W9 hW9
                      go_big_quiet_op
                      exact rfl
                    refine Walk.step (A := ?A111) (o := ?o111) ?e111 ?w111 18 ?d111 (by simp) ?h111 ?n111
                    case e111 => simp only [List.getElem?_toArray, List.getElem?_cons_succ, List.getElem?_cons_zero]; exact rfl
                    case w111 => exact rfl
                    case d111 => exact rfl
                    case h111 =>
                      intro W9 hW9
                      go_big_quiet_op
                      exact rfl
                    refine ⟨?_, ?_⟩
                    · intro x hx
                      simp only [List.mem_cons, List.not_mem_nil, or_false] at hx
                      subst hx
                      rfl
                    intro G hG hne y1 hb hk
                    have k7 := hk _ (List.mem_cons_self ..)
                    dsimp only at k7
                    simp only [lay, Act.put, List.setIfInBounds_toArray, List.set_cons_succ, List.set_cons_zero, ptr]
                    generalize G 11 = gH at k7 ⊢
                    have HX6 := Lib.hid (HX5.out.step hb)
                    have HHR := Lib.hid k7
                    clear hG hne hk hb k7 KT KY CSI z0 HX5
                    have e0 := cell_row HHR.out 0 _ rfl
                    have e1 := cell_row HHR.out 1 _ rfl
                    have e2 := cell_row HHR.out 2 _ rfl
                    have e3 := cell_row HHR.out 3 _ rfl
                    have g0 := cell_row HX6.out.row 0 (.int .i64 b2t) rfl
                    have g1 := cell_row HX6.out.row 1 (.int .i64 b2i) rfl
                    have g2 := cell_row HX6.out.row 2 (.int .i64 b2u) rfl
                    have g3 := cell_row HX6.out.row 3 (.int .i64 b2v) rfl
                    go_wp2_with fail
                    refine (better_any ⟨ht, hi_, hu, hv⟩ ⟨b2t, b2i, b2u, b2v⟩ _).mono ?_
                    rintro e y2 ⟨rfl, hb⟩
                    have HX7 := Lib.hid (HX6.out.step hb)
                    have HH7 := Lib.hid (vec_step HHR.out hb)
                    clear hb HX6 HHR e0 g0 e1 g1 e2 g2 e3 g3
                    clear y1
                    cases hbf : betterF ⟨ht, hi_, hu, hv⟩ ⟨b2t, b2i, b2u, b2v⟩ with
                    | false =>
                      have HF := Lib.hid (HTFX.out.trans (by rw [hbf]; try rfl))
                      clear hbf
                      go_wp2_with fail
                      go_roundg (l.length - (k + 1))
                      case measure => exact HMR.out
                      case rel => exact ⟨k + 1, ck1, ⟨b2t, b2i, b2u, b2v⟩, HKK.out, rfl, by first | rfl | go_num, Lib.hid ⟨HC2.out, HF.out.symm, HX7.out⟩⟩
                    | true =>
                      have HF := Lib.hid (HTFX.out.trans (by rw [hbf]; try rfl))
                      clear hbf
                      have e0 := cell_row HH7.out 0 _ rfl
                      have e1 := cell_row HH7.out 1 _ rfl
                      have e2 := cell_row HH7.out 2 _ rfl
                      have e3 := cell_row HH7.out 3 _ rfl
                      go_wp2_with (with_reducible refine store_hit rfl (.tmp 8) (.tmp 131) rfl rfl g8 ht hi_ hu hv rfl rfl _ HX7.out.row rfl ?_)
                      go_roundg (l.length - (k + 1))
                      case measure => exact HMR.out
                      case rel => exact ⟨k + 1, ck1, ⟨ht, hi_, hu, hv⟩, HKK.out, rfl, by first | rfl | go_num, Lib.hid ⟨HC2.out, HF.out.symm, HX7.out.put (b' := ⟨ht, hi_, hu, hv⟩) (Nat.ne_of_lt HGA.out) (Nat.le_of_lt HG8.out)⟩⟩
                · have hkl : k = l.length := by omega
                  have d1 : decide ((k : Int) < ((tt - pf : Nat) : Int)) = false := decide_eq_false (by omega)
                  have d1b : decide (k < tt - pf) = false := decide_eq_false hk
                  have HKL := Lib.hid hkl
                  have HIN := Lib.hid hin.out
                  clear hkl hk hin hkr htp hft htl hcap HX4 HNX HCU hL32
                  go_wp2_with fail
                  go_roundg (wt ss)
                  case measure => rw [← HWT.out]; exact wt_drop _ ss
                  case rel => exact ⟨ss, b2, ck, L, rfl, rfl, rfl, Lib.hid ⟨HLN.out, HLO.out.tail (by rw [HA2.out l pi_ pf ss ⟨bt, bi, bu, bv⟩ c near HBH.out HSK.out, HIN.out.2.1, HIN.out.1, HC1.out, HKL.out, List.take_length]) (by have h1 := HIN.out.1; have h2 := HC1.out; have h3 := HKL.out; show ck ≤ c + 1 + l.length; omega), HIN.out.2.2⟩⟩
            | node l a b =>
              obtain ⟨P1, hP1⟩ : ∃ x, x = pi_ + 1 := ⟨_, rfl⟩
              obtain ⟨P2, hP2⟩ : ∃ x, x = pi_ + 1 + nodesT a := ⟨_, rfl⟩
              have hnd : nd = ⟨boxL m l, pf, pf + l.length, (P1 : Int), (P2 : Int)⟩ := by
                have h1 := HNE.out
                rw [HLP.out.node] at h1
                rw [hP1, hP2]
                exact (Option.some.inj h1).symm
              have x8 := HND.out x2 HNX.out.hb 8 (.int .i64 (P1 : Int)) (by rw [hnd]; rfl)
              have x9 := HND.out x2 HNX.out.hb 9 (.int .i64 (P2 : Int)) (by rw [hnd]; rfl)
              have HPP := Lib.hid (And.intro hP1 hP2)
              clear hP1 hP2 hnd
              have d1 : decide ((0 : Int) ≤ (P1 : Int)) = true := decide_eq_true (by omega)
              have hfk := fit_kids (ia := P1) (fa := pf) (ib := P2) (fb := pf + a.l.length) HLO.out.fit
              rw [← HLN.out] at hfk
              have HFK := Lib.hid hfk
              have hL1 : L1 < 32 := by have h1 := hfk.2; have h2 := HLB.out.1; omega
              obtain ⟨L2, hL2⟩ : ∃ x, x = L + 2 := ⟨_, rfl⟩
              have i3 : IntKind.i64.wrap ((L : Int) + 1) = (L1 : Int) := wrap_more L L1 HLB.out.1 (by have := HLB.out.2; omega)
              have i4 : IntKind.i64.wrap ((L : Int) + 2) = (L2 : Int) := by have := HLB.out.2; rw [wrap_in (by omega) (by omega)]; omega
              have HL2 := Lib.hid hL2
              clear hfk hL2
              have y1 := cell_row HCU.out L _ HPI.out
              have y2 := cell_row HCU.out L1 (cur[L1]'(by rw [HSZ.out]; exact hL1)) (Array.getElem?_eq_getElem _)
              have t1 := frozen_of_row _ _ L _ _ HCU.out
              have t2 := frozen_of_row _ _ L1 _ _ HCU.out
              have n1 : ¬ L1 = L := by have := HLB.out.1; omega
              have n2 : ¬ L = L1 := by have := HLB.out.1; omega
              have n3 : ¬ bn = g10 := by have := HBN.out; have := HG10.out; omega
              have n4 : ¬ g10 = bn := by have := HBN.out; have := HG10.out; omega
              go_upto_region 14 with (fail)
              go_region
              have HX3 := Lib.hid (HNX.out.push (q1 := ⟨a, P1, pf⟩) (q2 := ⟨b, P2, pf + a.l.length⟩) (Nat.ne_of_lt HGA.out) HG10.out HLN.out HLB.out.1 HFK.out.2 rfl rfl)
              obtain ⟨x3, hW⟩ : ∃ ww, ww = ((x2.setCell ⟨g10, L, none⟩ (.int .i64 (P2 : Int))).setCell ⟨g10, L1, none⟩ (.int .i64 (P1 : Int))).drew := ⟨_, rfl⟩
              rw [← hW] at HX3 ⊢
              clear hW x8 x9 d1 y1 y2 t1 t2 n1 n2 n3 n4 hL1 hL32
              go_wp2_with fail
              go_roundg (wt (⟨a, P1, pf⟩ :: ⟨b, P2, pf + a.l.length⟩ :: ss))
              case measure => rw [← HWT.out]; exact wt_kids l a b pi_ pf P1 pf P2 (pf + a.l.length) ss
              case rel => exact ⟨⟨a, P1, pf⟩ :: ⟨b, P2, pf + a.l.length⟩ :: ss, ⟨bt, bi, bu, bv⟩, c1, L2, rfl, rfl, rfl, Lib.hid ⟨by rw [HL2.out, HLN.out]; rfl, ⟨fun q hq => by
                  rcases List.mem_cons.1 hq with rfl | hq
                  · rw [HPP.out.1]; exact HLP.out.left
                  · rcases List.mem_cons.1 hq with rfl | hq
                    · rw [HPP.out.2]; exact HLP.out.right
                    · exact HLO.out.lies q (List.mem_cons_of_mem _ hq), HFK.out.1, by rw [HC1.out, ← HA3.out l a b pi_ pf ss ⟨bt, bi, bu, bv⟩ c near HBH.out HSK.out]; exact HLO.out.ans, by have h1 := HLO.out.bd; have h2 := cst_kids pi_ pf P1 pf P2 (pf + a.l.length) ss HLP.out.2.2; have h3 := HC1.out; omega⟩, HX3.out⟩⟩
end Go.Proofs.Ytdaokkgenfpmhaa.BvhG
