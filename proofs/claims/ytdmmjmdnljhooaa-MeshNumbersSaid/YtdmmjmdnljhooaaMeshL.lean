/- The walk of ref12's Read. -/
import Derived.Test.YtdmmjmdnljhooaaMeshK
import Derived.Test.YtdmmjmdnljhooaaQx
import Derived.Test.YtdmmjmdnljhooaaBase2
set_option linter.unusedVariables false
set_option linter.unusedSimpArgs false
namespace Go.Proofs.Ytdmmjmdnljhooaa.MeshL
open Go.RowKit Go.Sort FixM Base Num Qb Qt VecW VecV VecU LightQ LightC MeshM Rec MeshA MeshB MeshC MeshD MeshE MeshF MeshG MeshH MeshJ MeshK Qx

def triF (B : List Nat) (p : Nat) : V3 := ⟨i64F (numF B p 4), i64F (numF B (p + 4) 4), i64F (numF B (p + 8) 4)⟩
def balF (B : List Nat) (p : Nat) : B4 := ⟨vecF B p, i64F (numF B (p + 24) 8)⟩
def psF (B : List Nat) (n : Nat) : List V3 := (List.range n).map fun i => vecF B (12 + 24 * i)
def tsF (B : List Nat) (o n : Nat) : List V3 := (List.range n).map fun i => triF B (o + 12 * i)
def bsF (B : List Nat) (o n : Nat) : List B4 := (List.range n).map fun i => balF B (o + 32 * i)
def meshOf (B : List Nat) : Msh := ⟨psF B (numF B 0 4), tsF B (12 + 24 * numF B 0 4) (numF B 4 4), bsF B (12 + 24 * numF B 0 4 + 12 * numF B 4 4) (numF B 8 4)⟩
def sizeF (B : List Nat) : Nat := 12 + 24 * numF B 0 4 + 12 * numF B 4 4 + 32 * numF B 8 4
def codeF (B : List Nat) : Int := if B.length < 12 then 12 else if 4096 < numF B 0 4 ∨ 4096 < numF B 4 4 ∨ 4096 < numF B 8 4 then 3 else if B.length < sizeF B then 12 else if sizeF B < B.length then 10 else checkF (meshOf B)
def readF (B : List Nat) : Msh := if codeF B = 0 then meshOf B else ⟨[], [], []⟩
def RdTo (w : World) (B : List Nat) (e : Ending) (w' : World) : Prop := ∃ v, e = .returned (.tuple #[v, .int .i64 (codeF B)]) ∧ IsMesh w' v (readF B) ∧ Below w.heap.size w w'
theorem psF_len (B : List Nat) (n : Nat) : (psF B n).length = n := by simp [psF]
theorem tsF_len (B : List Nat) (o n : Nat) : (tsF B o n).length = n := by simp [tsF]
theorem bsF_len (B : List Nat) (o n : Nat) : (bsF B o n).length = n := by simp [bsF]
theorem psF_next (B : List Nat) (n : Nat) : psF B (n + 1) = psF B n ++ [vecF B (12 + 24 * n)] := by unfold psF; rw [List.range_succ, List.map_append]; rfl
theorem tsF_next (B : List Nat) (o n : Nat) : tsF B o (n + 1) = tsF B o n ++ [triF B (o + 12 * n)] := by unfold tsF; rw [List.range_succ, List.map_append]; rfl
theorem bsF_next (B : List Nat) (o n : Nat) : bsF B o (n + 1) = bsF B o n ++ [balF B (o + 32 * n)] := by unfold bsF; rw [List.range_succ, List.map_append]; rfl
theorem num4_lt (B : List Nat) (hB : ∀ x ∈ B, x < 256) (p : Nat) : numF B p 4 < 4294967296 := numF_lt B hB p 4
abbrev mrow3 (a b c : Value) : Array Value := #[a, b, c]
theorem mesh_size : (Try.prog.info? 30).map (·.size) = some 3 := by kernel_rfl
theorem store_mesh {ops : Array Oper} {rest : List Oper} {o : Oper} {a : Act} {w : World} {Q : Exit → Act → World → Prop} (hgd : o.guard = none) (x y : Operand) (ho : o.op = .store 30 x y) (hd : o.dst = none)
    (g : Nat) (v0 v1 v2 : Value) (hx : a.eval x = .pointer (some ⟨g, 0, none⟩)) (hy : a.eval y = .agg #[v0, v1, v2]) (cur : Array Value) (hg : w.heap[g]? = some (.cells cur 30)) (hc : cur.size = 3)
    (h1 : v0.oneCell' = true ∧ v1.oneCell' = true ∧ v2.oneCell' = true)
    (h : wpList Try.prog ops Q rest a (w.setRow g #[v0, v1, v2])) : wpList Try.prog ops Q (o :: rest) a w :=
  wpList_store_arr hgd 30 x y ho g _ hx hy 30 cur hg mesh_size (by rw [hc]; rfl) (by intro v hv; simp at hv; rcases hv with rfl | rfl | rfl; exact h1.1; exact h1.2.1; exact h1.2.2) hd h
theorem vecs_slice : RecSlice Try.prog 24 23 3 enc3 (.agg #[.int .i64 0, .int .i64 0, .int .i64 0]) 24 := recSlice Try.underlying24 (by kernel_rfl) rfl one3 len3 (by decide)
theorem tris_slice : RecSlice Try.prog 28 31 3 enc3 (.agg #[.int .i64 0, .int .i64 0, .int .i64 0]) 24 := recSlice Try.underlying28 (by kernel_rfl) rfl one3 len3 (by decide)
theorem balls_slice : RecSlice Try.prog 27 26 4 enc4 (.agg #[.int .i64 0, .int .i64 0, .int .i64 0, .int .i64 0]) 32 := recSlice Try.underlying27 (by kernel_rfl) rfl one4 len4 (by decide)
theorem empty_mesh (w : World) : IsMesh w (.agg #[.slice none 0 0, .slice none 0 0, .slice none 0 0]) ⟨[], [], []⟩ := ⟨⟨_, _, _, rfl, Recs.nil _, Recs.nil _, Recs.nil _⟩⟩
/-- the three slices under way: the result's block g2, the mesh's block g7, rows from NB on -/
structure Rm (w : World) (NB g2 g7 : Nat) (vp vt vb : Value) (lp lt : List V3) (lb : List B4) (wr : World) : Prop where
  op : RecsOwn 3 enc3 23 NB wr vp lp
  ot : RecsOwn 3 enc3 31 NB wr vt lt
  ob : RecsOwn 4 enc4 26 NB wr vb lb
  d01 : ∀ b, vp.ownBlock = some b → vt.ownBlock ≠ some b
  d02 : ∀ b, vp.ownBlock = some b → vb.ownBlock ≠ some b
  d12 : ∀ b, vt.ownBlock = some b → vb.ownBlock ≠ some b
  r7 : wr.heap[g7]? = some (.cells #[vp, vt, vb] 30)
  r2 : wr.heap[g2]? = some (.cells #[.slice none 0 0, .slice none 0 0, .slice none 0 0] 30)
  below : Below w.heap.size w wr
  low : w.heap.size ≤ g2 ∧ w.heap.size ≤ g7 ∧ g2 ≠ g7 ∧ g2 < NB ∧ g7 < NB
  nb : NB ≤ wr.heap.size
theorem Rm.setP {w wr w' : World} {NB g2 g7 : Nat} {vp vt vb v' : Value} {lp lt : List V3} {lb : List B4} {l' : List V3} (h : Rm w NB g2 g7 vp vt vb lp lt lb wr) (hk : Keeps (fun k => vp.ownBlock = some k) wr w')
    (ho : RecsOwn 3 enc3 23 NB w' v' l') (hv : v'.ownBlock = vp.ownBlock ∨ ∀ b, v'.ownBlock = some b → wr.heap.size ≤ b) : Rm w NB g2 g7 v' vt vb l' lt lb (w'.setCell ⟨g7, 0, none⟩ v') := by
  obtain ⟨l1, l2, l3, l4, l5⟩ := h.low
  have hsz := hk.size
  have hnb := h.nb
  have hS : ∀ x : World, x.heap.size ≥ 0 → Keeps (fun k => k = g7) x (x.setCell ⟨g7, 0, none⟩ v') := fun x _ => (Keeps.refl (fun k => k = g7) x).setCell g7 0 v' (.inl rfl)
  have hn7 : vp.ownBlock ≠ some g7 := fun e => by have := (h.op.lt _ e).1; omega
  have hn2 : vp.ownBlock ≠ some g2 := fun e => by have := (h.op.lt _ e).1; omega
  have hb : Below w.heap.size w w' := h.below.trans (hk.below w.heap.size (by omega) (fun k hk' => by have := (h.op.lt _ hk').1; omega))
  refine ⟨(ho.frame (hS w' (by omega)) (fun b hb e => by have := (ho.lt b hb).1; omega)), ((h.ot.frame hk (fun b hb e => h.d01 b e hb)).frame (hS w' (by omega)) (fun b hb e => by have := (h.ot.lt b hb).1; omega)), ((h.ob.frame hk (fun b hb e => h.d02 b e hb)).frame (hS w' (by omega)) (fun b hb e => by have := (h.ob.lt b hb).1; omega)), (fun b hb e => by rcases hv with e2 | e2; exact h.d01 b (by rw [← e2]; exact hb) e; have := e2 b hb; have := (h.ot.lt b e).2; omega), (fun b hb e => by rcases hv with e2 | e2; exact h.d02 b (by rw [← e2]; exact hb) e; have := e2 b hb; have := (h.ob.lt b e).2; omega), h.d12, ?_, ?_, setCell_below hb l2 _, h.low, Nat.le_trans (Nat.le_trans hnb hsz) (hS w' (by omega)).size⟩
  · rw [heap_setCell_same _ _ _ _ _ _ (keep_cell hk h.r7 hn7)]; rfl
  · rw [heap_setCell_other _ _ _ _ (fun e => l3 e)]; exact keep_cell hk h.r2 hn2
theorem Rm.setT {w wr w' : World} {NB g2 g7 : Nat} {vp vt vb v' : Value} {lp lt : List V3} {lb : List B4} {l' : List V3} (h : Rm w NB g2 g7 vp vt vb lp lt lb wr) (hk : Keeps (fun k => vt.ownBlock = some k) wr w')
    (ho : RecsOwn 3 enc3 31 NB w' v' l') (hv : v'.ownBlock = vt.ownBlock ∨ ∀ b, v'.ownBlock = some b → wr.heap.size ≤ b) : Rm w NB g2 g7 vp v' vb lp l' lb (w'.setCell ⟨g7, 1, none⟩ v') := by
  obtain ⟨l1, l2, l3, l4, l5⟩ := h.low
  have hsz := hk.size
  have hnb := h.nb
  have hS : ∀ x : World, x.heap.size ≥ 0 → Keeps (fun k => k = g7) x (x.setCell ⟨g7, 1, none⟩ v') := fun x _ => (Keeps.refl (fun k => k = g7) x).setCell g7 1 v' (.inl rfl)
  have hn7 : vt.ownBlock ≠ some g7 := fun e => by have := (h.ot.lt _ e).1; omega
  have hn2 : vt.ownBlock ≠ some g2 := fun e => by have := (h.ot.lt _ e).1; omega
  have hb : Below w.heap.size w w' := h.below.trans (hk.below w.heap.size (by omega) (fun k hk' => by have := (h.ot.lt _ hk').1; omega))
  refine ⟨((h.op.frame hk (fun b hb e => h.d01 b hb e)).frame (hS w' (by omega)) (fun b hb e => by have := (h.op.lt b hb).1; omega)), (ho.frame (hS w' (by omega)) (fun b hb e => by have := (ho.lt b hb).1; omega)), ((h.ob.frame hk (fun b hb e => h.d12 b e hb)).frame (hS w' (by omega)) (fun b hb e => by have := (h.ob.lt b hb).1; omega)), (fun b hb e => by rcases hv with e2 | e2; exact h.d01 b hb (by rw [← e2]; exact e); have := e2 b e; have := (h.op.lt b hb).2; omega), h.d02, (fun b hb e => by rcases hv with e2 | e2; exact h.d12 b (by rw [← e2]; exact hb) e; have := e2 b hb; have := (h.ob.lt b e).2; omega), ?_, ?_, setCell_below hb l2 _, h.low, Nat.le_trans (Nat.le_trans hnb hsz) (hS w' (by omega)).size⟩
  · rw [heap_setCell_same _ _ _ _ _ _ (keep_cell hk h.r7 hn7)]; rfl
  · rw [heap_setCell_other _ _ _ _ (fun e => l3 e)]; exact keep_cell hk h.r2 hn2
theorem Rm.setB {w wr w' : World} {NB g2 g7 : Nat} {vp vt vb v' : Value} {lp lt : List V3} {lb : List B4} {l' : List B4} (h : Rm w NB g2 g7 vp vt vb lp lt lb wr) (hk : Keeps (fun k => vb.ownBlock = some k) wr w')
    (ho : RecsOwn 4 enc4 26 NB w' v' l') (hv : v'.ownBlock = vb.ownBlock ∨ ∀ b, v'.ownBlock = some b → wr.heap.size ≤ b) : Rm w NB g2 g7 vp vt v' lp lt l' (w'.setCell ⟨g7, 2, none⟩ v') := by
  obtain ⟨l1, l2, l3, l4, l5⟩ := h.low
  have hsz := hk.size
  have hnb := h.nb
  have hS : ∀ x : World, x.heap.size ≥ 0 → Keeps (fun k => k = g7) x (x.setCell ⟨g7, 2, none⟩ v') := fun x _ => (Keeps.refl (fun k => k = g7) x).setCell g7 2 v' (.inl rfl)
  have hn7 : vb.ownBlock ≠ some g7 := fun e => by have := (h.ob.lt _ e).1; omega
  have hn2 : vb.ownBlock ≠ some g2 := fun e => by have := (h.ob.lt _ e).1; omega
  have hb : Below w.heap.size w w' := h.below.trans (hk.below w.heap.size (by omega) (fun k hk' => by have := (h.ob.lt _ hk').1; omega))
  refine ⟨((h.op.frame hk (fun b hb e => h.d02 b hb e)).frame (hS w' (by omega)) (fun b hb e => by have := (h.op.lt b hb).1; omega)), ((h.ot.frame hk (fun b hb e => h.d12 b hb e)).frame (hS w' (by omega)) (fun b hb e => by have := (h.ot.lt b hb).1; omega)), (ho.frame (hS w' (by omega)) (fun b hb e => by have := (ho.lt b hb).1; omega)), h.d01, (fun b hb e => by rcases hv with e2 | e2; exact h.d02 b hb (by rw [← e2]; exact e); have := e2 b e; have := (h.op.lt b hb).2; omega), (fun b hb e => by rcases hv with e2 | e2; exact h.d12 b hb (by rw [← e2]; exact e); have := e2 b e; have := (h.ot.lt b hb).2; omega), ?_, ?_, setCell_below hb l2 _, h.low, Nat.le_trans (Nat.le_trans hnb hsz) (hS w' (by omega)).size⟩
  · rw [heap_setCell_same _ _ _ _ _ _ (keep_cell hk h.r7 hn7)]; rfl
  · rw [heap_setCell_other _ _ _ _ (fun e => l3 e)]; exact keep_cell hk h.r2 hn2
theorem keeps_grown {S : Nat → Prop} {w0 w w' : World} {v : Value} (h : Keeps S w0 w) (hg : w.grownBy w' v.ownBlock) (hS : ∀ k, v.ownBlock = some k → S k) : Keeps S w0 w' :=
  ⟨hg.os.trans h.os, hg.tape.trans h.tape, hg.output.trans h.output, Nat.le_trans h.size hg.size, fun k hk hn => (hg.block k (Nat.lt_of_lt_of_le hk h.size) (fun e => hn (hS k e.symm))).trans (h.block k hk hn)⟩
set_option maxRecDepth 100000 in
set_option maxHeartbeats 16000000 in
theorem rread_any (w : World) (v : Value) (B : List Nat) (hv : Nums .u8 256 w v B) (hB : B.length ≤ 1000000) : Calls Try.prog 16 #[v] w (RdTo w B) := by
  obtain ⟨a, cap, rfl, -, -⟩ := hv.shape
  have hbd := hv.bound
  have HV := Lib.hid hv
  have HO := Lib.hid (show RdTo w B = fun e w' => ∃ v, e = .returned (.tuple #[v, .int .i64 (codeF B)]) ∧ IsMesh w' v (readF B) ∧ Below w.heap.size w w' from rfl)
  have HC := Lib.hid (show codeF B = if B.length < 12 then 12 else if 4096 < numF B 0 4 ∨ 4096 < numF B 4 4 ∨ 4096 < numF B 8 4 then 3 else if B.length < sizeF B then 12 else if sizeF B < B.length then 10 else checkF (meshOf B) from rfl)
  have HRD := Lib.hid (show readF B = if codeF B = 0 then meshOf B else ⟨[], [], []⟩ from rfl)
  obtain ⟨cd, hcd⟩ : ∃ c, c = codeF B := ⟨_, rfl⟩
  obtain ⟨rd, hrd⟩ : ∃ c, c = readF B := ⟨_, rfl⟩
  obtain ⟨QQ, hQQ⟩ : ∃ Q, Q = RdTo w B := ⟨_, rfl⟩
  rw [← hQQ] at HO ⊢
  rw [← hcd] at HO HC HRD
  rw [← hrd] at HO HRD
  clear hcd hrd hQQ hv
  obtain ⟨W, hW⟩ : ∃ W, W = w.alloc (.cells #[.slice none 0 0, .slice none 0 0, .slice none 0 0] 30) := ⟨_, rfl⟩
  have HG2 := Lib.hid (show W.heap[w.heap.size]? = some (.cells #[.slice none 0 0, .slice none 0 0, .slice none 0 0] 30) by rw [hW]; exact heap_alloc_new _ _)
  have HB0 := Lib.hid (show Below w.heap.size w W by rw [hW]; exact ext_alloc _ _)
  have HVW := Lib.hid (HV.out.below HB0.out (Nat.le_refl _))
  have HWW := Lib.hid hW
  clear hW
  have EARLY := Lib.hid (fun (k : Int) (hk : cd = k) (h0 : k ≠ 0) => (show QQ (.returned (.tuple #[.agg #[.slice none 0 0, .slice none 0 0, .slice none 0 0], .int .i64 k])) (W.setRow w.heap.size #[.slice none 0 0, .slice none 0 0, .slice none 0 0]) from by
    rw [HO.out]
    refine ⟨_, by rw [hk], ?_, below_setRow HB0.out (Nat.le_refl _) _⟩
    rw [HRD.out, if_neg (by rw [hk]; exact h0)]
    exact empty_mesh _))
  by_cases h0 : B.length < 12
  · have d0 : decide ((B.length : Int) < 12) = true := decide_eq_true (by omega)
    have hk : cd = 12 := by rw [HC.out, if_pos h0]
    have HK := Lib.hid hk
    clear h0 hk
    go_enter Try.func16, Try.ntmps16
    go_wp2_with (with_reducible refine store_mesh rfl (.tmp 2) (.tmp 15) rfl rfl w.heap.size (.slice none 0 0) (.slice none 0 0) (.slice none 0 0) rfl rfl _ (heap_alloc_new _ _) rfl ⟨rfl, rfl, rfl⟩ ?_)
    rw [← HWW.out]
    refine bodyPost_ret (results_row_tmp rfl _ _ _ w.heap.size 30 #[.slice none 0 0, .slice none 0 0, .slice none 0 0] _ _ rfl (setRow_heap _ _ _ _ _ _ HG2.out) Try.underlying30 mesh_size) rfl ?_
    exact EARLY.out 12 HK.out (by decide)
  · have d0 : decide ((B.length : Int) < 12) = false := decide_eq_false (by omega)
    have N1 := Lib.hid (number_any W _ B 0 4 HVW.out (by decide) (by omega) (by omega))
    have N2 := Lib.hid (number_any W _ B 4 4 HVW.out (by decide) (by omega) (by omega))
    have N3 := Lib.hid (number_any W _ B 8 4 HVW.out (by decide) (by omega) (by omega))
    have b1 := num4_lt B hbd 0
    have b2 := num4_lt B hbd 4
    have b3 := num4_lt B hbd 8
    have HSZ := Lib.hid (show sizeF B = 12 + 24 * numF B 0 4 + 12 * numF B 4 4 + 32 * numF B 8 4 from rfl)
    have HME := Lib.hid (show meshOf B = ⟨psF B (numF B 0 4), tsF B (12 + 24 * numF B 0 4) (numF B 4 4), bsF B (12 + 24 * numF B 0 4 + 12 * numF B 4 4) (numF B 8 4)⟩ from rfl)
    obtain ⟨sz, hsz⟩ : ∃ s, s = sizeF B := ⟨_, rfl⟩
    obtain ⟨me, hme⟩ : ∃ s, s = meshOf B := ⟨_, rfl⟩
    rw [← hsz] at HC HSZ
    rw [← hme] at HC HME HRD
    obtain ⟨np, hnp⟩ : ∃ n, n = numF B 0 4 := ⟨_, rfl⟩
    obtain ⟨nt, hnt⟩ : ∃ n, n = numF B 4 4 := ⟨_, rfl⟩
    obtain ⟨nb, hnb⟩ : ∃ n, n = numF B 8 4 := ⟨_, rfl⟩
    rw [← hnp] at N1 b1 HSZ HME HC
    rw [← hnt] at N2 b2 HSZ HME HC
    rw [← hnb] at N3 b3 HSZ HME HC
    have i1 : IntKind.i64.wrap (np : Int) = (np : Int) := wrap_in (by omega) (by omega)
    have i2 : IntKind.i64.wrap (nt : Int) = (nt : Int) := wrap_in (by omega) (by omega)
    have i3 : IntKind.i64.wrap (nb : Int) = (nb : Int) := wrap_in (by omega) (by omega)
    have HH0 := Lib.hid (show 12 ≤ B.length by omega)
    clear hsz hme hnp hnt hnb b1 b2 b3 h0
    by_cases h1 : 4096 < np ∨ 4096 < nt ∨ 4096 < nb
    · have hk : cd = 3 := by rw [HC.out, if_neg (by have := HH0.out; omega), if_pos h1]
      have HK := Lib.hid hk
      have fin : ∀ (a1 a2 a3 : Bool), decide (4096 < (np : Int)) = a1 → decide (4096 < (nt : Int)) = a2 → decide (4096 < (nb : Int)) = a3 → (a1 || a2 || a3) = true := by
        rintro a1 a2 a3 rfl rfl rfl
        simp; omega
      obtain ⟨a1, e1⟩ : ∃ a, decide (4096 < (np : Int)) = a := ⟨_, rfl⟩
      obtain ⟨a2, e2⟩ : ∃ a, decide (4096 < (nt : Int)) = a := ⟨_, rfl⟩
      obtain ⟨a3, e3⟩ : ∃ a, decide (4096 < (nb : Int)) = a := ⟨_, rfl⟩
      have ha := fin a1 a2 a3 e1 e2 e3
      clear fin h1 hk
      go_enter Try.func16, Try.ntmps16
      go_wp2_with fail
      rw [← HWW.out]
      refine N1.out.mono ?_
      rintro e w' ⟨rfl, rfl⟩
      go_wp2_with fail
      refine N2.out.mono ?_
      rintro e w' ⟨rfl, rfl⟩
      go_wp2_with fail
      refine N3.out.mono ?_
      rintro e w' ⟨rfl, rfl⟩
      cases a1 <;> cases a2 <;> cases a3 <;> first
        | (exact absurd ha (by decide))
        | (go_wp2_with (with_reducible refine store_mesh rfl (.tmp 2) (.tmp 35) rfl rfl w.heap.size (.slice none 0 0) (.slice none 0 0) (.slice none 0 0) rfl rfl _ HG2.out rfl ⟨rfl, rfl, rfl⟩ ?_)
           refine bodyPost_ret (results_row_tmp rfl _ _ _ w.heap.size 30 #[.slice none 0 0, .slice none 0 0, .slice none 0 0] _ _ rfl (setRow_heap _ _ _ _ _ _ HG2.out) Try.underlying30 mesh_size) rfl ?_
           exact EARLY.out 3 HK.out (by decide))
    · have HN4 := Lib.hid (show np ≤ 4096 ∧ nt ≤ 4096 ∧ nb ≤ 4096 by omega)
      have g1 : decide (4096 < (np : Int)) = false := decide_eq_false (by omega)
      have g2 : decide (4096 < (nt : Int)) = false := decide_eq_false (by omega)
      have g3 : decide (4096 < (nb : Int)) = false := decide_eq_false (by omega)
      have HC2 := Lib.hid (show cd = if B.length < sz then 12 else if sz < B.length then 10 else checkF me by rw [HC.out, if_neg (by have := HH0.out; omega), if_neg h1])
      have n1 : np ≤ 4096 := HN4.out.1
      have n2 : nt ≤ 4096 := HN4.out.2.1
      have n3 : nb ≤ 4096 := HN4.out.2.2
      have f1 : IntKind.i64.wrap (24 * (np : Int)) = 24 * (np : Int) := wrap_in (by omega) (by omega)
      have f2 : IntKind.i64.wrap (12 + 24 * (np : Int)) = 12 + 24 * (np : Int) := wrap_in (by omega) (by omega)
      have f3 : IntKind.i64.wrap (12 * (nt : Int)) = 12 * (nt : Int) := wrap_in (by omega) (by omega)
      have f4 : IntKind.i64.wrap (12 + 24 * (np : Int) + 12 * (nt : Int)) = 12 + 24 * (np : Int) + 12 * (nt : Int) := wrap_in (by omega) (by omega)
      have f5 : IntKind.i64.wrap (32 * (nb : Int)) = 32 * (nb : Int) := wrap_in (by omega) (by omega)
      have f6 : IntKind.i64.wrap (12 + 24 * (np : Int) + 12 * (nt : Int) + 32 * (nb : Int)) = (sz : Int) := by rw [HSZ.out, wrap_in (by omega) (by omega)]; omega
      clear HC h1
      by_cases h2 : B.length < sz
      · have e1 : decide (B.length < sz) = true := decide_eq_true h2
        have e2 : decide ((B.length : Int) < (sz : Int)) = true := decide_eq_true (by omega)
        have HK := Lib.hid (show cd = 12 by rw [HC2.out, if_pos h2])
        clear h2 n1 n2 n3
        go_enter Try.func16, Try.ntmps16
        go_wp2_with fail
        rw [← HWW.out]
        refine N1.out.mono ?_
        rintro e w' ⟨rfl, rfl⟩
        go_wp2_with fail
        refine N2.out.mono ?_
        rintro e w' ⟨rfl, rfl⟩
        go_wp2_with fail
        refine N3.out.mono ?_
        rintro e w' ⟨rfl, rfl⟩
        go_wp2_with (with_reducible refine store_mesh rfl (.tmp 2) (.tmp 48) rfl rfl w.heap.size (.slice none 0 0) (.slice none 0 0) (.slice none 0 0) rfl rfl _ HG2.out rfl ⟨rfl, rfl, rfl⟩ ?_)
        refine bodyPost_ret (results_row_tmp rfl _ _ _ w.heap.size 30 #[.slice none 0 0, .slice none 0 0, .slice none 0 0] _ _ rfl (setRow_heap _ _ _ _ _ _ HG2.out) Try.underlying30 mesh_size) rfl ?_
        exact EARLY.out 12 HK.out (by decide)
      · have e1 : decide (B.length < sz) = false := decide_eq_false h2
        have e2 : decide ((B.length : Int) < (sz : Int)) = false := decide_eq_false (by omega)
        by_cases h3 : sz < B.length
        · have e3 : decide (sz < B.length) = true := decide_eq_true h3
          have e4 : decide ((sz : Int) < (B.length : Int)) = true := decide_eq_true (by omega)
          have HK := Lib.hid (show cd = 10 by rw [HC2.out, if_neg h2, if_pos h3])
          clear h2 h3 n1 n2 n3
          go_enter Try.func16, Try.ntmps16
          go_wp2_with fail
          rw [← HWW.out]
          refine N1.out.mono ?_
          rintro e w' ⟨rfl, rfl⟩
          go_wp2_with fail
          refine N2.out.mono ?_
          rintro e w' ⟨rfl, rfl⟩
          go_wp2_with fail
          refine N3.out.mono ?_
          rintro e w' ⟨rfl, rfl⟩
          go_wp2_with (with_reducible refine store_mesh rfl (.tmp 2) (.tmp 61) rfl rfl w.heap.size (.slice none 0 0) (.slice none 0 0) (.slice none 0 0) rfl rfl _ HG2.out rfl ⟨rfl, rfl, rfl⟩ ?_)
          refine bodyPost_ret (results_row_tmp rfl _ _ _ w.heap.size 30 #[.slice none 0 0, .slice none 0 0, .slice none 0 0] _ _ rfl (setRow_heap _ _ _ _ _ _ HG2.out) Try.underlying30 mesh_size) rfl ?_
          exact EARLY.out 10 HK.out (by decide)
        · have e3 : decide (sz < B.length) = false := decide_eq_false h3
          have e4 : decide ((sz : Int) < (B.length : Int)) = false := decide_eq_false (by omega)
          have HK := Lib.hid (show cd = checkF me by rw [HC2.out, if_neg h2, if_neg h3])
          have HLN := Lib.hid (show B.length = 12 + 24 * np + 12 * nt + 32 * nb by have := HSZ.out; omega)
          clear h2 h3 n1 n2 n3
          go_enter Try.func16, Try.ntmps16
          go_wp2_with fail
          rw [← HWW.out]
          refine N1.out.mono ?_
          rintro e w' ⟨rfl, rfl⟩
          go_wp2_with fail
          refine N2.out.mono ?_
          rintro e w' ⟨rfl, rfl⟩
          go_wp2_with fail
          refine N3.out.mono ?_
          rintro e w' ⟨rfl, rfl⟩
          go_wp2_with fail
          obtain ⟨V, hV⟩ : ∃ V, V = W.alloc (.cells #[.slice none 0 0, .slice none 0 0, .slice none 0 0] 30) := ⟨_, rfl⟩
          rw [← hV]
          have hvs : V.heap.size = W.heap.size + 1 := by rw [hV]; simp
          have hlw := lt_of_heap HG2.out
          have hbv : Below W.heap.size W V := by rw [hV]; exact ext_alloc _ _
          have RM := Lib.hid (show Rm w V.heap.size w.heap.size W.heap.size (.slice none 0 0) (.slice none 0 0) (.slice none 0 0) [] [] [] V from
            ⟨RecsOwn.nil _ _ _, RecsOwn.nil _ _ _, RecsOwn.nil _ _ _, by simp [Value.ownBlock], by simp [Value.ownBlock], by simp [Value.ownBlock], by rw [hV]; exact heap_alloc_new _ _, vec_step HG2.out hbv, HB0.out.trans (hbv.mono HB0.out.size), ⟨Nat.le_refl _, by omega, by omega, by omega, by omega⟩, Nat.le_refl _⟩)
          clear hV hvs hlw hbv N1 N2 N3 EARLY HG2 HB0 HVW HWW f1 f2 f3 f4 f5 f6 e1 e2 e3 e4 g1 g2 g3 i1 i2 i3 d0
          generalize V.heap.size = NB at *
          generalize W.heap.size = g7 at *
          clear W
          go_loopg [8, 9] np (fun r n8 n9 wr => ∃ (i : Nat) (vp : Value), i + r = np ∧ n8 = .int .i64 ((12 + 24 * i : Nat) : Int) ∧ n9 = .int .i64 (i : Int) ∧ Hid (Rm w NB w.heap.size g7 vp (.slice none 0 0) (.slice none 0 0) (psF B i) [] [] wr))
          case atStart => exact ⟨0, .slice none 0 0, by omega, rfl, rfl, RM⟩
          case round =>
            obtain ⟨i, vp, hir, rfl, rfl, hin⟩ := hrel
            by_cases hi : i < np
            · have hi2 : (i : Int) < (np : Int) := by omega
              have hi4 : i < 4096 := by have := HN4.out; omega
              have d3 : decide (i < np) = true := decide_eq_true hi
              have d2 : decide ((i : Int) < (np : Int)) = true := decide_eq_true hi2
              have HRR := Lib.hid hir
              have HII := Lib.hid hi
              obtain ⟨P, hP⟩ : ∃ P, P = 12 + 24 * i := ⟨_, rfl⟩
              have hPl : P + 24 ≤ B.length := by have := HLN.out; have := HN4.out; omega
              have wP : IntKind.i64.wrap ((P : Int) + 24) = ((12 + 24 * (i + 1) : Nat) : Int) := by rw [wrap_in (by omega) (by omega)]; omega
              rw [← hP]
              have HPP := Lib.hid hP
              have HPL := Lib.hid hPl
              clear hir hi hP hPl
              have CV := Lib.hid (fun (w2 : World) (hn : Nums .u8 256 w2 (.slice a B.length cap) B) => rvec_any w2 _ B P hn (by have := HPL.out; omega) (by omega))
              obtain ⟨qv, hqv⟩ : ∃ q, q = vecF B P := ⟨_, rfl⟩
              rw [← hqv] at CV
              have HQE := Lib.hid (show vecF B P = qv from hqv.symm)
              clear hqv
              obtain ⟨x, y, z⟩ := qv
              have HJ := Lib.hid (fun (w1 w2 : World) (h : Keeps (fun k => vp.ownBlock = some k) wr w1) (hb : Below w1.heap.size w1 w2) => MeshG.Keeps.more h hb)
              have HG := Lib.hid (fun (w1 w2 : World) (h : Keeps (fun k => vp.ownBlock = some k) wr w1) (_ : RecsOwn 3 enc3 23 NB w1 vp (psF B i)) (hg : w1.grownBy w2 vp.ownBlock) => keeps_grown h hg (fun k e => e))
              have HBA := Lib.hid (fun (w1 : World) (h : Keeps (fun k => vp.ownBlock = some k) wr w1) => Nat.le_trans hin.out.nb h.size)
              have HB2 := Lib.hid (fun (w1 : World) (h : Keeps (fun k => vp.ownBlock = some k) wr w1) => h.size)
              have HR7 := Lib.hid (fun (w1 : World) (h : Keeps (fun k => vp.ownBlock = some k) wr w1) => keep_cell h hin.out.r7 (fun e => by have := (hin.out.op.lt _ e).1; have := hin.out.low; omega))
              have HNB := Lib.hid (fun (w1 w2 : World) (h : Keeps (fun k => vp.ownBlock = some k) wr w1) (hb : Below w1.heap.size w1 w2) => HV.out.below ((hin.out.below.trans (h.below w.heap.size hin.out.below.size (fun k hk => by have := (hin.out.op.lt _ hk).1; have := hin.out.low; omega))).trans (hb.mono (Nat.le_trans hin.out.below.size h.size))) (Nat.le_refl _))
              have HS0 := Lib.hid (show PhD 3 enc3 23 NB wr.heap.size (fun w' => Keeps (fun k => vp.ownBlock = some k) wr w') (fun w' => Keeps (fun k => vp.ownBlock = some k) wr w') vp (psF B i) (⟨x, y, z⟩ : V3) #[.int .i64 x, .int .i64 y, .int .i64 z] Ph.p0 wr from ⟨Keeps.refl _ _, hin.out.op⟩)
              have HLE := Lib.hid (show ((psF B i).length + 1) * 24 ≤ 140737488355328 by rw [psF_len]; have := HN4.out; have := HII.out; omega)
              have HLE2 := Lib.hid (show (psF B i).length + 1 ≤ 140737488355328 by rw [psF_len]; have := HN4.out; have := HII.out; omega)
              go_upto_region 15 with (fail)
              refine Qw.wp_region_writes 7 [0, 1, 2, 3, 4] [5, 6] (PhD 3 enc3 23 NB wr.heap.size (fun w' => Keeps (fun k => vp.ownBlock = some k) wr w') (fun w' => Keeps (fun k => vp.ownBlock = some k) wr w') vp (psF B i) (⟨x, y, z⟩ : V3) #[.int .i64 x, .int .i64 y, .int .i64 z]) Ph.p0 (by kernel_rfl) (by kernel_rfl) (PhD.step HJ.out HJ.out Ph.p0 wr _ HS0.out ⟨rfl, rfl, rfl, Nat.le_refl _, fun _ _ => rfl⟩) ?_
              refine Qw.Walk.step (A := ?A1) (o := ?o1) (fun s w w2 h hb => PhD.step HJ.out HJ.out s w w2 h hb) Ph.p0 wr HS0.out ?e1 ?w1 67 ?d1 (by simp) ?h1 ?n1
              case e1 => simp only [List.getElem?_toArray, List.getElem?_cons_succ, List.getElem?_cons_zero]; exact rfl
              case w1 => exact rfl
              case d1 => exact rfl
              case h1 =>
                intro s9 w9 h9
                go_big_quiet_op
                exact rfl
              refine Qw.Walk.step (A := ?A2) (o := ?o2) (fun s w w2 h hb => PhD.step HJ.out HJ.out s w w2 h hb) Ph.p0 wr HS0.out ?e2 ?w2 68 ?d2 (by simp) ?h2 ?n2
              case e2 => simp only [List.getElem?_toArray, List.getElem?_cons_succ, List.getElem?_cons_zero]; exact rfl
              case w2 => exact rfl
              case d2 => exact rfl
              case h2 =>
                intro s9 w9 h9
                have hJ9 : (fun w' => Keeps (fun k => vp.ownBlock = some k) wr w') w9 := by cases s9 <;> exact h9.1
                have e0 := cell_all (HR7.out w9 hJ9) 0 vp rfl
                go_big_quiet_op
                exact rfl
              refine Qw.Walk.step (A := ?A3) (o := ?o3) (fun s w w2 h hb => PhD.step HJ.out HJ.out s w w2 h hb) Ph.p0 wr HS0.out ?e3 ?w3 69 ?d3 (by simp) ?h3 ?n3
              case e3 => simp only [List.getElem?_toArray, List.getElem?_cons_succ, List.getElem?_cons_zero]; exact rfl
              case w3 => exact rfl
              case d3 => exact rfl
              case h3 =>
                intro s9 w9 h9
                go_big_quiet_op
                exact rfl
              refine Qw.Walk.step (A := ?A4) (o := ?o4) (fun s w w2 h hb => PhD.step HJ.out HJ.out s w w2 h hb) Ph.p0 wr HS0.out ?e4 ?w4 70 ?d4 (by simp) ?h4 ?n4
              case e4 => simp only [List.getElem?_toArray, List.getElem?_cons_succ, List.getElem?_cons_zero]; exact rfl
              case w4 => exact rfl
              case d4 => exact rfl
              case h4 =>
                intro s9 w9 h9
                go_big_quiet_op
                exact rfl
              refine Qw.Walk.step (A := ?A5) (o := ?o5) (fun s w w2 h hb => PhD.step HJ.out HJ.out s w w2 h hb) Ph.p0 wr HS0.out ?e5 ?w5 71 ?d5 (by simp) ?h5 ?n5
              case e5 => simp only [List.getElem?_toArray, List.getElem?_cons_succ, List.getElem?_cons_zero]; exact rfl
              case w5 => exact rfl
              case d5 => exact rfl
              case h5 =>
                intro s9 w9 h9
                have hJ9 : (fun w' => Keeps (fun k => vp.ownBlock = some k) wr w') w9 := by cases s9 <;> exact h9.1
                have Q9 := qb (P := Try.prog) (W := w9) (fun w2 hb => CV.out w2 (HNB.out w9 w2 hJ9 hb))
                go_big_quiet_op
                apply Exists.intro
                refine ⟨fun _ => ?_, ?_⟩
                · with_reducible exact Q9 _ _
                · exact rfl
              refine Qx.Chain.app (ob := ?ob5) (oa := ?oa5) vecs_slice HJ.out HG.out HBA.out HB2.out rfl HLE.out HLE2.out ?b15 ?b25 ?b35 ?b45 ?b65 (.tmp 68) (.tmp 72) ?b75 ?b85 ?b95 ?b55
              case b15 => simp only [List.getElem?_toArray, List.getElem?_cons_succ, List.getElem?_cons_zero]; exact rfl
              case b45 => simp only [List.getElem?_toArray, List.getElem?_cons_succ, List.getElem?_cons_zero]; exact rfl
              case b25 => exact rfl
              case b65 => exact rfl
              case b75 => exact rfl
              case b85 => exact fun gs => rfl
              case b95 => exact fun gs => rfl
              case b35 => intro w9; simp [execOp, Act.eval, Act.put, go_sem]
              intro gs v9 w9 h9
              have H9 := Lib.hid h9
              clear h9
              simp only [List.drop_succ_cons, List.drop_zero, Act.put, List.setIfInBounds_toArray, List.set_cons_succ, List.set_cons_zero]
              obtain ⟨a9, c9, hv9⟩ := H9.out.2.1.slice_
              generalize (_ ++ _ : List _).length = n9 at hv9
              subst hv9
              have r9 := HR7.out _ H9.out.1
              have q9 := cell_row r9 0 _ rfl
              have t9 := frozen_of_row _ _ 0 _ _ r9
              go_wp2_with fail
              clear q9 t9 r9
              go_roundg (np - (i + 1))
              case measure => have := HRR.out; have := HII.out; omega
              case rel =>
                refine ⟨i + 1, .slice a9 n9 c9, by have := HRR.out; have := HII.out; omega, rfl, by go_num, Lib.hid ?_⟩
                rw [psF_next, ← HPP.out, HQE.out]
                exact hin.out.setP H9.out.1 H9.out.2.1 H9.out.2.2
            · have d3 : decide (i < np) = false := decide_eq_false hi
              have d2 : decide ((i : Int) < (np : Int)) = false := decide_eq_false (by omega)
              obtain rfl : i = np := by omega
              have HI := Lib.hid hin.out
              clear hin hir
              go_wp2_with fail
              clear d2 d3
              go_loopg [8, 10] nt (fun r n8 n9 wr => ∃ (j : Nat) (vt : Value), j + r = nt ∧ n8 = .int .i64 ((12 + 24 * i + 12 * j : Nat) : Int) ∧ n9 = .int .i64 (j : Int) ∧ Hid (Rm w NB w.heap.size g7 vp vt (.slice none 0 0) (psF B i) (tsF B (12 + 24 * i) j) [] wr))
              case atStart => exact ⟨0, .slice none 0 0, by omega, by first | rfl | (congr 1; omega), rfl, HI⟩
              case round =>
                obtain ⟨j, vt, hir, rfl, rfl, hin⟩ := hrel
                by_cases hi : j < nt
                · have hi2 : (j : Int) < (nt : Int) := by omega
                  have hi4 : j < 4096 := by have := HN4.out; omega
                  have d3 : decide (j < nt) = true := decide_eq_true hi
                  have d2 : decide ((j : Int) < (nt : Int)) = true := decide_eq_true hi2
                  have HRR := Lib.hid hir
                  have HII := Lib.hid hi
                  obtain ⟨P, hP⟩ : ∃ P, P = 12 + 24 * i + 12 * j := ⟨_, rfl⟩
                  have hPl : P + 12 ≤ B.length := by have := HLN.out; have := HN4.out; omega
                  have wP : IntKind.i64.wrap ((P : Int) + 12) = ((12 + 24 * i + 12 * (j + 1) : Nat) : Int) := by rw [wrap_in (by omega) (by omega)]; omega
                  rw [← hP]
                  have HPP := Lib.hid hP
                  have HPL := Lib.hid hPl
                  clear hir hi hP hPl
                  have CN1 := Lib.hid (fun (w2 : World) (hn : Nums .u8 256 w2 (.slice a B.length cap) B) => (same_below (number_any w2 _ B P 4 hn (by decide) (by have := HPL.out; omega) (by omega)) : Calls Try.prog 39 #[.slice a B.length cap, .int .i64 (P : Int), .int .i64 4] w2 (VTo (.int .u64 ((numF B P 4 : Nat) : Int)) w2)))
                  obtain ⟨X1, hX1⟩ : ∃ q, q = numF B P 4 := ⟨_, rfl⟩
                  rw [← hX1] at CN1
                  obtain ⟨x, hx⟩ : ∃ q, q = i64F X1 := ⟨_, rfl⟩
                  have ex : IntKind.i64.wrap (X1 : Int) = x := hx.symm
                  obtain ⟨P4, hP4⟩ : ∃ q, q = P + 4 := ⟨_, rfl⟩
                  have wP4 : IntKind.i64.wrap ((P : Int) + 4) = (P4 : Int) := by have := HPL.out; rw [hP4, wrap_in (by omega) (by omega)]; omega
                  have CN2 := Lib.hid (fun (w2 : World) (hn : Nums .u8 256 w2 (.slice a B.length cap) B) => (same_below (number_any w2 _ B P4 4 hn (by decide) (by have := HPL.out; omega) (by omega)) : Calls Try.prog 39 #[.slice a B.length cap, .int .i64 (P4 : Int), .int .i64 4] w2 (VTo (.int .u64 ((numF B P4 4 : Nat) : Int)) w2)))
                  obtain ⟨X2, hX2⟩ : ∃ q, q = numF B P4 4 := ⟨_, rfl⟩
                  rw [← hX2] at CN2
                  obtain ⟨y, hy⟩ : ∃ q, q = i64F X2 := ⟨_, rfl⟩
                  have ey : IntKind.i64.wrap (X2 : Int) = y := hy.symm
                  obtain ⟨P8, hP8⟩ : ∃ q, q = P + 8 := ⟨_, rfl⟩
                  have wP8 : IntKind.i64.wrap ((P : Int) + 8) = (P8 : Int) := by have := HPL.out; rw [hP8, wrap_in (by omega) (by omega)]; omega
                  have CN3 := Lib.hid (fun (w2 : World) (hn : Nums .u8 256 w2 (.slice a B.length cap) B) => (same_below (number_any w2 _ B P8 4 hn (by decide) (by have := HPL.out; omega) (by omega)) : Calls Try.prog 39 #[.slice a B.length cap, .int .i64 (P8 : Int), .int .i64 4] w2 (VTo (.int .u64 ((numF B P8 4 : Nat) : Int)) w2)))
                  obtain ⟨X3, hX3⟩ : ∃ q, q = numF B P8 4 := ⟨_, rfl⟩
                  rw [← hX3] at CN3
                  obtain ⟨z, hz⟩ : ∃ q, q = i64F X3 := ⟨_, rfl⟩
                  have ez : IntKind.i64.wrap (X3 : Int) = z := hz.symm
                  have HQE := Lib.hid (show triF B P = ⟨x, y, z⟩ by rw [hx, hy, hz, hX1, hX2, hX3, hP4, hP8]; rfl)
                  clear hx hy hz hX1 hX2 hX3 hP4 hP8
                  have HJ := Lib.hid (fun (w1 w2 : World) (h : Keeps (fun k => vt.ownBlock = some k) wr w1) (hb : Below w1.heap.size w1 w2) => MeshG.Keeps.more h hb)
                  have HG := Lib.hid (fun (w1 w2 : World) (h : Keeps (fun k => vt.ownBlock = some k) wr w1) (_ : RecsOwn 3 enc3 31 NB w1 vt (tsF B (12 + 24 * i) j)) (hg : w1.grownBy w2 vt.ownBlock) => keeps_grown h hg (fun k e => e))
                  have HBA := Lib.hid (fun (w1 : World) (h : Keeps (fun k => vt.ownBlock = some k) wr w1) => Nat.le_trans hin.out.nb h.size)
                  have HB2 := Lib.hid (fun (w1 : World) (h : Keeps (fun k => vt.ownBlock = some k) wr w1) => h.size)
                  have HR7 := Lib.hid (fun (w1 : World) (h : Keeps (fun k => vt.ownBlock = some k) wr w1) => keep_cell h hin.out.r7 (fun e => by have := (hin.out.ot.lt _ e).1; have := hin.out.low; omega))
                  have HNB := Lib.hid (fun (w1 w2 : World) (h : Keeps (fun k => vt.ownBlock = some k) wr w1) (hb : Below w1.heap.size w1 w2) => HV.out.below ((hin.out.below.trans (h.below w.heap.size hin.out.below.size (fun k hk => by have := (hin.out.ot.lt _ hk).1; have := hin.out.low; omega))).trans (hb.mono (Nat.le_trans hin.out.below.size h.size))) (Nat.le_refl _))
                  have HS0 := Lib.hid (show PhD 3 enc3 31 NB wr.heap.size (fun w' => Keeps (fun k => vt.ownBlock = some k) wr w') (fun w' => Keeps (fun k => vt.ownBlock = some k) wr w') vt (tsF B (12 + 24 * i) j) (⟨x, y, z⟩ : V3) #[.int .i64 x, .int .i64 y, .int .i64 z] Ph.p0 wr from ⟨Keeps.refl _ _, hin.out.ot⟩)
                  have HLE := Lib.hid (show ((tsF B (12 + 24 * i) j).length + 1) * 24 ≤ 140737488355328 by rw [tsF_len]; have := HN4.out; have := HII.out; omega)
                  have HLE2 := Lib.hid (show (tsF B (12 + 24 * i) j).length + 1 ≤ 140737488355328 by rw [tsF_len]; have := HN4.out; have := HII.out; omega)
                  go_upto_region 20 with (fail)
                  refine Qw.wp_region_writes 19 [0, 1, 2, 3, 4, 5, 6, 7, 8, 9, 10, 11, 12, 13, 14, 15, 16] [17, 18] (PhD 3 enc3 31 NB wr.heap.size (fun w' => Keeps (fun k => vt.ownBlock = some k) wr w') (fun w' => Keeps (fun k => vt.ownBlock = some k) wr w') vt (tsF B (12 + 24 * i) j) (⟨x, y, z⟩ : V3) #[.int .i64 x, .int .i64 y, .int .i64 z]) Ph.p0 (by kernel_rfl) (by kernel_rfl) (PhD.step HJ.out HJ.out Ph.p0 wr _ HS0.out ⟨rfl, rfl, rfl, Nat.le_refl _, fun _ _ => rfl⟩) ?_
                  refine Qw.Walk.step (A := ?A6) (o := ?o6) (fun s w w2 h hb => PhD.step HJ.out HJ.out s w w2 h hb) Ph.p0 wr HS0.out ?e6 ?w6 82 ?d6 (by simp) ?h6 ?n6
                  case e6 => simp only [List.getElem?_toArray, List.getElem?_cons_succ, List.getElem?_cons_zero]; exact rfl
                  case w6 => exact rfl
                  case d6 => exact rfl
                  case h6 =>
                    intro s9 w9 h9
                    go_big_quiet_op
                    exact rfl
                  refine Qw.Walk.step (A := ?A7) (o := ?o7) (fun s w w2 h hb => PhD.step HJ.out HJ.out s w w2 h hb) Ph.p0 wr HS0.out ?e7 ?w7 83 ?d7 (by simp) ?h7 ?n7
                  case e7 => simp only [List.getElem?_toArray, List.getElem?_cons_succ, List.getElem?_cons_zero]; exact rfl
                  case w7 => exact rfl
                  case d7 => exact rfl
                  case h7 =>
                    intro s9 w9 h9
                    have hJ9 : (fun w' => Keeps (fun k => vt.ownBlock = some k) wr w') w9 := by cases s9 <;> exact h9.1
                    have e0 := cell_all (HR7.out w9 hJ9) 1 vt rfl
                    go_big_quiet_op
                    exact rfl
                  refine Qw.Walk.step (A := ?A8) (o := ?o8) (fun s w w2 h hb => PhD.step HJ.out HJ.out s w w2 h hb) Ph.p0 wr HS0.out ?e8 ?w8 84 ?d8 (by simp) ?h8 ?n8
                  case e8 => simp only [List.getElem?_toArray, List.getElem?_cons_succ, List.getElem?_cons_zero]; exact rfl
                  case w8 => exact rfl
                  case d8 => exact rfl
                  case h8 =>
                    intro s9 w9 h9
                    go_big_quiet_op
                    exact rfl
                  refine Qw.Walk.step (A := ?A9) (o := ?o9) (fun s w w2 h hb => PhD.step HJ.out HJ.out s w w2 h hb) Ph.p0 wr HS0.out ?e9 ?w9 85 ?d9 (by simp) ?h9 ?n9
                  case e9 => simp only [List.getElem?_toArray, List.getElem?_cons_succ, List.getElem?_cons_zero]; exact rfl
                  case w9 => exact rfl
                  case d9 => exact rfl
                  case h9 =>
                    intro s9 w9 h9
                    go_big_quiet_op
                    exact rfl
                  refine Qw.Walk.step (A := ?A10) (o := ?o10) (fun s w w2 h hb => PhD.step HJ.out HJ.out s w w2 h hb) Ph.p0 wr HS0.out ?e10 ?w10 86 ?d10 (by simp) ?h10 ?n10
                  case e10 => simp only [List.getElem?_toArray, List.getElem?_cons_succ, List.getElem?_cons_zero]; exact rfl
                  case w10 => exact rfl
                  case d10 => exact rfl
                  case h10 =>
                    intro s9 w9 h9
                    have hJ9 : (fun w' => Keeps (fun k => vt.ownBlock = some k) wr w') w9 := by cases s9 <;> exact h9.1
                    have Q9 := qb (P := Try.prog) (W := w9) (fun w2 hb => CN1.out w2 (HNB.out w9 w2 hJ9 hb))
                    go_big_quiet_op
                    apply Exists.intro
                    refine ⟨fun _ => ?_, ?_⟩
                    · with_reducible exact Q9 _ _
                    · exact rfl
                  refine Qw.Walk.step (A := ?A11) (o := ?o11) (fun s w w2 h hb => PhD.step HJ.out HJ.out s w w2 h hb) Ph.p0 wr HS0.out ?e11 ?w11 87 ?d11 (by simp) ?h11 ?n11
                  case e11 => simp only [List.getElem?_toArray, List.getElem?_cons_succ, List.getElem?_cons_zero]; exact rfl
                  case w11 => exact rfl
                  case d11 => exact rfl
                  case h11 =>
                    intro s9 w9 h9
                    go_big_quiet_op
                    exact rfl
                  refine Qw.Walk.step (A := ?A12) (o := ?o12) (fun s w w2 h hb => PhD.step HJ.out HJ.out s w w2 h hb) Ph.p0 wr HS0.out ?e12 ?w12 88 ?d12 (by simp) ?h12 ?n12
                  case e12 => simp only [List.getElem?_toArray, List.getElem?_cons_succ, List.getElem?_cons_zero]; exact rfl
                  case w12 => exact rfl
                  case d12 => exact rfl
                  case h12 =>
                    intro s9 w9 h9
                    go_big_quiet_op
                    exact rfl
                  refine Qw.Walk.step (A := ?A13) (o := ?o13) (fun s w w2 h hb => PhD.step HJ.out HJ.out s w w2 h hb) Ph.p0 wr HS0.out ?e13 ?w13 89 ?d13 (by simp) ?h13 ?n13
                  case e13 => simp only [List.getElem?_toArray, List.getElem?_cons_succ, List.getElem?_cons_zero]; exact rfl
                  case w13 => exact rfl
                  case d13 => exact rfl
                  case h13 =>
                    intro s9 w9 h9
                    go_big_quiet_op
                    exact rfl
                  refine Qw.Walk.step (A := ?A14) (o := ?o14) (fun s w w2 h hb => PhD.step HJ.out HJ.out s w w2 h hb) Ph.p0 wr HS0.out ?e14 ?w14 90 ?d14 (by simp) ?h14 ?n14
                  case e14 => simp only [List.getElem?_toArray, List.getElem?_cons_succ, List.getElem?_cons_zero]; exact rfl
                  case w14 => exact rfl
                  case d14 => exact rfl
                  case h14 =>
                    intro s9 w9 h9
                    go_big_quiet_op
                    exact rfl
                  refine Qw.Walk.step (A := ?A15) (o := ?o15) (fun s w w2 h hb => PhD.step HJ.out HJ.out s w w2 h hb) Ph.p0 wr HS0.out ?e15 ?w15 91 ?d15 (by simp) ?h15 ?n15
                  case e15 => simp only [List.getElem?_toArray, List.getElem?_cons_succ, List.getElem?_cons_zero]; exact rfl
                  case w15 => exact rfl
                  case d15 => exact rfl
                  case h15 =>
                    intro s9 w9 h9
                    have hJ9 : (fun w' => Keeps (fun k => vt.ownBlock = some k) wr w') w9 := by cases s9 <;> exact h9.1
                    have Q9 := qb (P := Try.prog) (W := w9) (fun w2 hb => CN2.out w2 (HNB.out w9 w2 hJ9 hb))
                    go_big_quiet_op
                    apply Exists.intro
                    refine ⟨fun _ => ?_, ?_⟩
                    · with_reducible exact Q9 _ _
                    · exact rfl
                  refine Qw.Walk.step (A := ?A16) (o := ?o16) (fun s w w2 h hb => PhD.step HJ.out HJ.out s w w2 h hb) Ph.p0 wr HS0.out ?e16 ?w16 92 ?d16 (by simp) ?h16 ?n16
                  case e16 => simp only [List.getElem?_toArray, List.getElem?_cons_succ, List.getElem?_cons_zero]; exact rfl
                  case w16 => exact rfl
                  case d16 => exact rfl
                  case h16 =>
                    intro s9 w9 h9
                    go_big_quiet_op
                    exact rfl
                  refine Qw.Walk.step (A := ?A17) (o := ?o17) (fun s w w2 h hb => PhD.step HJ.out HJ.out s w w2 h hb) Ph.p0 wr HS0.out ?e17 ?w17 93 ?d17 (by simp) ?h17 ?n17
                  case e17 => simp only [List.getElem?_toArray, List.getElem?_cons_succ, List.getElem?_cons_zero]; exact rfl
                  case w17 => exact rfl
                  case d17 => exact rfl
                  case h17 =>
                    intro s9 w9 h9
                    go_big_quiet_op
                    exact rfl
                  refine Qw.Walk.step (A := ?A18) (o := ?o18) (fun s w w2 h hb => PhD.step HJ.out HJ.out s w w2 h hb) Ph.p0 wr HS0.out ?e18 ?w18 94 ?d18 (by simp) ?h18 ?n18
                  case e18 => simp only [List.getElem?_toArray, List.getElem?_cons_succ, List.getElem?_cons_zero]; exact rfl
                  case w18 => exact rfl
                  case d18 => exact rfl
                  case h18 =>
                    intro s9 w9 h9
                    go_big_quiet_op
                    exact rfl
                  refine Qw.Walk.step (A := ?A19) (o := ?o19) (fun s w w2 h hb => PhD.step HJ.out HJ.out s w w2 h hb) Ph.p0 wr HS0.out ?e19 ?w19 95 ?d19 (by simp) ?h19 ?n19
                  case e19 => simp only [List.getElem?_toArray, List.getElem?_cons_succ, List.getElem?_cons_zero]; exact rfl
                  case w19 => exact rfl
                  case d19 => exact rfl
                  case h19 =>
                    intro s9 w9 h9
                    go_big_quiet_op
                    exact rfl
                  refine Qw.Walk.step (A := ?A20) (o := ?o20) (fun s w w2 h hb => PhD.step HJ.out HJ.out s w w2 h hb) Ph.p0 wr HS0.out ?e20 ?w20 96 ?d20 (by simp) ?h20 ?n20
                  case e20 => simp only [List.getElem?_toArray, List.getElem?_cons_succ, List.getElem?_cons_zero]; exact rfl
                  case w20 => exact rfl
                  case d20 => exact rfl
                  case h20 =>
                    intro s9 w9 h9
                    have hJ9 : (fun w' => Keeps (fun k => vt.ownBlock = some k) wr w') w9 := by cases s9 <;> exact h9.1
                    have Q9 := qb (P := Try.prog) (W := w9) (fun w2 hb => CN3.out w2 (HNB.out w9 w2 hJ9 hb))
                    go_big_quiet_op
                    apply Exists.intro
                    refine ⟨fun _ => ?_, ?_⟩
                    · with_reducible exact Q9 _ _
                    · exact rfl
                  refine Qw.Walk.step (A := ?A21) (o := ?o21) (fun s w w2 h hb => PhD.step HJ.out HJ.out s w w2 h hb) Ph.p0 wr HS0.out ?e21 ?w21 97 ?d21 (by simp) ?h21 ?n21
                  case e21 => simp only [List.getElem?_toArray, List.getElem?_cons_succ, List.getElem?_cons_zero]; exact rfl
                  case w21 => exact rfl
                  case d21 => exact rfl
                  case h21 =>
                    intro s9 w9 h9
                    go_big_quiet_op
                    exact rfl
                  refine Qw.Walk.step (A := ?A22) (o := ?o22) (fun s w w2 h hb => PhD.step HJ.out HJ.out s w w2 h hb) Ph.p0 wr HS0.out ?e22 ?w22 98 ?d22 (by simp) ?h22 ?n22
                  case e22 => simp only [List.getElem?_toArray, List.getElem?_cons_succ, List.getElem?_cons_zero]; exact rfl
                  case w22 => exact rfl
                  case d22 => exact rfl
                  case h22 =>
                    intro s9 w9 h9
                    go_big_quiet_op
                    exact rfl
                  refine Qx.Chain.app (ob := ?ob22) (oa := ?oa22) tris_slice HJ.out HG.out HBA.out HB2.out rfl HLE.out HLE2.out ?b122 ?b222 ?b322 ?b422 ?b622 (.tmp 83) (.tmp 99) ?b722 ?b822 ?b922 ?b522
                  case b122 => simp only [List.getElem?_toArray, List.getElem?_cons_succ, List.getElem?_cons_zero]; exact rfl
                  case b422 => simp only [List.getElem?_toArray, List.getElem?_cons_succ, List.getElem?_cons_zero]; exact rfl
                  case b222 => exact rfl
                  case b622 => exact rfl
                  case b722 => exact rfl
                  case b822 => exact fun gs => rfl
                  case b922 => exact fun gs => rfl
                  case b322 => intro w9; simp [execOp, Act.eval, Act.put, go_sem]
                  intro gs v9 w9 h9
                  have H9 := Lib.hid h9
                  clear h9
                  simp only [List.drop_succ_cons, List.drop_zero, Act.put, List.setIfInBounds_toArray, List.set_cons_succ, List.set_cons_zero]
                  obtain ⟨a9, c9, hv9⟩ := H9.out.2.1.slice_
                  generalize (_ ++ _ : List _).length = n9 at hv9
                  subst hv9
                  have r9 := HR7.out _ H9.out.1
                  have q9 := cell_row r9 1 _ rfl
                  have t9 := frozen_of_row _ _ 1 _ _ r9
                  go_wp2_with fail
                  clear q9 t9 r9
                  go_roundg (nt - (j + 1))
                  case measure => have := HRR.out; have := HII.out; omega
                  case rel =>
                    refine ⟨j + 1, .slice a9 n9 c9, by have := HRR.out; have := HII.out; omega, rfl, by go_num, Lib.hid ?_⟩
                    rw [tsF_next, ← HPP.out, HQE.out]
                    exact hin.out.setT H9.out.1 H9.out.2.1 H9.out.2.2
                · have d3 : decide (j < nt) = false := decide_eq_false hi
                  have d2 : decide ((j : Int) < (nt : Int)) = false := decide_eq_false (by omega)
                  obtain rfl : j = nt := by omega
                  have HI2 := Lib.hid hin.out
                  clear hin hir
                  go_wp2_with fail
                  clear d2 d3
                  go_loopg [8, 11] nb (fun r n8 n9 wr => ∃ (k : Nat) (vb : Value), k + r = nb ∧ n8 = .int .i64 ((12 + 24 * i + 12 * j + 32 * k : Nat) : Int) ∧ n9 = .int .i64 (k : Int) ∧ Hid (Rm w NB w.heap.size g7 vp vt vb (psF B i) (tsF B (12 + 24 * i) j) (bsF B (12 + 24 * i + 12 * j) k) wr))
                  case atStart => exact ⟨0, .slice none 0 0, by omega, by first | rfl | (congr 1; omega), rfl, HI2⟩
                  case round =>
                    obtain ⟨k, vb, hir, rfl, rfl, hin⟩ := hrel
                    by_cases hi : k < nb
                    · have hi2 : (k : Int) < (nb : Int) := by omega
                      have hi4 : k < 4096 := by have := HN4.out; omega
                      have d3 : decide (k < nb) = true := decide_eq_true hi
                      have d2 : decide ((k : Int) < (nb : Int)) = true := decide_eq_true hi2
                      have HRR := Lib.hid hir
                      have HII := Lib.hid hi
                      obtain ⟨P, hP⟩ : ∃ P, P = 12 + 24 * i + 12 * j + 32 * k := ⟨_, rfl⟩
                      have hPl : P + 32 ≤ B.length := by have := HLN.out; have := HN4.out; omega
                      have wP : IntKind.i64.wrap ((P : Int) + 32) = ((12 + 24 * i + 12 * j + 32 * (k + 1) : Nat) : Int) := by rw [wrap_in (by omega) (by omega)]; omega
                      rw [← hP]
                      have HPP := Lib.hid hP
                      have HPL := Lib.hid hPl
                      clear hir hi hP hPl
                      have CV := Lib.hid (fun (w2 : World) (hn : Nums .u8 256 w2 (.slice a B.length cap) B) => rvec_any w2 _ B P hn (by have := HPL.out; omega) (by omega))
                      obtain ⟨qv, hqv⟩ : ∃ q, q = vecF B P := ⟨_, rfl⟩
                      rw [← hqv] at CV
                      have HQE := Lib.hid (show vecF B P = qv from hqv.symm)
                      clear hqv
                      obtain ⟨x, y, z⟩ := qv
                      obtain ⟨P24, hP24⟩ : ∃ q, q = P + 24 := ⟨_, rfl⟩
                      have wP24 : IntKind.i64.wrap ((P : Int) + 24) = (P24 : Int) := by have := HPL.out; rw [hP24, wrap_in (by omega) (by omega)]; omega
                      have CN1 := Lib.hid (fun (w2 : World) (hn : Nums .u8 256 w2 (.slice a B.length cap) B) => (same_below (number_any w2 _ B P24 8 hn (by decide) (by have := HPL.out; omega) (by omega)) : Calls Try.prog 39 #[.slice a B.length cap, .int .i64 (P24 : Int), .int .i64 8] w2 (VTo (.int .u64 ((numF B P24 8 : Nat) : Int)) w2)))
                      obtain ⟨X1, hX1⟩ : ∃ q, q = numF B P24 8 := ⟨_, rfl⟩
                      rw [← hX1] at CN1
                      obtain ⟨s, hs⟩ : ∃ q, q = i64F X1 := ⟨_, rfl⟩
                      have es : IntKind.i64.wrap (X1 : Int) = s := hs.symm
                      have HQE2 := Lib.hid (show balF B P = ⟨⟨x, y, z⟩, s⟩ by rw [hs, hX1, hP24, ← HQE.out]; rfl)
                      clear hs hX1 hP24
                      have HJ := Lib.hid (fun (w1 w2 : World) (h : Keeps (fun k => vb.ownBlock = some k) wr w1) (hb : Below w1.heap.size w1 w2) => MeshG.Keeps.more h hb)
                      have HG := Lib.hid (fun (w1 w2 : World) (h : Keeps (fun k => vb.ownBlock = some k) wr w1) (_ : RecsOwn 4 enc4 26 NB w1 vb (bsF B (12 + 24 * i + 12 * j) k)) (hg : w1.grownBy w2 vb.ownBlock) => keeps_grown h hg (fun k e => e))
                      have HBA := Lib.hid (fun (w1 : World) (h : Keeps (fun k => vb.ownBlock = some k) wr w1) => Nat.le_trans hin.out.nb h.size)
                      have HB2 := Lib.hid (fun (w1 : World) (h : Keeps (fun k => vb.ownBlock = some k) wr w1) => h.size)
                      have HR7 := Lib.hid (fun (w1 : World) (h : Keeps (fun k => vb.ownBlock = some k) wr w1) => keep_cell h hin.out.r7 (fun e => by have := (hin.out.ob.lt _ e).1; have := hin.out.low; omega))
                      have HNB := Lib.hid (fun (w1 w2 : World) (h : Keeps (fun k => vb.ownBlock = some k) wr w1) (hb : Below w1.heap.size w1 w2) => HV.out.below ((hin.out.below.trans (h.below w.heap.size hin.out.below.size (fun k hk => by have := (hin.out.ob.lt _ hk).1; have := hin.out.low; omega))).trans (hb.mono (Nat.le_trans hin.out.below.size h.size))) (Nat.le_refl _))
                      have HS0 := Lib.hid (show PhD 4 enc4 26 NB wr.heap.size (fun w' => Keeps (fun k => vb.ownBlock = some k) wr w') (fun w' => Keeps (fun k => vb.ownBlock = some k) wr w') vb (bsF B (12 + 24 * i + 12 * j) k) (⟨⟨x, y, z⟩, s⟩ : B4) #[.int .i64 x, .int .i64 y, .int .i64 z, .int .i64 s] Ph.p0 wr from ⟨Keeps.refl _ _, hin.out.ob⟩)
                      have HLE := Lib.hid (show ((bsF B (12 + 24 * i + 12 * j) k).length + 1) * 32 ≤ 140737488355328 by rw [bsF_len]; have := HN4.out; have := HII.out; omega)
                      have HLE2 := Lib.hid (show (bsF B (12 + 24 * i + 12 * j) k).length + 1 ≤ 140737488355328 by rw [bsF_len]; have := HN4.out; have := HII.out; omega)
                      go_upto_region 25 with (fail)
                      refine Qw.wp_region_writes 13 [0, 1, 2, 3, 4, 5, 6, 7, 8, 9, 10] [11, 12] (PhD 4 enc4 26 NB wr.heap.size (fun w' => Keeps (fun k => vb.ownBlock = some k) wr w') (fun w' => Keeps (fun k => vb.ownBlock = some k) wr w') vb (bsF B (12 + 24 * i + 12 * j) k) (⟨⟨x, y, z⟩, s⟩ : B4) #[.int .i64 x, .int .i64 y, .int .i64 z, .int .i64 s]) Ph.p0 (by kernel_rfl) (by kernel_rfl) (PhD.step HJ.out HJ.out Ph.p0 wr _ HS0.out ⟨rfl, rfl, rfl, Nat.le_refl _, fun _ _ => rfl⟩) ?_
                      refine Qw.Walk.step (A := ?A23) (o := ?o23) (fun s w w2 h hb => PhD.step HJ.out HJ.out s w w2 h hb) Ph.p0 wr HS0.out ?e23 ?w23 109 ?d23 (by simp) ?h23 ?n23
                      case e23 => simp only [List.getElem?_toArray, List.getElem?_cons_succ, List.getElem?_cons_zero]; exact rfl
                      case w23 => exact rfl
                      case d23 => exact rfl
                      case h23 =>
                        intro s9 w9 h9
                        go_big_quiet_op
                        exact rfl
                      refine Qw.Walk.step (A := ?A24) (o := ?o24) (fun s w w2 h hb => PhD.step HJ.out HJ.out s w w2 h hb) Ph.p0 wr HS0.out ?e24 ?w24 110 ?d24 (by simp) ?h24 ?n24
                      case e24 => simp only [List.getElem?_toArray, List.getElem?_cons_succ, List.getElem?_cons_zero]; exact rfl
                      case w24 => exact rfl
                      case d24 => exact rfl
                      case h24 =>
                        intro s9 w9 h9
                        have hJ9 : (fun w' => Keeps (fun k => vb.ownBlock = some k) wr w') w9 := by cases s9 <;> exact h9.1
                        have e0 := cell_all (HR7.out w9 hJ9) 2 vb rfl
                        go_big_quiet_op
                        exact rfl
                      refine Qw.Walk.step (A := ?A25) (o := ?o25) (fun s w w2 h hb => PhD.step HJ.out HJ.out s w w2 h hb) Ph.p0 wr HS0.out ?e25 ?w25 111 ?d25 (by simp) ?h25 ?n25
                      case e25 => simp only [List.getElem?_toArray, List.getElem?_cons_succ, List.getElem?_cons_zero]; exact rfl
                      case w25 => exact rfl
                      case d25 => exact rfl
                      case h25 =>
                        intro s9 w9 h9
                        go_big_quiet_op
                        exact rfl
                      refine Qw.Walk.step (A := ?A26) (o := ?o26) (fun s w w2 h hb => PhD.step HJ.out HJ.out s w w2 h hb) Ph.p0 wr HS0.out ?e26 ?w26 112 ?d26 (by simp) ?h26 ?n26
                      case e26 => simp only [List.getElem?_toArray, List.getElem?_cons_succ, List.getElem?_cons_zero]; exact rfl
                      case w26 => exact rfl
                      case d26 => exact rfl
                      case h26 =>
                        intro s9 w9 h9
                        go_big_quiet_op
                        exact rfl
                      refine Qw.Walk.step (A := ?A27) (o := ?o27) (fun s w w2 h hb => PhD.step HJ.out HJ.out s w w2 h hb) Ph.p0 wr HS0.out ?e27 ?w27 113 ?d27 (by simp) ?h27 ?n27
                      case e27 => simp only [List.getElem?_toArray, List.getElem?_cons_succ, List.getElem?_cons_zero]; exact rfl
                      case w27 => exact rfl
                      case d27 => exact rfl
                      case h27 =>
                        intro s9 w9 h9
                        have hJ9 : (fun w' => Keeps (fun k => vb.ownBlock = some k) wr w') w9 := by cases s9 <;> exact h9.1
                        have Q9 := qb (P := Try.prog) (W := w9) (fun w2 hb => CV.out w2 (HNB.out w9 w2 hJ9 hb))
                        go_big_quiet_op
                        apply Exists.intro
                        refine ⟨fun _ => ?_, ?_⟩
                        · with_reducible exact Q9 _ _
                        · exact rfl
                      refine Qw.Walk.step (A := ?A28) (o := ?o28) (fun s w w2 h hb => PhD.step HJ.out HJ.out s w w2 h hb) Ph.p0 wr HS0.out ?e28 ?w28 114 ?d28 (by simp) ?h28 ?n28
                      case e28 => simp only [List.getElem?_toArray, List.getElem?_cons_succ, List.getElem?_cons_zero]; exact rfl
                      case w28 => exact rfl
                      case d28 => exact rfl
                      case h28 =>
                        intro s9 w9 h9
                        go_big_quiet_op
                        exact rfl
                      refine Qw.Walk.step (A := ?A29) (o := ?o29) (fun s w w2 h hb => PhD.step HJ.out HJ.out s w w2 h hb) Ph.p0 wr HS0.out ?e29 ?w29 115 ?d29 (by simp) ?h29 ?n29
                      case e29 => simp only [List.getElem?_toArray, List.getElem?_cons_succ, List.getElem?_cons_zero]; exact rfl
                      case w29 => exact rfl
                      case d29 => exact rfl
                      case h29 =>
                        intro s9 w9 h9
                        go_big_quiet_op
                        exact rfl
                      refine Qw.Walk.step (A := ?A30) (o := ?o30) (fun s w w2 h hb => PhD.step HJ.out HJ.out s w w2 h hb) Ph.p0 wr HS0.out ?e30 ?w30 116 ?d30 (by simp) ?h30 ?n30
                      case e30 => simp only [List.getElem?_toArray, List.getElem?_cons_succ, List.getElem?_cons_zero]; exact rfl
                      case w30 => exact rfl
                      case d30 => exact rfl
                      case h30 =>
                        intro s9 w9 h9
                        go_big_quiet_op
                        exact rfl
                      refine Qw.Walk.step (A := ?A31) (o := ?o31) (fun s w w2 h hb => PhD.step HJ.out HJ.out s w w2 h hb) Ph.p0 wr HS0.out ?e31 ?w31 117 ?d31 (by simp) ?h31 ?n31
                      case e31 => simp only [List.getElem?_toArray, List.getElem?_cons_succ, List.getElem?_cons_zero]; exact rfl
                      case w31 => exact rfl
                      case d31 => exact rfl
                      case h31 =>
                        intro s9 w9 h9
                        have hJ9 : (fun w' => Keeps (fun k => vb.ownBlock = some k) wr w') w9 := by cases s9 <;> exact h9.1
                        have Q9 := qb (P := Try.prog) (W := w9) (fun w2 hb => CN1.out w2 (HNB.out w9 w2 hJ9 hb))
                        go_big_quiet_op
                        apply Exists.intro
                        refine ⟨fun _ => ?_, ?_⟩
                        · with_reducible exact Q9 _ _
                        · exact rfl
                      refine Qw.Walk.step (A := ?A32) (o := ?o32) (fun s w w2 h hb => PhD.step HJ.out HJ.out s w w2 h hb) Ph.p0 wr HS0.out ?e32 ?w32 118 ?d32 (by simp) ?h32 ?n32
                      case e32 => simp only [List.getElem?_toArray, List.getElem?_cons_succ, List.getElem?_cons_zero]; exact rfl
                      case w32 => exact rfl
                      case d32 => exact rfl
                      case h32 =>
                        intro s9 w9 h9
                        go_big_quiet_op
                        exact rfl
                      refine Qw.Walk.step (A := ?A33) (o := ?o33) (fun s w w2 h hb => PhD.step HJ.out HJ.out s w w2 h hb) Ph.p0 wr HS0.out ?e33 ?w33 119 ?d33 (by simp) ?h33 ?n33
                      case e33 => simp only [List.getElem?_toArray, List.getElem?_cons_succ, List.getElem?_cons_zero]; exact rfl
                      case w33 => exact rfl
                      case d33 => exact rfl
                      case h33 =>
                        intro s9 w9 h9
                        go_big_quiet_op
                        exact rfl
                      refine Qx.Chain.app (ob := ?ob33) (oa := ?oa33) balls_slice HJ.out HG.out HBA.out HB2.out rfl HLE.out HLE2.out ?b133 ?b233 ?b333 ?b433 ?b633 (.tmp 110) (.tmp 120) ?b733 ?b833 ?b933 ?b533
                      case b133 => simp only [List.getElem?_toArray, List.getElem?_cons_succ, List.getElem?_cons_zero]; exact rfl
                      case b433 => simp only [List.getElem?_toArray, List.getElem?_cons_succ, List.getElem?_cons_zero]; exact rfl
                      case b233 => exact rfl
                      case b633 => exact rfl
                      case b733 => exact rfl
                      case b833 => exact fun gs => rfl
                      case b933 => exact fun gs => rfl
                      case b333 => intro w9; simp [execOp, Act.eval, Act.put, go_sem]
                      intro gs v9 w9 h9
                      have H9 := Lib.hid h9
                      clear h9
                      simp only [List.drop_succ_cons, List.drop_zero, Act.put, List.setIfInBounds_toArray, List.set_cons_succ, List.set_cons_zero]
                      obtain ⟨a9, c9, hv9⟩ := H9.out.2.1.slice_
                      generalize (_ ++ _ : List _).length = n9 at hv9
                      subst hv9
                      have r9 := HR7.out _ H9.out.1
                      have q9 := cell_row r9 2 _ rfl
                      have t9 := frozen_of_row _ _ 2 _ _ r9
                      go_wp2_with fail
                      clear q9 t9 r9
                      go_roundg (nb - (k + 1))
                      case measure => have := HRR.out; have := HII.out; omega
                      case rel =>
                        refine ⟨k + 1, .slice a9 n9 c9, by have := HRR.out; have := HII.out; omega, rfl, by go_num, Lib.hid ?_⟩
                        rw [bsF_next, ← HPP.out, HQE2.out]
                        exact hin.out.setB H9.out.1 H9.out.2.1 H9.out.2.2
                    · have d3 : decide (k < nb) = false := decide_eq_false hi
                      have d2 : decide ((k : Int) < (nb : Int)) = false := decide_eq_false (by omega)
                      obtain rfl : k = nb := by omega
                      have hrm := hin.out
                      have HI3 := Lib.hid hrm
                      have hM : IsMesh wr (.agg #[vp, vt, vb]) me := by
                        rw [HME.out]
                        exact ⟨⟨vp, vt, vb, rfl, hrm.op.recs len3, hrm.ot.recs len3, hrm.ob.recs len4⟩⟩
                      have hML : me.ts.length + me.bs.length ≤ 9223372036854775807 := by rw [HME.out]; show (tsF _ _ _).length + (bsF _ _ _).length ≤ _; rw [tsF_len, bsF_len]; have := HN4.out; omega
                      have CK := Lib.hid (rcheck_any _ me wr hM hML)
                      have CO := check_or me
                      rw [← HK.out] at CK CO
                      have HM := Lib.hid hM
                      obtain ⟨q0, q1, q2⟩ := cells_now hrm.r7
                      clear hin hir hrm hM hML
                      go_wp2_with fail
                      clear d2 d3 q0 q1 q2
                      refine CK.out.mono ?_
                      rintro e w9 ⟨rfl, hb9⟩
                      have R7 := Lib.hid (vec_step HI3.out.r7 hb9)
                      have R2 := Lib.hid (vec_step HI3.out.r2 hb9)
                      have B9 := Lib.hid (HI3.out.below.trans (hb9.mono HI3.out.below.size))
                      have M9 := Lib.hid (HM.out.below hb9)
                      have hsl : vp.oneCell' = true ∧ vt.oneCell' = true ∧ vb.oneCell' = true := by
                        obtain ⟨a1, c1, e1⟩ := HI3.out.op.slice_
                        obtain ⟨a2, c2, e2⟩ := HI3.out.ot.slice_
                        obtain ⟨a3, c3, e3⟩ := HI3.out.ob.slice_
                        rw [e1, e2, e3]; exact ⟨rfl, rfl, rfl⟩
                      have HSL := Lib.hid hsl
                      have O1 := Lib.hid (HI3.out.op.below hb9 (Nat.le_refl _))
                      have O2 := Lib.hid (HI3.out.ot.below hb9 (Nat.le_refl _))
                      have O3 := Lib.hid (HI3.out.ob.below hb9 (Nat.le_refl _))
                      clear hb9 hsl CK
                      rcases CO with hcd | hcd
                      · have HCD := Lib.hid hcd
                        rw [hcd]
                        clear hcd
                        obtain ⟨q0, q1, q2⟩ := cells_now R7.out
                        go_wp2_with (with_reducible refine store_mesh rfl (.tmp 2) (.tmp 129) rfl rfl w.heap.size vp vt vb rfl rfl _ R2.out rfl HSL.out ?_)
                        clear q0 q1 q2
                        refine bodyPost_ret (results_row_tmp rfl _ _ _ w.heap.size 30 #[vp, vt, vb] _ _ rfl (setRow_heap _ _ _ _ _ _ R2.out) Try.underlying30 mesh_size) rfl ?_
                        rw [HO.out]
                        refine ⟨_, by rw [HCD.out]; rfl, ?_, below_setRow B9.out (Nat.le_refl _) _⟩
                        rw [HRD.out, if_pos HCD.out, HME.out]
                        have hlo := HI3.out.low
                        have hS : Keeps (fun k => k = w.heap.size) w9 (w9.setRow w.heap.size #[vp, vt, vb]) := ⟨rfl, rfl, rfl, by simp [World.setRow], fun k _ hn => setRow_other _ _ _ _ hn⟩
                        exact ⟨⟨vp, vt, vb, rfl, (O1.out.frame hS (fun b hb e => by have := (O1.out.lt b hb).1; omega)).recs len3, (O2.out.frame hS (fun b hb e => by have := (O2.out.lt b hb).1; omega)).recs len3, (O3.out.frame hS (fun b hb e => by have := (O3.out.lt b hb).1; omega)).recs len4⟩⟩
                      · have HCD := Lib.hid hcd
                        rw [hcd]
                        clear hcd
                        go_wp2_with (with_reducible refine store_mesh rfl (.tmp 2) (.tmp 128) rfl rfl w.heap.size (.slice none 0 0) (.slice none 0 0) (.slice none 0 0) rfl rfl _ R2.out rfl ⟨rfl, rfl, rfl⟩ ?_)
                        refine bodyPost_ret (results_row_tmp rfl _ _ _ w.heap.size 30 #[.slice none 0 0, .slice none 0 0, .slice none 0 0] _ _ rfl (setRow_heap _ _ _ _ _ _ R2.out) Try.underlying30 mesh_size) rfl ?_
                        rw [HO.out]
                        refine ⟨_, by rw [HCD.out]; rfl, ?_, below_setRow B9.out (Nat.le_refl _) _⟩
                        rw [HRD.out, if_neg (by rw [HCD.out]; decide)]
                        exact empty_mesh _
end Go.Proofs.Ytdmmjmdnljhooaa.MeshL
