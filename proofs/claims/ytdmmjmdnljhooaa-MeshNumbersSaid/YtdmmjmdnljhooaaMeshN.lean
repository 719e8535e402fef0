/- The walk of mesh.Read. -/
import Derived.Test.YtdmmjmdnljhooaaMeshL
import Derived.Laws.EntriesVeiled
set_option linter.unusedVariables false
set_option linter.unusedSimpArgs false
namespace Go.Proofs.Ytdmmjmdnljhooaa.MeshN
open Go.RowKit Go.Sort FixM Base Num Qb Qt VecW VecV VecU LightQ LightC MeshM Rec MeshA MeshB MeshC MeshD MeshE MeshF MeshG MeshH MeshJ MeshK MeshL Qx

theorem rd_grown {w0 wx : World} {X : Nat → Prop} {gb ga g5 NB : Nat} {v vp : Value} {B : List Nat} {p : Nat} {w w' : World} (h : Rd w0 wx X gb ga g5 v B p w) (hg : w.grownBy w' vp.ownBlock) (hn : ∀ b, vp.ownBlock = some b → NB ≤ b) (h0 : w0.heap.size ≤ NB) (h1 : gb < NB ∧ ga < NB ∧ g5 < NB) (hv : ∀ b, v.ownBlock = some b → b < NB) (hx : ∀ b, ¬ X b) : Rd w0 wx X gb ga g5 v B p w' := by
  have hk : ∀ k, k < w.heap.size → k < NB → w'.heap[k]? = w.heap[k]? := fun k hk hlt => hg.block k hk (fun e => by have := hn k e.symm; omega)
  have hK : Keeps (fun k => vp.ownBlock = some k) w w' := ⟨hg.os, hg.tape, hg.output, hg.size, fun k hk hn' => hg.block k hk (fun e => hn' e.symm)⟩
  refine ⟨(hk gb (lt_of_heap h.rb) h1.1).trans h.rb, (hk ga (lt_of_heap h.ra) h1.2.1).trans h.ra, (hk g5 (lt_of_heap h.r5) h1.2.2).trans h.r5, h.ne, h.nums.frame hK (fun b hb e => by have := hn b e; have := hv b hb; omega), h.vb, h.below.trans (hK.below w0.heap.size h.below.size (fun k hk' => by have := hn k hk'; omega)), h.low, fun b hb => absurd hb (hx b), fun b hb => absurd hb (hx b)⟩
theorem rd_other {w0 wx wx2 : World} {X : Nat → Prop} {gb ga g5 : Nat} {v : Value} {B : List Nat} {p : Nat} {w : World} (h : Rd w0 wx X gb ga g5 v B p w) : Rd w0 wx2 (fun _ => False) gb ga g5 v B p w :=
  ⟨h.rb, h.ra, h.r5, h.ne, h.nums, h.vb, h.below, h.low, fun _ hb => hb.elim, fun _ hb => hb.elim⟩
theorem rd_all {w0 wx : World} {X : Nat → Prop} {gb ga g5 : Nat} {v : Value} {B : List Nat} {p : Nat} {w : World} (h : Rd w0 wx X gb ga g5 v B p w) : Rd w0 w (fun b => b < w.heap.size ∧ b ≠ ga) gb ga g5 v B p w :=
  ⟨h.rb, h.ra, h.r5, h.ne, h.nums, h.vb, h.below, h.low, fun _ hb => hb, fun _ _ => rfl⟩
theorem rd_keeps {w0 wx : World} {X : Nat → Prop} {gb ga g5 : Nat} {v : Value} {B : List Nat} {p q : Nat} {w w' : World} (h : Rd w0 wx X gb ga g5 v B p w) (h' : Rd w0 w (fun b => b < w.heap.size ∧ b ≠ ga) gb ga g5 v B q w') : Keeps (fun k => k = ga) w w' := by
  refine ⟨h'.below.os.trans h.below.os.symm, h'.below.tape.trans h.below.tape.symm, h'.below.output.trans h.below.output.symm, ?_, fun k hk hn => h'.kept k ⟨hk, hn⟩⟩
  have hga := lt_of_heap h'.ra
  rcases Nat.lt_or_ge w'.heap.size w.heap.size with hlt | hge
  · by_cases e : w'.heap.size = ga
    · omega
    · have := (h'.dom w'.heap.size ⟨hlt, e⟩).1; omega
  · exact hge
theorem mvec_keeps {w0 wx : World} {X : Nat → Prop} {gb ga g5 : Nat} {v : Value} {B : List Nat} {p : Nat} {w : World} (wx2 : World) (h : Rd w0 wx X gb ga g5 v B p w) (hp : p + 24 ≤ B.length) (hB : B.length ≤ 1000000000) :
    Calls Try.prog 37 #[.pointer (some ⟨g5, 0, none⟩)] w (fun e w' => e = .returned (vecV (vecF B p)) ∧ Rd w0 wx2 (fun _ => False) gb ga g5 v B (p + 24) w' ∧ Keeps (fun k => k = ga) w w') :=
  (mvec_any w0 w w (fun b => b < w.heap.size ∧ b ≠ ga) gb ga g5 v B p (rd_all h) hp hB).mono fun e w' hh => ⟨hh.1, rd_other hh.2, rd_keeps h hh.2⟩
theorem take_keeps {w0 wx : World} {X : Nat → Prop} {gb ga g5 : Nat} {v : Value} {B : List Nat} {p : Nat} {w : World} (wx2 : World) (h : Rd w0 wx X gb ga g5 v B p w) (k : Nat) (hk0 : 1 ≤ k) (hk : k ≤ 8) (hp : p + k ≤ B.length) (hB : B.length ≤ 1000000000) :
    Calls Try.prog 36 #[.int .i64 (k : Int), .pointer (some ⟨gb, 0, none⟩), .pointer (some ⟨ga, 0, none⟩)] w (fun e w' => e = .returned (.int .u64 ((numF B p k : Nat) : Int)) ∧ Rd w0 wx2 (fun _ => False) gb ga g5 v B (p + k) w' ∧ Keeps (fun k => k = ga) w w') :=
  (Rd.take (rd_all h) k hk0 hk hp hB).mono fun e w' hh => ⟨hh.1, rd_other hh.2, rd_keeps h hh.2⟩
theorem rd_cell {w0 wx : World} {gb ga g5 : Nat} {v : Value} {B : List Nat} {p : Nat} {w : World} (h : Rd w0 wx (fun _ => False) gb ga g5 v B p w) (g j : Nat) (x : Value) (h1 : g ≠ gb) (h2 : g ≠ ga) (h3 : g ≠ g5) (hv : v.ownBlock ≠ some g) (hl : w0.heap.size ≤ g) : Rd w0 wx (fun _ => False) gb ga g5 v B p (w.setCell ⟨g, j, none⟩ x) := by
  have hK := (Keeps.refl (fun k => k = g) w).setCell g j x (.inl rfl)
  have ho : ∀ k, k ≠ g → (w.setCell ⟨g, j, none⟩ x).heap[k]? = w.heap[k]? := fun k hk => heap_setCell_other _ _ _ _ (fun e => hk e)
  exact ⟨(ho _ (Ne.symm h1)).trans h.rb, (ho _ (Ne.symm h2)).trans h.ra, (ho _ (Ne.symm h3)).trans h.r5, h.ne, h.nums.frame hK (fun b hb e => hv (by rw [hb, e])), h.vb, setCell_below h.below hl _, h.low, fun _ hb => hb.elim, fun _ hb => hb.elim⟩
theorem setP {w wr w' : World} {NB g2 g7 ga : Nat} {vp vt vb v' : Value} {lp lt : List V3} {lb : List B4} {l' : List V3} (h : Rm w NB g2 g7 vp vt vb lp lt lb wr) (hga : w.heap.size ≤ ga ∧ ga < NB ∧ ga ≠ g2 ∧ ga ≠ g7) (hk : Keeps (fun k => vp.ownBlock = some k ∨ k = ga) wr w')
    (ho : RecsOwn 3 enc3 23 NB w' v' l') (hv : v'.ownBlock = vp.ownBlock ∨ ∀ b, v'.ownBlock = some b → wr.heap.size ≤ b) : Rm w NB g2 g7 v' vt vb l' lt lb (w'.setCell ⟨g7, 0, none⟩ v') := by
  obtain ⟨l1, l2, l3, l4, l5⟩ := h.low
  obtain ⟨m1, m2, m3, m4⟩ := hga
  have hsz := hk.size
  have hnb := h.nb
  have hS : ∀ x : World, x.heap.size ≥ 0 → Keeps (fun k => k = g7) x (x.setCell ⟨g7, 0, none⟩ v') := fun x _ => (Keeps.refl (fun k => k = g7) x).setCell g7 0 v' (.inl rfl)
  have hn7 : ¬ (vp.ownBlock = some g7 ∨ g7 = ga) := fun e => by rcases e with e | e; have := (h.op.lt _ e).1; omega; exact m4 e.symm
  have hn2 : ¬ (vp.ownBlock = some g2 ∨ g2 = ga) := fun e => by rcases e with e | e; have := (h.op.lt _ e).1; omega; exact m3 e.symm
  have hb : Below w.heap.size w w' := h.below.trans (hk.below w.heap.size (by omega) (fun k hk' => by rcases hk' with hk' | hk'; have := (h.op.lt _ hk').1; omega; omega))
  refine ⟨(ho.frame (hS w' (by omega)) (fun b hb e => by have := (ho.lt b hb).1; omega)), ((h.ot.frame hk (fun b hb e => by rcases e with e | e; exact h.d01 b e hb; have := (h.ot.lt b hb).1; omega)).frame (hS w' (by omega)) (fun b hb e => by have := (h.ot.lt b hb).1; omega)), ((h.ob.frame hk (fun b hb e => by rcases e with e | e; exact h.d02 b e hb; have := (h.ob.lt b hb).1; omega)).frame (hS w' (by omega)) (fun b hb e => by have := (h.ob.lt b hb).1; omega)), (fun b hb e => by rcases hv with e2 | e2; exact h.d01 b (by rw [← e2]; exact hb) e; have := e2 b hb; have := (h.ot.lt b e).2; omega), (fun b hb e => by rcases hv with e2 | e2; exact h.d02 b (by rw [← e2]; exact hb) e; have := e2 b hb; have := (h.ob.lt b e).2; omega), h.d12, ?_, ?_, setCell_below hb l2 _, h.low, Nat.le_trans (Nat.le_trans hnb hsz) (hS w' (by omega)).size⟩
  · rw [heap_setCell_same _ _ _ _ _ _ (keep_cell hk h.r7 hn7)]; rfl
  · rw [heap_setCell_other _ _ _ _ (fun e => l3 e)]; exact keep_cell hk h.r2 hn2
theorem setT {w wr w' : World} {NB g2 g7 ga : Nat} {vp vt vb v' : Value} {lp lt : List V3} {lb : List B4} {l' : List V3} (h : Rm w NB g2 g7 vp vt vb lp lt lb wr) (hga : w.heap.size ≤ ga ∧ ga < NB ∧ ga ≠ g2 ∧ ga ≠ g7) (hk : Keeps (fun k => vt.ownBlock = some k ∨ k = ga) wr w')
    (ho : RecsOwn 3 enc3 31 NB w' v' l') (hv : v'.ownBlock = vt.ownBlock ∨ ∀ b, v'.ownBlock = some b → wr.heap.size ≤ b) : Rm w NB g2 g7 vp v' vb lp l' lb (w'.setCell ⟨g7, 1, none⟩ v') := by
  obtain ⟨l1, l2, l3, l4, l5⟩ := h.low
  obtain ⟨m1, m2, m3, m4⟩ := hga
  have hsz := hk.size
  have hnb := h.nb
  have hS : ∀ x : World, x.heap.size ≥ 0 → Keeps (fun k => k = g7) x (x.setCell ⟨g7, 1, none⟩ v') := fun x _ => (Keeps.refl (fun k => k = g7) x).setCell g7 1 v' (.inl rfl)
  have hn7 : ¬ (vt.ownBlock = some g7 ∨ g7 = ga) := fun e => by rcases e with e | e; have := (h.ot.lt _ e).1; omega; exact m4 e.symm
  have hn2 : ¬ (vt.ownBlock = some g2 ∨ g2 = ga) := fun e => by rcases e with e | e; have := (h.ot.lt _ e).1; omega; exact m3 e.symm
  have hb : Below w.heap.size w w' := h.below.trans (hk.below w.heap.size (by omega) (fun k hk' => by rcases hk' with hk' | hk'; have := (h.ot.lt _ hk').1; omega; omega))
  refine ⟨((h.op.frame hk (fun b hb e => by rcases e with e | e; exact h.d01 b hb e; have := (h.op.lt b hb).1; omega)).frame (hS w' (by omega)) (fun b hb e => by have := (h.op.lt b hb).1; omega)), (ho.frame (hS w' (by omega)) (fun b hb e => by have := (ho.lt b hb).1; omega)), ((h.ob.frame hk (fun b hb e => by rcases e with e | e; exact h.d12 b e hb; have := (h.ob.lt b hb).1; omega)).frame (hS w' (by omega)) (fun b hb e => by have := (h.ob.lt b hb).1; omega)), (fun b hb e => by rcases hv with e2 | e2; exact h.d01 b hb (by rw [← e2]; exact e); have := e2 b e; have := (h.op.lt b hb).2; omega), h.d02, (fun b hb e => by rcases hv with e2 | e2; exact h.d12 b (by rw [← e2]; exact hb) e; have := e2 b hb; have := (h.ob.lt b e).2; omega), ?_, ?_, setCell_below hb l2 _, h.low, Nat.le_trans (Nat.le_trans hnb hsz) (hS w' (by omega)).size⟩
  · rw [heap_setCell_same _ _ _ _ _ _ (keep_cell hk h.r7 hn7)]; rfl
  · rw [heap_setCell_other _ _ _ _ (fun e => l3 e)]; exact keep_cell hk h.r2 hn2
theorem setB {w wr w' : World} {NB g2 g7 ga : Nat} {vp vt vb v' : Value} {lp lt : List V3} {lb : List B4} {l' : List B4} (h : Rm w NB g2 g7 vp vt vb lp lt lb wr) (hga : w.heap.size ≤ ga ∧ ga < NB ∧ ga ≠ g2 ∧ ga ≠ g7) (hk : Keeps (fun k => vb.ownBlock = some k ∨ k = ga) wr w')
    (ho : RecsOwn 4 enc4 26 NB w' v' l') (hv : v'.ownBlock = vb.ownBlock ∨ ∀ b, v'.ownBlock = some b → wr.heap.size ≤ b) : Rm w NB g2 g7 vp vt v' lp lt l' (w'.setCell ⟨g7, 2, none⟩ v') := by
  obtain ⟨l1, l2, l3, l4, l5⟩ := h.low
  obtain ⟨m1, m2, m3, m4⟩ := hga
  have hsz := hk.size
  have hnb := h.nb
  have hS : ∀ x : World, x.heap.size ≥ 0 → Keeps (fun k => k = g7) x (x.setCell ⟨g7, 2, none⟩ v') := fun x _ => (Keeps.refl (fun k => k = g7) x).setCell g7 2 v' (.inl rfl)
  have hn7 : ¬ (vb.ownBlock = some g7 ∨ g7 = ga) := fun e => by rcases e with e | e; have := (h.ob.lt _ e).1; omega; exact m4 e.symm
  have hn2 : ¬ (vb.ownBlock = some g2 ∨ g2 = ga) := fun e => by rcases e with e | e; have := (h.ob.lt _ e).1; omega; exact m3 e.symm
  have hb : Below w.heap.size w w' := h.below.trans (hk.below w.heap.size (by omega) (fun k hk' => by rcases hk' with hk' | hk'; have := (h.ob.lt _ hk').1; omega; omega))
  refine ⟨((h.op.frame hk (fun b hb e => by rcases e with e | e; exact h.d02 b hb e; have := (h.op.lt b hb).1; omega)).frame (hS w' (by omega)) (fun b hb e => by have := (h.op.lt b hb).1; omega)), ((h.ot.frame hk (fun b hb e => by rcases e with e | e; exact h.d12 b hb e; have := (h.ot.lt b hb).1; omega)).frame (hS w' (by omega)) (fun b hb e => by have := (h.ot.lt b hb).1; omega)), (ho.frame (hS w' (by omega)) (fun b hb e => by have := (ho.lt b hb).1; omega)), h.d01, (fun b hb e => by rcases hv with e2 | e2; exact h.d02 b hb (by rw [← e2]; exact e); have := e2 b e; have := (h.op.lt b hb).2; omega), (fun b hb e => by rcases hv with e2 | e2; exact h.d12 b hb (by rw [← e2]; exact e); have := e2 b e; have := (h.ot.lt b hb).2; omega), ?_, ?_, setCell_below hb l2 _, h.low, Nat.le_trans (Nat.le_trans hnb hsz) (hS w' (by omega)).size⟩
  · rw [heap_setCell_same _ _ _ _ _ _ (keep_cell hk h.r7 hn7)]; rfl
  · rw [heap_setCell_other _ _ _ _ (fun e => l3 e)]; exact keep_cell hk h.r2 hn2
theorem chain_pure {P : Program} {ops : Array Oper} {σ : Type} {D : σ → World → Prop} {K : Act → σ → Prop} {k : Nat} {ks : List Nat} {a : Act} {s : σ} {o : Oper} (u : Value) (ho : ops[k]? = some o) (hw : Region.wanted o (yielded ops a.tmps) = true)
    (hr : ∀ w, (execOp a.eval o).run P w = .ok (.value u) w) (hn : Qw.Chain P ops D K ks (a.put o.dst u) s) : Qw.Chain P ops D K (k :: ks) a s :=
  ⟨o, ho, hw, fun v s' => v = u ∧ s' = s, fun w hD => by rw [hr w]; exact ⟨s, ⟨rfl, rfl⟩, hD⟩, by rintro v s' ⟨rfl, rfl⟩; exact hn⟩
set_option maxRecDepth 100000 in
set_option maxHeartbeats 16000000 in
theorem mread_any (w : World) (v : Value) (B : List Nat) (hv : Nums .u8 256 w v B) (hB : B.length ≤ 1000000) : Calls Try.prog 10 #[v] w (RdTo w B) := by
  obtain ⟨a, cap, rfl, -, -⟩ := hv.shape
  have hbd := hv.bound
  have HVB := Lib.hid (show ∀ b, (Value.slice a B.length cap).ownBlock = some b → b < w.heap.size ∨ B.length = 0 from fun b hb => by
    by_cases h : B = []
    · exact .inr (by rw [h]; rfl)
    · obtain ⟨b', off, cap', e, hlt, _⟩ := hv.cells h
      rw [e] at hb; simp only [Value.ownBlock, Option.some.injEq] at hb; exact .inl (by omega))
  have HV := Lib.hid hv
  have HO := Lib.hid (show RdTo w B = fun e w' => ∃ v, e = .returned (.tuple #[v, .int .i64 (codeF B)]) ∧ IsMesh w' v (readF B) ∧ Below w.heap.size w w' from rfl)
  have HC := Lib.hid (show codeF B = if B.length < 12 then 12 else if 4096 < numF B 0 4 ∨ 4096 < numF B 4 4 ∨ 4096 < numF B 8 4 then 3 else if B.length < sizeF B then 12 else if sizeF B < B.length then 10 else checkF (meshOf B) from rfl)
  have HRD := Lib.hid (show readF B = if codeF B = 0 then meshOf B else ⟨[], [], []⟩ from rfl)
  obtain ⟨cd, hcd⟩ : ∃ c, c = codeF B := ⟨_, rfl⟩
  obtain ⟨rd, hrd⟩ : ∃ c, c = readF B := ⟨_, rfl⟩
  obtain ⟨QQ, hQQ⟩ : ∃ Q, Q = RdTo w B := ⟨_, rfl⟩
  rw [← hQQ] at HO ⊢
  rw [← hcd] at HO HC HRD
  rw [← hrd] at HO HRD
  clear hcd hrd hQQ hv
  obtain ⟨W, hW⟩ : ∃ W, W = (w.alloc (.cells #[.slice a B.length cap] 33)).alloc (.cells #[.slice none 0 0, .slice none 0 0, .slice none 0 0] 30) := ⟨_, rfl⟩
  have HG1 := Lib.hid (show W.heap[w.heap.size]? = some (.cells #[.slice a B.length cap] 33) by rw [hW]; exact alloc2_0 _ _ _)
  have HG2 := Lib.hid (show W.heap[w.heap.size + 1]? = some (.cells #[.slice none 0 0, .slice none 0 0, .slice none 0 0] 30) by rw [hW]; exact alloc2_1 _ _ _)
  have HB0 := Lib.hid (show Below w.heap.size w W by rw [hW]; exact alloc2_below _ _ _)
  have HWS := Lib.hid (show W.heap.size = w.heap.size + 1 + 1 by rw [hW]; simp)
  have k0 := cell_row HG1.out 0 (.slice a B.length cap) rfl
  have HWW := Lib.hid hW
  rw [hW] at k0
  clear hW
  have EARLY := Lib.hid (fun (k : Int) (hk : cd = k) (h0 : k ≠ 0) (W' : World) (hb : Below w.heap.size w W') => (show QQ (.returned (.tuple #[.agg #[.slice none 0 0, .slice none 0 0, .slice none 0 0], .int .i64 k])) (W'.setRow (w.heap.size + 1) #[.slice none 0 0, .slice none 0 0, .slice none 0 0]) from by
    rw [HO.out]
    refine ⟨_, by rw [hk], ?_, below_setRow hb (by omega) _⟩
    rw [HRD.out, if_neg (by rw [hk]; exact h0)]
    exact empty_mesh _))
  by_cases h0 : B.length < 12
  · have d0 : decide ((B.length : Int) < 12) = true := decide_eq_true (by omega)
    have HK := Lib.hid (show cd = 12 by rw [HC.out, if_pos h0])
    clear h0
    go_enter Try.func10, Try.ntmps10
    go_wp2_with (with_reducible refine store_mesh rfl (.tmp 2) (.tmp 20) rfl rfl (w.heap.size + 1) (.slice none 0 0) (.slice none 0 0) (.slice none 0 0) rfl rfl _ (alloc2_1 _ _ _) rfl ⟨rfl, rfl, rfl⟩ ?_)
    rw [← HWW.out]
    refine bodyPost_ret (results_row_tmp rfl _ _ _ (w.heap.size + 1) 30 #[.slice none 0 0, .slice none 0 0, .slice none 0 0] _ _ rfl (setRow_heap _ _ _ _ _ _ HG2.out) Try.underlying30 mesh_size) rfl ?_
    exact EARLY.out 12 HK.out (by decide) W HB0.out
  · have d0 : decide ((B.length : Int) < 12) = false := decide_eq_false (by omega)
    have b1 := num4_lt B hbd 0
    have b2 := num4_lt B hbd 4
    have b3 := num4_lt B hbd 8
    have HSZ := Lib.hid (show sizeF B = 12 + 24 * numF B 0 4 + 12 * numF B 4 4 + 32 * numF B 8 4 from rfl)
    have HME := Lib.hid (show meshOf B = ⟨psF B (numF B 0 4), tsF B (12 + 24 * numF B 0 4) (numF B 4 4), bsF B (12 + 24 * numF B 0 4 + 12 * numF B 4 4) (numF B 8 4)⟩ from rfl)
    obtain ⟨sz, hsz⟩ : ∃ s, s = sizeF B := ⟨_, rfl⟩
    obtain ⟨me, hme⟩ : ∃ s, s = meshOf B := ⟨_, rfl⟩
    rw [← hsz] at HC HSZ
    rw [← hme] at HC HME HRD
    obtain ⟨np, hnp⟩ : ∃ n, n = numF B 0 4 := ⟨_, rfl⟩
    obtain ⟨nt, hnt⟩ : ∃ n, n = numF B 4 4 := ⟨_, rfl⟩
    obtain ⟨nb, hnb⟩ : ∃ n, n = numF B 8 4 := ⟨_, rfl⟩
    have Hnp := Lib.hid hnp
    have Hnt := Lib.hid hnt
    have Hnb := Lib.hid hnb
    rw [← hnp] at b1 HSZ HME HC
    rw [← hnt] at b2 HSZ HME HC
    rw [← hnb] at b3 HSZ HME HC
    have i1 : IntKind.i64.wrap (np : Int) = (np : Int) := wrap_in (by omega) (by omega)
    have i2 : IntKind.i64.wrap (nt : Int) = (nt : Int) := wrap_in (by omega) (by omega)
    have i3 : IntKind.i64.wrap (nb : Int) = (nb : Int) := wrap_in (by omega) (by omega)
    have HP := Lib.hid (show 12 ≤ B.length by omega)
    have HB := Lib.hid (show B.length ≤ 1000000000 by omega)
    clear hsz hme hnp hnt hnb b1 b2 b3 h0
    have EN := enters Try.func36 (by kernel_rfl) rfl
    have HMF := hmf
    obtain ⟨V, hV⟩ : ∃ V, V = (W.alloc (.cells #[.int .i64 0] 3)).alloc (.cells #[.func (.func 36) #[] #[.pointer (some ⟨w.heap.size, 0, none⟩), .pointer (some ⟨W.heap.size, 0, none⟩)]] 67) := ⟨_, rfl⟩
    have hbv : Below W.heap.size W V := by rw [hV]; exact alloc2_below _ _ _
    have R0 := Lib.hid (show Rd w V (fun b => b = w.heap.size + 1) w.heap.size W.heap.size (W.heap.size + 1) (.slice a B.length cap) B 0 V from
      ⟨vec_step HG1.out hbv, by rw [hV]; exact alloc2_0 _ _ _, by rw [hV]; exact alloc2_1 _ _ _, ⟨by have := HWS.out; omega, by omega⟩, HV.out.below (HB0.out.trans (hbv.mono HB0.out.size)) (Nat.le_refl _), fun e => by have := HVB.out _ e; have := HWS.out; have := HP.out; omega, HB0.out.trans (hbv.mono HB0.out.size), by have := HWS.out; omega, fun b hb => ⟨by rw [hb]; have := lt_of_heap (vec_step HG2.out hbv); exact this, by rw [hb]; have := HWS.out; omega⟩, fun _ _ => rfl⟩)
    have G2V := Lib.hid (vec_step HG2.out hbv)
    rw [HWS.out] at hV R0
    rw [HWW.out] at hV
    have HVV := Lib.hid hV
    clear hV hbv
    go_enter Try.func10, Try.ntmps10
    go_upto_region 6 with (fail)
    rw [← HVV.out]
    clear HVV k0
    refine Qw.wp_region_writes 6 [0, 2, 4] [1, 3, 5] (fun (q : Nat) w2 => Rd w V (fun b => b = w.heap.size + 1) (w.heap.size) (w.heap.size + 1 + 1) (w.heap.size + 1 + 1 + 1) (.slice a B.length cap) B q w2) 0 (by kernel_rfl) (by kernel_rfl) (R0.out.step ⟨rfl, rfl, rfl, Nat.le_refl _, fun _ _ => rfl⟩) ?_
    refine Qw.Walk.step (A := ?A20) (o := ?o20) (fun s w w2 h hb => Rd.step h hb) 0 V R0.out ?e20 ?w20 23 ?d20 (by simp) ?h20 ?n20
    case e20 => simp only [List.getElem?_toArray, List.getElem?_cons_succ, List.getElem?_cons_zero]; exact rfl
    case w20 => exact rfl
    case d20 => exact rfl
    case h20 =>
      intro s9 w9 h9
      have e0 := cell_all h9.r5 0 (.func (.func 36) #[] #[.pointer (some ⟨w.heap.size, 0, none⟩), .pointer (some ⟨w.heap.size + 1 + 1, 0, none⟩)]) rfl
      go_big_quiet_op
      exact rfl
    refine Qw.Walk.step (A := ?A21) (o := ?o21) (fun s w w2 h hb => Rd.step h hb) 0 V R0.out ?e21 ?w21 25 ?d21 (by simp) ?h21 ?n21
    case e21 => simp only [List.getElem?_toArray, List.getElem?_cons_succ, List.getElem?_cons_zero]; exact rfl
    case w21 => exact rfl
    case d21 => exact rfl
    case h21 =>
      intro s9 w9 h9
      have e0 := cell_all h9.r5 0 (.func (.func 36) #[] #[.pointer (some ⟨w.heap.size, 0, none⟩), .pointer (some ⟨w.heap.size + 1 + 1, 0, none⟩)]) rfl
      go_big_quiet_op
      exact rfl
    refine Qw.Walk.step (A := ?A22) (o := ?o22) (fun s w w2 h hb => Rd.step h hb) 0 V R0.out ?e22 ?w22 27 ?d22 (by simp) ?h22 ?n22
    case e22 => simp only [List.getElem?_toArray, List.getElem?_cons_succ, List.getElem?_cons_zero]; exact rfl
    case w22 => exact rfl
    case d22 => exact rfl
    case h22 =>
      intro s9 w9 h9
      have e0 := cell_all h9.r5 0 (.func (.func 36) #[] #[.pointer (some ⟨w.heap.size, 0, none⟩), .pointer (some ⟨w.heap.size + 1 + 1, 0, none⟩)]) rfl
      go_big_quiet_op
      exact rfl
    refine Qw.Chain.call (o := ?o23) 36 #[.int .i64 4, .pointer (some ⟨w.heap.size, 0, none⟩), .pointer (some ⟨w.heap.size + 1 + 1, 0, none⟩)] (fun u s => u = .int .u64 ((np : Nat) : Int) ∧ s = 0 + 4) ?e23 ?w23 ?r23 ?c23 ?n23
    case e23 => simp only [List.getElem?_toArray, List.getElem?_cons_succ, List.getElem?_cons_zero]; exact rfl
    case w23 => exact rfl
    case r23 => intro w9; simp [execOp, Act.eval, Act.put, resolve, EN, go_sem]
    case c23 =>
      intro w9 h9
      refine (Rd.take h9 4 (by decide) (by decide) (by have := HP.out; omega) HB.out).mono ?_
      rintro e w8 ⟨rfl, h8⟩
      exact ⟨_, 0 + 4, rfl, ⟨by rw [Hnp.out], rfl⟩, h8⟩
    rintro va23 s9 ⟨rfl, rfl⟩
    refine Qw.Chain.call (o := ?o24) 36 #[.int .i64 4, .pointer (some ⟨w.heap.size, 0, none⟩), .pointer (some ⟨w.heap.size + 1 + 1, 0, none⟩)] (fun u s => u = .int .u64 ((nt : Nat) : Int) ∧ s = 0 + 4 + 4) ?e24 ?w24 ?r24 ?c24 ?n24
    case e24 => simp only [List.getElem?_toArray, List.getElem?_cons_succ, List.getElem?_cons_zero]; exact rfl
    case w24 => exact rfl
    case r24 => intro w9; simp [execOp, Act.eval, Act.put, resolve, EN, go_sem]
    case c24 =>
      intro w9 h9
      refine (Rd.take h9 4 (by decide) (by decide) (by have := HP.out; omega) HB.out).mono ?_
      rintro e w8 ⟨rfl, h8⟩
      exact ⟨_, 0 + 4 + 4, rfl, ⟨by rw [Hnt.out], rfl⟩, h8⟩
    rintro va24 s9 ⟨rfl, rfl⟩
    refine Qw.Chain.call (o := ?o25) 36 #[.int .i64 4, .pointer (some ⟨w.heap.size, 0, none⟩), .pointer (some ⟨w.heap.size + 1 + 1, 0, none⟩)] (fun u s => u = .int .u64 ((nb : Nat) : Int) ∧ s = 0 + 4 + 4 + 4) ?e25 ?w25 ?r25 ?c25 ?n25
    case e25 => simp only [List.getElem?_toArray, List.getElem?_cons_succ, List.getElem?_cons_zero]; exact rfl
    case w25 => exact rfl
    case r25 => intro w9; simp [execOp, Act.eval, Act.put, resolve, EN, go_sem]
    case c25 =>
      intro w9 h9
      refine (Rd.take h9 4 (by decide) (by decide) (by have := HP.out; omega) HB.out).mono ?_
      rintro e w8 ⟨rfl, h8⟩
      exact ⟨_, 0 + 4 + 4 + 4, rfl, ⟨by rw [Hnb.out], rfl⟩, h8⟩
    rintro va25 s9 ⟨rfl, rfl⟩
    intro w7 h7
    have H7 := Lib.hid h7
    clear h7
    simp only [List.drop_succ_cons, List.drop_zero, Act.put, List.setIfInBounds_toArray, List.set_cons_succ, List.set_cons_zero]
    go_upto_region 7 with (fail)
    have G2 := Lib.hid ((H7.out.kept _ rfl).trans G2V.out)
    have RD := Lib.hid (show Rd w V (fun _ => False) (w.heap.size) (w.heap.size + 1 + 1) (w.heap.size + 1 + 1 + 1) (.slice a B.length cap) B 12 w7 from rd_other H7.out)
    clear H7 R0 G2V HG1 HG2 HB0 HWS HWW
    by_cases h1 : 4096 < np ∨ 4096 < nt ∨ 4096 < nb
    · have HK := Lib.hid (show cd = 3 by rw [HC.out, if_neg (by have := HP.out; omega), if_pos h1])
      have fin : ∀ (a1 a2 a3 : Bool), decide (4096 < (np : Int)) = a1 → decide (4096 < (nt : Int)) = a2 → decide (4096 < (nb : Int)) = a3 → (a1 || a2 || a3) = true := by
        rintro a1 a2 a3 rfl rfl rfl
        simp; omega
      obtain ⟨a1, e1⟩ : ∃ a, decide (4096 < (np : Int)) = a := ⟨_, rfl⟩
      obtain ⟨a2, e2⟩ : ∃ a, decide (4096 < (nt : Int)) = a := ⟨_, rfl⟩
      obtain ⟨a3, e3⟩ : ∃ a, decide (4096 < (nb : Int)) = a := ⟨_, rfl⟩
      have ha := fin a1 a2 a3 e1 e2 e3
      clear fin h1
      cases a1 <;> cases a2 <;> cases a3 <;> first
        | (exact absurd ha (by decide))
        | (go_wp2_with (with_reducible refine store_mesh rfl (.tmp 2) (.tmp 39) rfl rfl (w.heap.size + 1) (.slice none 0 0) (.slice none 0 0) (.slice none 0 0) rfl rfl _ G2.out rfl ⟨rfl, rfl, rfl⟩ ?_)
           refine bodyPost_ret (results_row_tmp rfl _ _ _ (w.heap.size + 1) 30 #[.slice none 0 0, .slice none 0 0, .slice none 0 0] _ _ rfl (setRow_heap _ _ _ _ _ _ G2.out) Try.underlying30 mesh_size) rfl ?_
           exact EARLY.out 3 HK.out (by decide) w7 RD.out.below)
    · have HN4 := Lib.hid (show np ≤ 4096 ∧ nt ≤ 4096 ∧ nb ≤ 4096 by omega)
      have g1 : decide (4096 < (np : Int)) = false := decide_eq_false (by omega)
      have g2 : decide (4096 < (nt : Int)) = false := decide_eq_false (by omega)
      have g3 : decide (4096 < (nb : Int)) = false := decide_eq_false (by omega)
      have HC2 := Lib.hid (show cd = if B.length < sz then 12 else if sz < B.length then 10 else checkF me by rw [HC.out, if_neg (by have := HP.out; omega), if_neg h1])
      have n1 : np ≤ 4096 := HN4.out.1
      have n2 : nt ≤ 4096 := HN4.out.2.1
      have n3 : nb ≤ 4096 := HN4.out.2.2
      have f1 : IntKind.i64.wrap (24 * (np : Int)) = 24 * (np : Int) := wrap_in (by omega) (by omega)
      have f2 : IntKind.i64.wrap (12 + 24 * (np : Int)) = 12 + 24 * (np : Int) := wrap_in (by omega) (by omega)
      have f3 : IntKind.i64.wrap (12 * (nt : Int)) = 12 * (nt : Int) := wrap_in (by omega) (by omega)
      have f4 : IntKind.i64.wrap (12 + 24 * (np : Int) + 12 * (nt : Int)) = 12 + 24 * (np : Int) + 12 * (nt : Int) := wrap_in (by omega) (by omega)
      have f5 : IntKind.i64.wrap (32 * (nb : Int)) = 32 * (nb : Int) := wrap_in (by omega) (by omega)
      have f6 : IntKind.i64.wrap (12 + 24 * (np : Int) + 12 * (nt : Int) + 32 * (nb : Int)) = (sz : Int) := by rw [HSZ.out, wrap_in (by omega) (by omega)]; omega
      have k0 := cell_row RD.out.rb 0 (.slice a B.length cap) rfl
      clear HC h1
      by_cases h2 : B.length < sz
      · have e1 : decide (B.length < sz) = true := decide_eq_true h2
        have e2 : decide ((B.length : Int) < (sz : Int)) = true := decide_eq_true (by omega)
        have HK := Lib.hid (show cd = 12 by rw [HC2.out, if_pos h2])
        clear h2 n1 n2 n3
        go_wp2_with (with_reducible refine store_mesh rfl (.tmp 2) (.tmp 56) rfl rfl (w.heap.size + 1) (.slice none 0 0) (.slice none 0 0) (.slice none 0 0) rfl rfl _ G2.out rfl ⟨rfl, rfl, rfl⟩ ?_)
        refine bodyPost_ret (results_row_tmp rfl _ _ _ (w.heap.size + 1) 30 #[.slice none 0 0, .slice none 0 0, .slice none 0 0] _ _ rfl (setRow_heap _ _ _ _ _ _ G2.out) Try.underlying30 mesh_size) rfl ?_
        exact EARLY.out 12 HK.out (by decide) w7 RD.out.below
      · have e1 : decide (B.length < sz) = false := decide_eq_false h2
        have e2 : decide ((B.length : Int) < (sz : Int)) = false := decide_eq_false (by omega)
        by_cases h3 : sz < B.length
        · have e3 : decide (sz < B.length) = true := decide_eq_true h3
          have e4 : decide ((sz : Int) < (B.length : Int)) = true := decide_eq_true (by omega)
          have HK := Lib.hid (show cd = 10 by rw [HC2.out, if_neg h2, if_pos h3])
          clear h2 h3 n1 n2 n3
          go_wp2_with (with_reducible refine store_mesh rfl (.tmp 2) (.tmp 61) rfl rfl (w.heap.size + 1) (.slice none 0 0) (.slice none 0 0) (.slice none 0 0) rfl rfl _ G2.out rfl ⟨rfl, rfl, rfl⟩ ?_)
          refine bodyPost_ret (results_row_tmp rfl _ _ _ (w.heap.size + 1) 30 #[.slice none 0 0, .slice none 0 0, .slice none 0 0] _ _ rfl (setRow_heap _ _ _ _ _ _ G2.out) Try.underlying30 mesh_size) rfl ?_
          exact EARLY.out 10 HK.out (by decide) w7 RD.out.below
        · have e3 : decide (sz < B.length) = false := decide_eq_false h3
          have e4 : decide ((sz : Int) < (B.length : Int)) = false := decide_eq_false (by omega)
          have HK := Lib.hid (show cd = checkF me by rw [HC2.out, if_neg h2, if_neg h3])
          have HLN := Lib.hid (show B.length = 12 + 24 * np + 12 * nt + 32 * nb by have := HSZ.out; omega)
          clear h2 h3 n1 n2 n3
          go_wp2_with fail
          obtain ⟨V2, hV2⟩ : ∃ U, U = w7.alloc (.cells #[.slice none 0 0, .slice none 0 0, .slice none 0 0] 30) := ⟨_, rfl⟩
          rw [← hV2]
          have hx2 : Below w7.heap.size w7 V2 := by rw [hV2]; exact ext_alloc _ _
          have hs2 : V2.heap.size = w7.heap.size + 1 := by rw [hV2]; simp
          have hl1 := lt_of_heap RD.out.rb
          have hl2 := lt_of_heap RD.out.ra
          have hl3 := lt_of_heap RD.out.r5
          have hl4 := lt_of_heap G2.out
          have hg11 : V2.heap[w7.heap.size]? = some (.cells #[.slice none 0 0, .slice none 0 0, .slice none 0 0] 30) := by rw [hV2]; exact heap_alloc_new _ _
          have RM := Lib.hid (show Rm w V2.heap.size (w.heap.size + 1) w7.heap.size (.slice none 0 0) (.slice none 0 0) (.slice none 0 0) [] [] [] V2 from
            ⟨RecsOwn.nil _ _ _, RecsOwn.nil _ _ _, RecsOwn.nil _ _ _, by simp [Value.ownBlock], by simp [Value.ownBlock], by simp [Value.ownBlock], hg11, vec_step G2.out hx2, RD.out.below.trans (hx2.mono RD.out.below.size), ⟨by omega, by have := RD.out.below.size; omega, by omega, by omega, by omega⟩, Nat.le_refl _⟩)
          have RD2 := Lib.hid (RD.out.step hx2)
          have LOW := Lib.hid (show w.heap.size + 1 + 1 + 1 < V2.heap.size ∧ w7.heap.size < V2.heap.size ∧ w.heap.size + 1 + 1 + 1 < w7.heap.size from ⟨by omega, by omega, by omega⟩)
          have HVN := Lib.hid (show ∀ b, (Value.slice a B.length cap).ownBlock = some b → b < w.heap.size from fun b hb => by have := HVB.out b hb; have := HP.out; omega)
          have EV := enters Try.func37 (by kernel_rfl) rfl
          clear hV2 hx2 hs2 hl1 hl2 hl3 hl4 hg11 RD G2 EARLY f1 f2 f3 f4 f5 f6 e1 e2 e3 e4 g1 g2 g3 i1 i2 i3 d0 k0 HVB
          generalize V2.heap.size = NB at *
          generalize w7.heap.size = g11 at *
          clear w7
          go_loopg [63] np (fun r n9 wr => ∃ (i : Nat) (vp : Value), i + r = np ∧ n9 = .int .u64 (i : Int) ∧ Hid (Rm w NB (w.heap.size + 1) g11 vp (.slice none 0 0) (.slice none 0 0) (psF B i) [] [] wr ∧ Rd w V (fun _ => False) (w.heap.size) (w.heap.size + 1 + 1) (w.heap.size + 1 + 1 + 1) (.slice a B.length cap) B (12 + 24 * i) wr))
          case atStart => exact ⟨0, .slice none 0 0, by omega, rfl, Lib.hid ⟨RM.out, RD2.out⟩⟩
          case round =>
            obtain ⟨i, vp, hir, rfl, hin⟩ := hrel
            by_cases hi : i < np
            · have hi2 : (i : Int) < (np : Int) := by omega
              have hi4 : i < 4096 := by have := HN4.out; omega
              have d3 : decide (i < np) = true := decide_eq_true hi
              have d2 : decide ((i : Int) < (np : Int)) = true := decide_eq_true hi2
              have wu : IntKind.u64.wrap ((i : Int) + 1) = (i : Int) + 1 := by rw [u64N_wrap]; unfold u64N; omega
              have HRR := Lib.hid hir
              have HII := Lib.hid hi
              obtain ⟨P, hP⟩ : ∃ P, P = 12 + 24 * i := ⟨_, rfl⟩
              have hPl : P + 24 ≤ B.length := by have := HLN.out; have := HN4.out; omega
              have hin1 := hin.out
              rw [← hP] at hin1
              have hin := Lib.hid hin1
              have HPP := Lib.hid hP
              have HPL := Lib.hid hPl
              clear hir hi hP hPl hin1
              obtain ⟨qv, hqv⟩ : ∃ q, q = vecF B P := ⟨_, rfl⟩
              have HQE := Lib.hid (show vecF B P = qv from hqv.symm)
              clear hqv
              obtain ⟨x, y, z⟩ := qv
              have HJm := Lib.hid (fun (w1 w2 : World) (h : (fun w2 => Keeps (fun k => vp.ownBlock = some k ∨ k = w.heap.size + 1 + 1) wr w2 ∧ Rd w V (fun _ => False) (w.heap.size) (w.heap.size + 1 + 1) (w.heap.size + 1 + 1 + 1) (.slice a B.length cap) B P w2) w1) (hb : Below w1.heap.size w1 w2) => (⟨MeshG.Keeps.more h.1 hb, h.2.step hb⟩ : (fun w2 => Keeps (fun k => vp.ownBlock = some k ∨ k = w.heap.size + 1 + 1) wr w2 ∧ Rd w V (fun _ => False) (w.heap.size) (w.heap.size + 1 + 1) (w.heap.size + 1 + 1 + 1) (.slice a B.length cap) B P w2) w2))
              have HJ := Lib.hid (fun (w1 w2 : World) (h : (fun w2 => Keeps (fun k => vp.ownBlock = some k ∨ k = w.heap.size + 1 + 1) wr w2 ∧ Rd w V (fun _ => False) (w.heap.size) (w.heap.size + 1 + 1) (w.heap.size + 1 + 1 + 1) (.slice a B.length cap) B (P + 24) w2) w1) (hb : Below w1.heap.size w1 w2) => (⟨MeshG.Keeps.more h.1 hb, h.2.step hb⟩ : (fun w2 => Keeps (fun k => vp.ownBlock = some k ∨ k = w.heap.size + 1 + 1) wr w2 ∧ Rd w V (fun _ => False) (w.heap.size) (w.heap.size + 1 + 1) (w.heap.size + 1 + 1 + 1) (.slice a B.length cap) B (P + 24) w2) w2))
              have HG := Lib.hid (fun (w1 w2 : World) (h : (fun w2 => Keeps (fun k => vp.ownBlock = some k ∨ k = w.heap.size + 1 + 1) wr w2 ∧ Rd w V (fun _ => False) (w.heap.size) (w.heap.size + 1 + 1) (w.heap.size + 1 + 1 + 1) (.slice a B.length cap) B (P + 24) w2) w1) (ho : RecsOwn 3 enc3 23 NB w1 vp (psF B i)) (hg : w1.grownBy w2 vp.ownBlock) => (⟨keeps_grown h.1 hg (fun k e => .inl e), rd_grown (NB := NB) h.2 hg (fun b hb => (ho.lt b hb).1) (by have := LOW.out; omega) ⟨by have := LOW.out; omega, by have := LOW.out; omega, by have := LOW.out; omega⟩ (fun b hb => by have := HVN.out b hb; have := LOW.out; omega) (fun _ h => h)⟩ : (fun w2 => Keeps (fun k => vp.ownBlock = some k ∨ k = w.heap.size + 1 + 1) wr w2 ∧ Rd w V (fun _ => False) (w.heap.size) (w.heap.size + 1 + 1) (w.heap.size + 1 + 1 + 1) (.slice a B.length cap) B (P + 24) w2) w2))
              have HBA := Lib.hid (fun (w1 : World) (h : (fun w2 => Keeps (fun k => vp.ownBlock = some k ∨ k = w.heap.size + 1 + 1) wr w2 ∧ Rd w V (fun _ => False) (w.heap.size) (w.heap.size + 1 + 1) (w.heap.size + 1 + 1 + 1) (.slice a B.length cap) B (P + 24) w2) w1) => Nat.le_trans hin.out.1.nb h.1.size)
              have HB2 := Lib.hid (fun (w1 : World) (h : (fun w2 => Keeps (fun k => vp.ownBlock = some k ∨ k = w.heap.size + 1 + 1) wr w2 ∧ Rd w V (fun _ => False) (w.heap.size) (w.heap.size + 1 + 1) (w.heap.size + 1 + 1 + 1) (.slice a B.length cap) B (P + 24) w2) w1) => h.1.size)
              have HR7 := Lib.hid (fun (w1 : World) (h : Keeps (fun k => vp.ownBlock = some k ∨ k = w.heap.size + 1 + 1) wr w1) => keep_cell h hin.out.1.r7 (fun e => by have := LOW.out; rcases e with e | e; have := (hin.out.1.op.lt _ e).1; omega; omega))
              have HOG := Lib.hid (fun (w1 : World) (ho : RecsOwn 3 enc3 23 NB w1 vp (psF B i)) (w2 : World) (hk : Keeps (fun k => k = w.heap.size + 1 + 1) w1 w2) => ho.frame hk (fun b hb e => by have := (ho.lt b hb).1; have := LOW.out; omega))
              have HS0 := Lib.hid (show PhD 3 enc3 23 NB wr.heap.size (fun w2 => Keeps (fun k => vp.ownBlock = some k ∨ k = w.heap.size + 1 + 1) wr w2 ∧ Rd w V (fun _ => False) (w.heap.size) (w.heap.size + 1 + 1) (w.heap.size + 1 + 1 + 1) (.slice a B.length cap) B P w2) (fun w2 => Keeps (fun k => vp.ownBlock = some k ∨ k = w.heap.size + 1 + 1) wr w2 ∧ Rd w V (fun _ => False) (w.heap.size) (w.heap.size + 1 + 1) (w.heap.size + 1 + 1 + 1) (.slice a B.length cap) B (P + 24) w2) vp (psF B i) (⟨x, y, z⟩ : V3) #[.int .i64 x, .int .i64 y, .int .i64 z] Ph.pm wr from ⟨⟨Keeps.refl _ _, hin.out.2⟩, hin.out.1.op⟩)
              have HLE := Lib.hid (show ((psF B i).length + 1) * 24 ≤ 140737488355328 by rw [psF_len]; have := HN4.out; have := HII.out; omega)
              have HLE2 := Lib.hid (show (psF B i).length + 1 ≤ 140737488355328 by rw [psF_len]; have := HN4.out; have := HII.out; omega)
              go_upto_region 17 with (fail)
              refine Qw.wp_region_writes 6 [0, 1, 2] [3, 4, 5] (PhD 3 enc3 23 NB wr.heap.size (fun w2 => Keeps (fun k => vp.ownBlock = some k ∨ k = w.heap.size + 1 + 1) wr w2 ∧ Rd w V (fun _ => False) (w.heap.size) (w.heap.size + 1 + 1) (w.heap.size + 1 + 1 + 1) (.slice a B.length cap) B P w2) (fun w2 => Keeps (fun k => vp.ownBlock = some k ∨ k = w.heap.size + 1 + 1) wr w2 ∧ Rd w V (fun _ => False) (w.heap.size) (w.heap.size + 1 + 1) (w.heap.size + 1 + 1 + 1) (.slice a B.length cap) B (P + 24) w2) vp (psF B i) (⟨x, y, z⟩ : V3) #[.int .i64 x, .int .i64 y, .int .i64 z]) Ph.pm (by kernel_rfl) (by kernel_rfl) (PhD.step HJm.out HJ.out Ph.pm wr _ HS0.out ⟨rfl, rfl, rfl, Nat.le_refl _, fun _ _ => rfl⟩) ?_
              refine Qw.Walk.step (A := ?A2) (o := ?o2) (fun s w w2 h hb => PhD.step HJm.out HJ.out s w w2 h hb) Ph.pm wr HS0.out ?e2 ?w2 65 ?d2 (by simp) ?h2 ?n2
              case e2 => simp only [List.getElem?_toArray, List.getElem?_cons_succ, List.getElem?_cons_zero]; exact rfl
              case w2 => exact rfl
              case d2 => exact rfl
              case h2 =>
                intro s9 w9 h9
                go_big_quiet_op
                exact rfl
              refine Qw.Walk.step (A := ?A3) (o := ?o3) (fun s w w2 h hb => PhD.step HJm.out HJ.out s w w2 h hb) Ph.pm wr HS0.out ?e3 ?w3 66 ?d3 (by simp) ?h3 ?n3
              case e3 => simp only [List.getElem?_toArray, List.getElem?_cons_succ, List.getElem?_cons_zero]; exact rfl
              case w3 => exact rfl
              case d3 => exact rfl
              case h3 =>
                intro s9 w9 h9
                have hJ9 : Keeps (fun k => vp.ownBlock = some k ∨ k = w.heap.size + 1 + 1) wr w9 := by cases s9 <;> exact h9.1.1
                have e0 := cell_all (HR7.out w9 hJ9) 0 vp rfl
                go_big_quiet_op
                exact rfl
              refine Qw.Walk.step (A := ?A4) (o := ?o4) (fun s w w2 h hb => PhD.step HJm.out HJ.out s w w2 h hb) Ph.pm wr HS0.out ?e4 ?w4 67 ?d4 (by simp) ?h4 ?n4
              case e4 => simp only [List.getElem?_toArray, List.getElem?_cons_succ, List.getElem?_cons_zero]; exact rfl
              case w4 => exact rfl
              case d4 => exact rfl
              case h4 =>
                intro s9 w9 h9
                go_big_quiet_op
                exact rfl
              refine Qw.Chain.call (o := ?o1) 37 #[.pointer (some ⟨w.heap.size + 1 + 1 + 1, 0, none⟩)] (fun u s => u = .agg #[.int .i64 x, .int .i64 y, .int .i64 z] ∧ s = Ph.p0) ?e1 ?w1 ?r1 ?c1 ?n1
              case e1 => simp only [List.getElem?_toArray, List.getElem?_cons_succ, List.getElem?_cons_zero]; exact rfl
              case w1 => exact rfl
              case r1 => intro w9; simp [execOp, Act.eval, Act.put, resolve, EV, go_sem]
              case c1 =>
                intro w9 h9
                refine (mvec_keeps V h9.1.2 HPL.out HB.out).mono ?_
                rintro e w8 ⟨rfl, hrd, hkp⟩
                exact ⟨_, Ph.p0, rfl, ⟨by rw [HQE.out], rfl⟩, ⟨h9.1.1.trans hkp (fun k e => .inl (.inr e)), hrd⟩, HOG.out _ h9.2 _ hkp⟩
              rintro va1 s9 ⟨rfl, rfl⟩
              refine Qx.Chain.app (ob := ?ob5) (oa := ?oa5) vecs_slice HJ.out HG.out HBA.out HB2.out rfl HLE.out HLE2.out ?b15 ?b25 ?b35 ?b45 ?b65 (.tmp 66) (.tmp 69) ?b75 ?b85 ?b95 ?b55
              case b15 => simp only [List.getElem?_toArray, List.getElem?_cons_succ, List.getElem?_cons_zero]; exact rfl
              case b45 => simp only [List.getElem?_toArray, List.getElem?_cons_succ, List.getElem?_cons_zero]; exact rfl
              case b25 => exact rfl
              case b65 => exact rfl
              case b75 => exact rfl
              case b85 => exact fun gs => rfl
              case b95 => exact fun gs => rfl
              case b35 => intro w9; simp [execOp, Act.eval, Act.put, go_sem]
              intro gs v9 w9 h9
              have H9 := Lib.hid h9
              clear h9
              simp only [List.drop_succ_cons, List.drop_zero, Act.put, List.setIfInBounds_toArray, List.set_cons_succ, List.set_cons_zero]
              obtain ⟨a9, c9, hv9⟩ := H9.out.2.1.slice_
              generalize (_ ++ _ : List _).length = n9 at hv9
              subst hv9
              have r9 := HR7.out _ H9.out.1.1
              have q9 := cell_row r9 0 _ rfl
              have t9 := frozen_of_row _ _ 0 _ _ r9
              go_wp2_with fail
              clear q9 t9 r9
              go_roundg (np - (i + 1))
              case measure => have := HRR.out; have := HII.out; omega
              case rel =>
                refine ⟨i + 1, .slice a9 n9 c9, by have := HRR.out; have := HII.out; omega, by go_num, Lib.hid ⟨?_, ?_⟩⟩
                · rw [psF_next, ← HPP.out, HQE.out]
                  exact setP hin.out.1 ⟨by omega, by have := LOW.out; omega, by omega, by have := LOW.out; omega⟩ H9.out.1.1 H9.out.2.1 H9.out.2.2
                · rw [show 12 + 24 * (i + 1) = P + 24 by rw [HPP.out]; omega]
                  exact rd_cell H9.out.1.2 _ _ _ (by have := LOW.out; omega) (by have := LOW.out; omega) (by have := LOW.out; omega) (fun e => by have := HVN.out _ e; have := LOW.out; omega) (by have := LOW.out; omega)
            · have d3 : decide (i < np) = false := decide_eq_false hi
              have d2 : decide ((i : Int) < (np : Int)) = false := decide_eq_false (by omega)
              obtain rfl : i = np := by omega
              have HI := Lib.hid hin.out
              clear hin hir RM RD2
              go_wp2_with fail
              clear d2 d3
              go_loopg [74] nt (fun r n9 wr => ∃ (j : Nat) (vt : Value), j + r = nt ∧ n9 = .int .u64 (j : Int) ∧ Hid (Rm w NB (w.heap.size + 1) g11 vp vt (.slice none 0 0) (psF B i) (tsF B (12 + 24 * i) j) [] wr ∧ Rd w V (fun _ => False) (w.heap.size) (w.heap.size + 1 + 1) (w.heap.size + 1 + 1 + 1) (.slice a B.length cap) B (12 + 24 * i + 12 * j) wr))
              case atStart => exact ⟨0, .slice none 0 0, by omega, rfl, HI⟩
              case round =>
                obtain ⟨j, vt, hir, rfl, hin⟩ := hrel
                by_cases hi : j < nt
                · have hi2 : (j : Int) < (nt : Int) := by omega
                  have hi4 : j < 4096 := by have := HN4.out; omega
                  have d3 : decide (j < nt) = true := decide_eq_true hi
                  have d2 : decide ((j : Int) < (nt : Int)) = true := decide_eq_true hi2
                  have wu : IntKind.u64.wrap ((j : Int) + 1) = (j : Int) + 1 := by rw [u64N_wrap]; unfold u64N; omega
                  have HRR := Lib.hid hir
                  have HII := Lib.hid hi
                  obtain ⟨P, hP⟩ : ∃ P, P = 12 + 24 * i + 12 * j := ⟨_, rfl⟩
                  have hPl : P + 12 ≤ B.length := by have := HLN.out; have := HN4.out; omega
                  have hin1 := hin.out
                  rw [← hP] at hin1
                  have hin := Lib.hid hin1
                  have HPP := Lib.hid hP
                  have HPL := Lib.hid hPl
                  clear hir hi hP hPl hin1
                  obtain ⟨X1, hX1⟩ : ∃ X, X = numF B P 4 := ⟨_, rfl⟩
                  obtain ⟨X2, hX2⟩ : ∃ X, X = numF B (P + 4) 4 := ⟨_, rfl⟩
                  obtain ⟨X3, hX3⟩ : ∃ X, X = numF B (P + 8) 4 := ⟨_, rfl⟩
                  have HX1 := Lib.hid hX1
                  have HX2 := Lib.hid hX2
                  have HX3 := Lib.hid hX3
                  obtain ⟨x, hx⟩ : ∃ x, x = i64F X1 := ⟨_, rfl⟩
                  obtain ⟨y, hy⟩ : ∃ x, x = i64F X2 := ⟨_, rfl⟩
                  obtain ⟨z, hz⟩ : ∃ x, x = i64F X3 := ⟨_, rfl⟩
                  have e1 : IntKind.i64.wrap (X1 : Int) = x := hx.symm
                  have e2 : IntKind.i64.wrap (X2 : Int) = y := hy.symm
                  have e3 : IntKind.i64.wrap (X3 : Int) = z := hz.symm
                  have HQE := Lib.hid (show triF B P = ⟨x, y, z⟩ by rw [hx, hy, hz, hX1, hX2, hX3]; rfl)
                  clear hX1 hX2 hX3 hx hy hz
                  have HS0 := Lib.hid (show Rd w V (fun _ => False) (w.heap.size) (w.heap.size + 1 + 1) (w.heap.size + 1 + 1 + 1) (.slice a B.length cap) B P wr ∧ Keeps (fun k => k = w.heap.size + 1 + 1) wr wr from ⟨hin.out.2, Keeps.refl _ _⟩)
                  go_upto_region 21 with (fail)
                  refine Qw.wp_region_writes 6 [0, 2, 4] [1, 3, 5] (fun (q : Nat) w2 => Rd w V (fun _ => False) (w.heap.size) (w.heap.size + 1 + 1) (w.heap.size + 1 + 1 + 1) (.slice a B.length cap) B q w2 ∧ Keeps (fun k => k = w.heap.size + 1 + 1) wr w2) P (by kernel_rfl) (by kernel_rfl) ⟨HS0.out.1.step ⟨rfl, rfl, rfl, Nat.le_refl _, fun _ _ => rfl⟩, MeshG.Keeps.more HS0.out.2 ⟨rfl, rfl, rfl, Nat.le_refl _, fun _ _ => rfl⟩⟩ ?_
                  refine Qw.Walk.step (A := ?A6) (o := ?o6) (fun s w1 w2 h hb => ⟨h.1.step hb, MeshG.Keeps.more h.2 hb⟩) P wr HS0.out ?e6 ?w6 76 ?d6 (by simp) ?h6 ?n6
                  case e6 => simp only [List.getElem?_toArray, List.getElem?_cons_succ, List.getElem?_cons_zero]; exact rfl
                  case w6 => exact rfl
                  case d6 => exact rfl
                  case h6 =>
                    intro s9 w9 h9
                    have e0 := cell_all h9.1.r5 0 (.func (.func 36) #[] #[.pointer (some ⟨w.heap.size, 0, none⟩), .pointer (some ⟨w.heap.size + 1 + 1, 0, none⟩)]) rfl
                    go_big_quiet_op
                    exact rfl
                  refine Qw.Walk.step (A := ?A7) (o := ?o7) (fun s w1 w2 h hb => ⟨h.1.step hb, MeshG.Keeps.more h.2 hb⟩) P wr HS0.out ?e7 ?w7 78 ?d7 (by simp) ?h7 ?n7
                  case e7 => simp only [List.getElem?_toArray, List.getElem?_cons_succ, List.getElem?_cons_zero]; exact rfl
                  case w7 => exact rfl
                  case d7 => exact rfl
                  case h7 =>
                    intro s9 w9 h9
                    have e0 := cell_all h9.1.r5 0 (.func (.func 36) #[] #[.pointer (some ⟨w.heap.size, 0, none⟩), .pointer (some ⟨w.heap.size + 1 + 1, 0, none⟩)]) rfl
                    go_big_quiet_op
                    exact rfl
                  refine Qw.Walk.step (A := ?A8) (o := ?o8) (fun s w1 w2 h hb => ⟨h.1.step hb, MeshG.Keeps.more h.2 hb⟩) P wr HS0.out ?e8 ?w8 80 ?d8 (by simp) ?h8 ?n8
                  case e8 => simp only [List.getElem?_toArray, List.getElem?_cons_succ, List.getElem?_cons_zero]; exact rfl
                  case w8 => exact rfl
                  case d8 => exact rfl
                  case h8 =>
                    intro s9 w9 h9
                    have e0 := cell_all h9.1.r5 0 (.func (.func 36) #[] #[.pointer (some ⟨w.heap.size, 0, none⟩), .pointer (some ⟨w.heap.size + 1 + 1, 0, none⟩)]) rfl
                    go_big_quiet_op
                    exact rfl
                  refine Qw.Chain.call (o := ?o9) 36 #[.int .i64 4, .pointer (some ⟨w.heap.size, 0, none⟩), .pointer (some ⟨w.heap.size + 1 + 1, 0, none⟩)] (fun u s => u = .int .u64 ((X1 : Nat) : Int) ∧ s = P + 4) ?e9 ?w9 ?r9 ?c9 ?n9
                  case e9 => simp only [List.getElem?_toArray, List.getElem?_cons_succ, List.getElem?_cons_zero]; exact rfl
                  case w9 => exact rfl
                  case r9 => intro w9; simp [execOp, Act.eval, Act.put, resolve, EN, go_sem]
                  case c9 =>
                    intro w9 h9
                    refine (take_keeps V h9.1 4 (by decide) (by decide) (by have := HPL.out; omega) HB.out).mono ?_
                    rintro e w8 ⟨rfl, h8, k8⟩
                    exact ⟨_, P + 4, rfl, ⟨by rw [HX1.out], rfl⟩, h8, h9.2.trans k8 (fun _ h => .inl h)⟩
                  rintro va9 s9 ⟨rfl, rfl⟩
                  refine Qw.Chain.call (o := ?o10) 36 #[.int .i64 4, .pointer (some ⟨w.heap.size, 0, none⟩), .pointer (some ⟨w.heap.size + 1 + 1, 0, none⟩)] (fun u s => u = .int .u64 ((X2 : Nat) : Int) ∧ s = P + 4 + 4) ?e10 ?w10 ?r10 ?c10 ?n10
                  case e10 => simp only [List.getElem?_toArray, List.getElem?_cons_succ, List.getElem?_cons_zero]; exact rfl
                  case w10 => exact rfl
                  case r10 => intro w9; simp [execOp, Act.eval, Act.put, resolve, EN, go_sem]
                  case c10 =>
                    intro w9 h9
                    refine (take_keeps V h9.1 4 (by decide) (by decide) (by have := HPL.out; omega) HB.out).mono ?_
                    rintro e w8 ⟨rfl, h8, k8⟩
                    exact ⟨_, P + 4 + 4, rfl, ⟨by rw [HX2.out], rfl⟩, h8, h9.2.trans k8 (fun _ h => .inl h)⟩
                  rintro va10 s9 ⟨rfl, rfl⟩
                  refine Qw.Chain.call (o := ?o11) 36 #[.int .i64 4, .pointer (some ⟨w.heap.size, 0, none⟩), .pointer (some ⟨w.heap.size + 1 + 1, 0, none⟩)] (fun u s => u = .int .u64 ((X3 : Nat) : Int) ∧ s = P + 4 + 4 + 4) ?e11 ?w11 ?r11 ?c11 ?n11
                  case e11 => simp only [List.getElem?_toArray, List.getElem?_cons_succ, List.getElem?_cons_zero]; exact rfl
                  case w11 => exact rfl
                  case r11 => intro w9; simp [execOp, Act.eval, Act.put, resolve, EN, go_sem]
                  case c11 =>
                    intro w9 h9
                    refine (take_keeps V h9.1 4 (by decide) (by decide) (by have := HPL.out; omega) HB.out).mono ?_
                    rintro e w8 ⟨rfl, h8, k8⟩
                    exact ⟨_, P + 4 + 4 + 4, rfl, ⟨by rw [HX3.out], rfl⟩, h8, h9.2.trans k8 (fun _ h => .inl h)⟩
                  rintro va11 s9 ⟨rfl, rfl⟩
                  intro w7 h7
                  have H7 := Lib.hid h7
                  clear h7
                  simp only [List.drop_succ_cons, List.drop_zero, Act.put, List.setIfInBounds_toArray, List.set_cons_succ, List.set_cons_zero]
                  go_upto_region 22 with (fail)
                  have hne : ∀ b, vt.ownBlock = some b → b ≠ w.heap.size + 1 + 1 := fun b hb e => by have := (hin.out.1.ot.lt b hb).1; have := LOW.out; omega
                  have hx7 : Below w7.heap.size w7 (w7.alloc (.cells #[.int .i64 x, .int .i64 y, .int .i64 z] 31)) := ext_alloc _ _
                  have OT := Lib.hid ((hin.out.1.ot.frame H7.out.2 (fun b hb e => hne b hb e)).below hx7 (Nat.le_refl _))
                  have R1 := Lib.hid (recs_one len3 31 w7 (⟨x, y, z⟩ : V3) #[.int .i64 x, .int .i64 y, .int .i64 z] rfl)
                  have R7 := Lib.hid (keep_cell H7.out.2 hin.out.1.r7 (fun e => by have := LOW.out; omega))
                  have r7 := cell_row R7.out 1 vt rfl
                  have KP := Lib.hid (MeshG.Keeps.more H7.out.2 hx7)
                  have RX := Lib.hid (H7.out.1.step hx7)
                  have NBX := Lib.hid (show NB ≤ (w7.alloc (.cells #[.int .i64 x, .int .i64 y, .int .i64 z] 31)).heap.size from Nat.le_trans (Nat.le_trans hin.out.1.nb H7.out.2.size) hx7.size)
                  have HLE := Lib.hid (show ((tsF B (12 + 24 * i) j).length + [(⟨x, y, z⟩ : V3)].length) * 24 ≤ 140737488355328 by rw [tsF_len]; show (j + 1) * 24 ≤ _; omega)
                  have HLE2 := Lib.hid (show (tsF B (12 + 24 * i) j).length + [(⟨x, y, z⟩ : V3)].length ≤ 140737488355328 by rw [tsF_len]; show j + 1 ≤ _; omega)
                  have R7A := Lib.hid ((heap_alloc_old w7 (.cells #[.int .i64 x, .int .i64 y, .int .i64 z] 31) (lt_of_heap R7.out)).trans R7.out)
                  have HN7 := Lib.hid (show ∀ b, vt.ownBlock = some b → b ≠ g11 from fun b hb e => by have := (hin.out.1.ot.lt b hb).1; have := LOW.out; omega)
                  clear hne hx7
                  go_wp2_with (at_builtin; refine wpList_append_recs rfl (.tmp 83) (.tmp 91) 28 31 rfl (.agg #[.int .i64 0, .int .i64 0, .int .i64 0]) 24 NB tris_slice vt (tsF B (12 + 24 * i) j) rfl OT.out _ [(⟨x, y, z⟩ : V3)] rfl R1.out HLE.out HLE2.out NBX.out ?_; intro v2 w2 hown hgr hwh; obtain ⟨a9, c9, hv9⟩ := hown.slice_; generalize (_ ++ _ : List _).length = n9 at hv9; subst hv9; have H2 := Lib.hid (And.intro hown (And.intro hgr hwh)); clear hown hgr hwh; have r9 := (H2.out.2.1.block g11 (lt_of_heap R7A.out) (fun e => HN7.out g11 e.symm rfl)).trans R7A.out; have R9 := Lib.hid r9; have q9 := cell_row r9 1 vt rfl; have t9 := frozen_of_row _ _ 1 _ _ r9; clear r9)
                  clear q9 t9 r7 e1 e2 e3
                  go_roundg (nt - (j + 1))
                  case measure => have := HRR.out; have := HII.out; omega
                  case rel =>
                    refine ⟨j + 1, .slice a9 n9 c9, by have := HRR.out; have := HII.out; omega, by go_num, Lib.hid ⟨?_, ?_⟩⟩
                    · rw [tsF_next, ← HPP.out, HQE.out]
                      refine setT hin.out.1 ⟨by omega, by have := LOW.out; omega, by omega, by have := LOW.out; omega⟩ (keeps_grown (KP.out.mono (fun k e => .inr e)) H2.out.2.1 (fun k e => .inl e)) H2.out.1 ?_
                      rcases H2.out.2.2 with e | e
                      · exact .inl e
                      · refine .inr fun b hb => ?_
                        rw [e] at hb; simp only [Option.some.injEq] at hb
                        have := KP.out.size; omega
                    · rw [show 12 + 24 * i + 12 * (j + 1) = P + 4 + 4 + 4 by rw [HPP.out]; omega]
                      exact rd_cell (rd_grown (NB := NB) RX.out H2.out.2.1 (fun b hb => (OT.out.lt b hb).1) (by have := LOW.out; omega) ⟨by have := LOW.out; omega, by have := LOW.out; omega, by have := LOW.out; omega⟩ (fun b hb => by have := HVN.out b hb; have := LOW.out; omega) (fun _ h => h)) _ _ _ (by have := LOW.out; omega) (by have := LOW.out; omega) (by have := LOW.out; omega) (fun e => by have := HVN.out _ e; have := LOW.out; omega) (by have := LOW.out; omega)
                · have d3 : decide (j < nt) = false := decide_eq_false hi
                  have d2 : decide ((j : Int) < (nt : Int)) = false := decide_eq_false (by omega)
                  obtain rfl : j = nt := by omega
                  have HI2 := Lib.hid hin.out
                  clear hin hir
                  go_wp2_with fail
                  clear d2 d3
                  go_loopg [96] nb (fun r n9 wr => ∃ (k : Nat) (vb : Value), k + r = nb ∧ n9 = .int .u64 (k : Int) ∧ Hid (Rm w NB (w.heap.size + 1) g11 vp vt vb (psF B i) (tsF B (12 + 24 * i) j) (bsF B (12 + 24 * i + 12 * j) k) wr ∧ Rd w V (fun _ => False) (w.heap.size) (w.heap.size + 1 + 1) (w.heap.size + 1 + 1 + 1) (.slice a B.length cap) B (12 + 24 * i + 12 * j + 32 * k) wr))
                  case atStart => exact ⟨0, .slice none 0 0, by omega, rfl, HI2⟩
                  case round =>
                    obtain ⟨k, vb, hir, rfl, hin⟩ := hrel
                    by_cases hi : k < nb
                    · have hi2 : (k : Int) < (nb : Int) := by omega
                      have hi4 : k < 4096 := by have := HN4.out; omega
                      have d3 : decide (k < nb) = true := decide_eq_true hi
                      have d2 : decide ((k : Int) < (nb : Int)) = true := decide_eq_true hi2
                      have wu : IntKind.u64.wrap ((k : Int) + 1) = (k : Int) + 1 := by rw [u64N_wrap]; unfold u64N; omega
                      have HRR := Lib.hid hir
                      have HII := Lib.hid hi
                      obtain ⟨P, hP⟩ : ∃ P, P = 12 + 24 * i + 12 * j + 32 * k := ⟨_, rfl⟩
                      have hPl : P + 32 ≤ B.length := by have := HLN.out; have := HN4.out; omega
                      have hin1 := hin.out
                      rw [← hP] at hin1
                      have hin := Lib.hid hin1
                      have HPP := Lib.hid hP
                      have HPL := Lib.hid hPl
                      clear hir hi hP hPl hin1
                      obtain ⟨qv, hqv⟩ : ∃ q, q = vecF B P := ⟨_, rfl⟩
                      have HQE := Lib.hid (show vecF B P = qv from hqv.symm)
                      clear hqv
                      obtain ⟨x, y, z⟩ := qv
                      obtain ⟨X1, hX1⟩ : ∃ X, X = numF B (P + 24) 8 := ⟨_, rfl⟩
                      have HX1 := Lib.hid hX1
                      obtain ⟨s, hs⟩ : ∃ x, x = i64F X1 := ⟨_, rfl⟩
                      have e1 : IntKind.i64.wrap (X1 : Int) = s := hs.symm
                      have HQE2 := Lib.hid (show balF B P = ⟨⟨x, y, z⟩, s⟩ by rw [hs, hX1, ← HQE.out]; rfl)
                      clear hX1 hs
                      go_wp2_with fail
                      clear d2 d3
                      refine (mvec_keeps V hin.out.2 (by have := HPL.out; omega) HB.out).mono ?_
                      rintro e w8 ⟨rfl, hrd, hkp⟩
                      rw [HQE.out]
                      obtain ⟨Y, hY⟩ : ∃ U, U = (w8.alloc (.cells #[.int .i64 0, .int .i64 0, .int .i64 0] 23)).setRow w8.heap.size #[.int .i64 x, .int .i64 y, .int .i64 z] := ⟨_, rfl⟩
                      have hYB : Below w8.heap.size w8 Y := by rw [hY]; exact below_setRow (ext_alloc _ _) (Nat.le_refl _) _
                      have G15 := Lib.hid (show Y.heap[w8.heap.size]? = some (.cells #[.int .i64 x, .int .i64 y, .int .i64 z] 23) by rw [hY]; exact setRow_heap _ _ _ _ _ _ (heap_alloc_new _ _))
                      have RY := Lib.hid (hrd.step hYB)
                      have KY := Lib.hid (MeshG.Keeps.more hkp hYB)
                      have H15 := Lib.hid (show (∀ b, vb.ownBlock = some b → b ≠ w8.heap.size) ∧ w8.heap.size ≠ w.heap.size + 1 + 1 ∧ wr.heap.size ≤ w8.heap.size from ⟨fun b hb e => by have := (hin.out.1.ob.lt b hb).2; have := hkp.size; omega, by have := lt_of_heap hrd.ra; omega, hkp.size⟩)
                      have HYY := Lib.hid hY
                      clear hY hYB hrd hkp
                      go_upto_region 27 with (with_reducible refine store_recV rfl (.tmp 15) (.tmp 99) rfl rfl w8.heap.size x y z rfl rfl _ (heap_alloc_new _ _) rfl ?_)
                      rw [← HYY.out]
                      clear HYY
                      generalize w8.heap.size = g15 at *
                      clear w8
                      have HJm := Lib.hid (fun (w1 w2 : World) (h : (fun w2 => Keeps (fun k => vb.ownBlock = some k ∨ k = w.heap.size + 1 + 1) wr w2 ∧ Rd w V (fun _ => False) (w.heap.size) (w.heap.size + 1 + 1) (w.heap.size + 1 + 1 + 1) (.slice a B.length cap) B (P + 24) w2 ∧ w2.heap[g15]? = some (.cells #[.int .i64 x, .int .i64 y, .int .i64 z] 23)) w1) (hb : Below w1.heap.size w1 w2) => (⟨MeshG.Keeps.more h.1 hb, h.2.1.step hb, vec_step h.2.2 hb⟩ : (fun w2 => Keeps (fun k => vb.ownBlock = some k ∨ k = w.heap.size + 1 + 1) wr w2 ∧ Rd w V (fun _ => False) (w.heap.size) (w.heap.size + 1 + 1) (w.heap.size + 1 + 1 + 1) (.slice a B.length cap) B (P + 24) w2 ∧ w2.heap[g15]? = some (.cells #[.int .i64 x, .int .i64 y, .int .i64 z] 23)) w2))
                      have HJ := Lib.hid (fun (w1 w2 : World) (h : (fun w2 => Keeps (fun k => vb.ownBlock = some k ∨ k = w.heap.size + 1 + 1) wr w2 ∧ Rd w V (fun _ => False) (w.heap.size) (w.heap.size + 1 + 1) (w.heap.size + 1 + 1 + 1) (.slice a B.length cap) B (P + 24 + 8) w2 ∧ w2.heap[g15]? = some (.cells #[.int .i64 x, .int .i64 y, .int .i64 z] 23)) w1) (hb : Below w1.heap.size w1 w2) => (⟨MeshG.Keeps.more h.1 hb, h.2.1.step hb, vec_step h.2.2 hb⟩ : (fun w2 => Keeps (fun k => vb.ownBlock = some k ∨ k = w.heap.size + 1 + 1) wr w2 ∧ Rd w V (fun _ => False) (w.heap.size) (w.heap.size + 1 + 1) (w.heap.size + 1 + 1 + 1) (.slice a B.length cap) B (P + 24 + 8) w2 ∧ w2.heap[g15]? = some (.cells #[.int .i64 x, .int .i64 y, .int .i64 z] 23)) w2))
                      have HG := Lib.hid (fun (w1 w2 : World) (h : (fun w2 => Keeps (fun k => vb.ownBlock = some k ∨ k = w.heap.size + 1 + 1) wr w2 ∧ Rd w V (fun _ => False) (w.heap.size) (w.heap.size + 1 + 1) (w.heap.size + 1 + 1 + 1) (.slice a B.length cap) B (P + 24 + 8) w2 ∧ w2.heap[g15]? = some (.cells #[.int .i64 x, .int .i64 y, .int .i64 z] 23)) w1) (ho : RecsOwn 4 enc4 26 NB w1 vb (bsF B (12 + 24 * i + 12 * j) k)) (hg : w1.grownBy w2 vb.ownBlock) => (⟨keeps_grown h.1 hg (fun k e => .inl e), rd_grown (NB := NB) h.2.1 hg (fun b hb => (ho.lt b hb).1) (by have := LOW.out; omega) ⟨by have := LOW.out; omega, by have := LOW.out; omega, by have := LOW.out; omega⟩ (fun b hb => by have := HVN.out b hb; have := LOW.out; omega) (fun _ h => h), (hg.block g15 (lt_of_heap h.2.2) (fun e => H15.out.1 g15 e.symm rfl)).trans h.2.2⟩ : (fun w2 => Keeps (fun k => vb.ownBlock = some k ∨ k = w.heap.size + 1 + 1) wr w2 ∧ Rd w V (fun _ => False) (w.heap.size) (w.heap.size + 1 + 1) (w.heap.size + 1 + 1 + 1) (.slice a B.length cap) B (P + 24 + 8) w2 ∧ w2.heap[g15]? = some (.cells #[.int .i64 x, .int .i64 y, .int .i64 z] 23)) w2))
                      have HBA := Lib.hid (fun (w1 : World) (h : (fun w2 => Keeps (fun k => vb.ownBlock = some k ∨ k = w.heap.size + 1 + 1) wr w2 ∧ Rd w V (fun _ => False) (w.heap.size) (w.heap.size + 1 + 1) (w.heap.size + 1 + 1 + 1) (.slice a B.length cap) B (P + 24 + 8) w2 ∧ w2.heap[g15]? = some (.cells #[.int .i64 x, .int .i64 y, .int .i64 z] 23)) w1) => Nat.le_trans hin.out.1.nb h.1.size)
                      have HB2 := Lib.hid (fun (w1 : World) (h : (fun w2 => Keeps (fun k => vb.ownBlock = some k ∨ k = w.heap.size + 1 + 1) wr w2 ∧ Rd w V (fun _ => False) (w.heap.size) (w.heap.size + 1 + 1) (w.heap.size + 1 + 1 + 1) (.slice a B.length cap) B (P + 24 + 8) w2 ∧ w2.heap[g15]? = some (.cells #[.int .i64 x, .int .i64 y, .int .i64 z] 23)) w1) => h.1.size)
                      have HR7 := Lib.hid (fun (w1 : World) (h : Keeps (fun k => vb.ownBlock = some k ∨ k = w.heap.size + 1 + 1) wr w1) => keep_cell h hin.out.1.r7 (fun e => by have := LOW.out; rcases e with e | e; have := (hin.out.1.ob.lt _ e).1; omega; omega))
                      have HOG := Lib.hid (fun (w1 : World) (ho : RecsOwn 4 enc4 26 NB w1 vb (bsF B (12 + 24 * i + 12 * j) k)) (w2 : World) (hk : Keeps (fun k => k = w.heap.size + 1 + 1) w1 w2) => ho.frame hk (fun b hb e => by have := (ho.lt b hb).1; have := LOW.out; omega))
                      have HS0 := Lib.hid (show PhD 4 enc4 26 NB wr.heap.size (fun w2 => Keeps (fun k => vb.ownBlock = some k ∨ k = w.heap.size + 1 + 1) wr w2 ∧ Rd w V (fun _ => False) (w.heap.size) (w.heap.size + 1 + 1) (w.heap.size + 1 + 1 + 1) (.slice a B.length cap) B (P + 24) w2 ∧ w2.heap[g15]? = some (.cells #[.int .i64 x, .int .i64 y, .int .i64 z] 23)) (fun w2 => Keeps (fun k => vb.ownBlock = some k ∨ k = w.heap.size + 1 + 1) wr w2 ∧ Rd w V (fun _ => False) (w.heap.size) (w.heap.size + 1 + 1) (w.heap.size + 1 + 1 + 1) (.slice a B.length cap) B (P + 24 + 8) w2 ∧ w2.heap[g15]? = some (.cells #[.int .i64 x, .int .i64 y, .int .i64 z] 23)) vb (bsF B (12 + 24 * i + 12 * j) k) (⟨⟨x, y, z⟩, s⟩ : B4) #[.int .i64 x, .int .i64 y, .int .i64 z, .int .i64 s] Ph.pm Y from ⟨⟨KY.out.mono (fun k e => .inr e), RY.out, G15.out⟩, hin.out.1.ob.frame KY.out (fun b hb e => by have := (hin.out.1.ob.lt b hb).1; have := LOW.out; omega)⟩)
                      have HLE := Lib.hid (show ((bsF B (12 + 24 * i + 12 * j) k).length + 1) * 32 ≤ 140737488355328 by rw [bsF_len]; have := HN4.out; have := HII.out; omega)
                      have HLE2 := Lib.hid (show (bsF B (12 + 24 * i + 12 * j) k).length + 1 ≤ 140737488355328 by rw [bsF_len]; have := HN4.out; have := HII.out; omega)
                      refine Qw.wp_region_writes 9 [0, 1, 2, 3] [4, 5, 6, 7, 8] (PhD 4 enc4 26 NB wr.heap.size (fun w2 => Keeps (fun k => vb.ownBlock = some k ∨ k = w.heap.size + 1 + 1) wr w2 ∧ Rd w V (fun _ => False) (w.heap.size) (w.heap.size + 1 + 1) (w.heap.size + 1 + 1 + 1) (.slice a B.length cap) B (P + 24) w2 ∧ w2.heap[g15]? = some (.cells #[.int .i64 x, .int .i64 y, .int .i64 z] 23)) (fun w2 => Keeps (fun k => vb.ownBlock = some k ∨ k = w.heap.size + 1 + 1) wr w2 ∧ Rd w V (fun _ => False) (w.heap.size) (w.heap.size + 1 + 1) (w.heap.size + 1 + 1 + 1) (.slice a B.length cap) B (P + 24 + 8) w2 ∧ w2.heap[g15]? = some (.cells #[.int .i64 x, .int .i64 y, .int .i64 z] 23)) vb (bsF B (12 + 24 * i + 12 * j) k) (⟨⟨x, y, z⟩, s⟩ : B4) #[.int .i64 x, .int .i64 y, .int .i64 z, .int .i64 s]) Ph.pm (by kernel_rfl) (by kernel_rfl) (PhD.step HJm.out HJ.out Ph.pm Y _ HS0.out ⟨rfl, rfl, rfl, Nat.le_refl _, fun _ _ => rfl⟩) ?_
                      refine Qw.Walk.step (A := ?A12) (o := ?o12) (fun s w w2 h hb => PhD.step HJm.out HJ.out s w w2 h hb) Ph.pm Y HS0.out ?e12 ?w12 100 ?d12 (by simp) ?h12 ?n12
                      case e12 => simp only [List.getElem?_toArray, List.getElem?_cons_succ, List.getElem?_cons_zero]; exact rfl
                      case w12 => exact rfl
                      case d12 => exact rfl
                      case h12 =>
                        intro s9 w9 h9
                        go_big_quiet_op
                        exact rfl
                      refine Qw.Walk.step (A := ?A13) (o := ?o13) (fun s w w2 h hb => PhD.step HJm.out HJ.out s w w2 h hb) Ph.pm Y HS0.out ?e13 ?w13 101 ?d13 (by simp) ?h13 ?n13
                      case e13 => simp only [List.getElem?_toArray, List.getElem?_cons_succ, List.getElem?_cons_zero]; exact rfl
                      case w13 => exact rfl
                      case d13 => exact rfl
                      case h13 =>
                        intro s9 w9 h9
                        have hJ9 : Keeps (fun k => vb.ownBlock = some k ∨ k = w.heap.size + 1 + 1) wr w9 := by cases s9 <;> exact h9.1.1
                        have e0 := cell_all (HR7.out w9 hJ9) 2 vb rfl
                        go_big_quiet_op
                        exact rfl
                      refine Qw.Walk.step (A := ?A14) (o := ?o14) (fun s w w2 h hb => PhD.step HJm.out HJ.out s w w2 h hb) Ph.pm Y HS0.out ?e14 ?w14 102 ?d14 (by simp) ?h14 ?n14
                      case e14 => simp only [List.getElem?_toArray, List.getElem?_cons_succ, List.getElem?_cons_zero]; exact rfl
                      case w14 => exact rfl
                      case d14 => exact rfl
                      case h14 =>
                        intro s9 w9 h9
                        have hJ9 : w9.heap[g15]? = some (.cells #[.int .i64 x, .int .i64 y, .int .i64 z] 23) := by cases s9 <;> exact h9.1.2.2
                        obtain ⟨e0, e2, e3⟩ := cells3 hJ9
                        go_big_quiet_op
                        exact rfl
                      refine Qw.Walk.step (A := ?A15) (o := ?o15) (fun s w w2 h hb => PhD.step HJm.out HJ.out s w w2 h hb) Ph.pm Y HS0.out ?e15 ?w15 103 ?d15 (by simp) ?h15 ?n15
                      case e15 => simp only [List.getElem?_toArray, List.getElem?_cons_succ, List.getElem?_cons_zero]; exact rfl
                      case w15 => exact rfl
                      case d15 => exact rfl
                      case h15 =>
                        intro s9 w9 h9
                        have hJ9 : w9.heap[w.heap.size + 1 + 1 + 1]? = some (.cells #[.func (.func 36) #[] #[.pointer (some ⟨w.heap.size, 0, none⟩), .pointer (some ⟨w.heap.size + 1 + 1, 0, none⟩)]] 67) := by cases s9 <;> exact h9.1.2.1.r5
                        have e0 := cell_all hJ9 0 (.func (.func 36) #[] #[.pointer (some ⟨w.heap.size, 0, none⟩), .pointer (some ⟨w.heap.size + 1 + 1, 0, none⟩)]) rfl
                        go_big_quiet_op
                        exact rfl
                      refine Qw.Chain.call (o := ?o16) 36 #[.int .i64 8, .pointer (some ⟨w.heap.size, 0, none⟩), .pointer (some ⟨w.heap.size + 1 + 1, 0, none⟩)] (fun u s => u = .int .u64 (X1 : Int) ∧ s = Ph.p0) ?e16 ?w16 ?r16 ?c16 ?n16
                      case e16 => simp only [List.getElem?_toArray, List.getElem?_cons_succ, List.getElem?_cons_zero]; exact rfl
                      case w16 => exact rfl
                      case r16 => intro w9; simp [execOp, Act.eval, Act.put, resolve, EN, go_sem]
                      case c16 =>
                        intro w9 h9
                        refine (take_keeps V h9.1.2.1 8 (by decide) (by decide) (by have := HPL.out; omega) HB.out).mono ?_
                        rintro e w8 ⟨rfl, hrd, hkp⟩
                        exact ⟨_, Ph.p0, rfl, ⟨by rw [HX1.out], rfl⟩, ⟨h9.1.1.trans hkp (fun k e => .inl (.inr e)), hrd, keep_cell hkp h9.1.2.2 (fun e => H15.out.2.1 e)⟩, HOG.out _ h9.2 _ hkp⟩
                      rintro va16 s9 ⟨rfl, rfl⟩
                      refine chain_pure (o := ?o17) (.int .i64 s) ?e17 ?w17 ?r17 ?n17
                      case e17 => simp only [List.getElem?_toArray, List.getElem?_cons_succ, List.getElem?_cons_zero]; exact rfl
                      case w17 => exact rfl
                      case r17 => intro w9; simp [execOp, Act.eval, Act.put, go_sem, e1]
                      refine chain_pure (o := ?o18) (.agg #[.int .i64 x, .int .i64 y, .int .i64 z, .int .i64 s]) ?e18 ?w18 ?r18 ?n18
                      case e18 => simp only [List.getElem?_toArray, List.getElem?_cons_succ, List.getElem?_cons_zero]; exact rfl
                      case w18 => exact rfl
                      case r18 => intro w9; simp [execOp, Act.eval, Act.put, go_sem]
                      refine Qx.Chain.app (ob := ?ob19) (oa := ?oa19) balls_slice HJ.out HG.out HBA.out HB2.out rfl HLE.out HLE2.out ?b119 ?b219 ?b319 ?b419 ?b619 (.tmp 101) (.tmp 107) ?b719 ?b819 ?b919 ?b519
                      case b119 => simp only [List.getElem?_toArray, List.getElem?_cons_succ, List.getElem?_cons_zero]; exact rfl
                      case b419 => simp only [List.getElem?_toArray, List.getElem?_cons_succ, List.getElem?_cons_zero]; exact rfl
                      case b219 => exact rfl
                      case b619 => exact rfl
                      case b719 => exact rfl
                      case b819 => exact fun gs => rfl
                      case b919 => exact fun gs => rfl
                      case b319 => intro w9; simp [execOp, Act.eval, Act.put, go_sem]
                      intro gs v9 w9 h9
                      have H9 := Lib.hid h9
                      clear h9
                      simp only [List.drop_succ_cons, List.drop_zero, Act.put, List.setIfInBounds_toArray, List.set_cons_succ, List.set_cons_zero]
                      obtain ⟨a9, c9, hv9⟩ := H9.out.2.1.slice_
                      generalize (_ ++ _ : List _).length = n9 at hv9
                      subst hv9
                      have r9 := HR7.out _ H9.out.1.1
                      have q9 := cell_row r9 2 _ rfl
                      have t9 := frozen_of_row _ _ 2 _ _ r9
                      go_wp2_with fail
                      clear q9 t9 r9
                      go_roundg (nb - (k + 1))
                      case measure => have := HRR.out; have := HII.out; omega
                      case rel =>
                        refine ⟨k + 1, .slice a9 n9 c9, by have := HRR.out; have := HII.out; omega, by go_num, Lib.hid ⟨?_, ?_⟩⟩
                        · rw [bsF_next, ← HPP.out, HQE2.out]
                          exact setB hin.out.1 ⟨by omega, by have := LOW.out; omega, by omega, by have := LOW.out; omega⟩ H9.out.1.1 H9.out.2.1 H9.out.2.2
                        · rw [show 12 + 24 * i + 12 * j + 32 * (k + 1) = P + 24 + 8 by rw [HPP.out]; omega]
                          exact rd_cell H9.out.1.2.1 _ _ _ (by have := LOW.out; omega) (by have := LOW.out; omega) (by have := LOW.out; omega) (fun e => by have := HVN.out _ e; have := LOW.out; omega) (by have := LOW.out; omega)
                    · have d3 : decide (k < nb) = false := decide_eq_false hi
                      have d2 : decide ((k : Int) < (nb : Int)) = false := decide_eq_false (by omega)
                      obtain rfl : k = nb := by omega
                      have hrm := hin.out.1
                      have HI3 := Lib.hid hrm
                      have hM : IsMesh wr (.agg #[vp, vt, vb]) me := by
                        rw [HME.out]
                        exact ⟨⟨vp, vt, vb, rfl, hrm.op.recs len3, hrm.ot.recs len3, hrm.ob.recs len4⟩⟩
                      have hML : me.ts.length + me.bs.length ≤ 9223372036854775807 := by rw [HME.out]; show (tsF _ _ _).length + (bsF _ _ _).length ≤ _; rw [tsF_len, bsF_len]; have := HN4.out; omega
                      have CK := Lib.hid (check_any _ me wr hM)
                      have CO := check_or me
                      rw [← HK.out] at CK CO
                      have HM := Lib.hid hM
                      obtain ⟨q0, q1, q2⟩ := cells_now hrm.r7
                      clear hin hir hrm hM hML
                      go_wp2_with fail
                      clear d2 d3 q0 q1 q2
                      refine CK.out.mono ?_
                      rintro e w9 ⟨rfl, hb9⟩
                      have R7 := Lib.hid (vec_step HI3.out.r7 hb9)
                      have R2 := Lib.hid (vec_step HI3.out.r2 hb9)
                      have B9 := Lib.hid (HI3.out.below.trans (hb9.mono HI3.out.below.size))
                      have M9 := Lib.hid (HM.out.below hb9)
                      have hsl : vp.oneCell' = true ∧ vt.oneCell' = true ∧ vb.oneCell' = true := by
                        obtain ⟨a1, c1, e1⟩ := HI3.out.op.slice_
                        obtain ⟨a2, c2, e2⟩ := HI3.out.ot.slice_
                        obtain ⟨a3, c3, e3⟩ := HI3.out.ob.slice_
                        rw [e1, e2, e3]; exact ⟨rfl, rfl, rfl⟩
                      have HSL := Lib.hid hsl
                      have O1 := Lib.hid (HI3.out.op.below hb9 (Nat.le_refl _))
                      have O2 := Lib.hid (HI3.out.ot.below hb9 (Nat.le_refl _))
                      have O3 := Lib.hid (HI3.out.ob.below hb9 (Nat.le_refl _))
                      clear hb9 hsl CK
                      rcases CO with hcd | hcd
                      · have HCD := Lib.hid hcd
                        rw [hcd]
                        clear hcd
                        obtain ⟨q0, q1, q2⟩ := cells_now R7.out
                        go_wp2_with (with_reducible refine store_mesh rfl (.tmp 2) (.tmp 117) rfl rfl (w.heap.size + 1) vp vt vb rfl rfl _ R2.out rfl HSL.out ?_)
                        clear q0 q1 q2
                        refine bodyPost_ret (results_row_tmp rfl _ _ _ (w.heap.size + 1) 30 #[vp, vt, vb] _ _ rfl (setRow_heap _ _ _ _ _ _ R2.out) Try.underlying30 mesh_size) rfl ?_
                        rw [HO.out]
                        refine ⟨_, by rw [HCD.out]; rfl, ?_, below_setRow B9.out (by omega) _⟩
                        rw [HRD.out, if_pos HCD.out, HME.out]
                        have hlo := HI3.out.low
                        have hS : Keeps (fun k => k = w.heap.size + 1) w9 (w9.setRow (w.heap.size + 1) #[vp, vt, vb]) := ⟨rfl, rfl, rfl, by simp [World.setRow], fun k _ hn => setRow_other _ _ _ _ hn⟩
                        exact ⟨⟨vp, vt, vb, rfl, (O1.out.frame hS (fun b hb e => by have := (O1.out.lt b hb).1; omega)).recs len3, (O2.out.frame hS (fun b hb e => by have := (O2.out.lt b hb).1; omega)).recs len3, (O3.out.frame hS (fun b hb e => by have := (O3.out.lt b hb).1; omega)).recs len4⟩⟩
                      · have HCD := Lib.hid hcd
                        rw [hcd]
                        clear hcd
                        go_wp2_with (with_reducible refine store_mesh rfl (.tmp 2) (.tmp 115) rfl rfl (w.heap.size + 1) (.slice none 0 0) (.slice none 0 0) (.slice none 0 0) rfl rfl _ R2.out rfl ⟨rfl, rfl, rfl⟩ ?_)
                        refine bodyPost_ret (results_row_tmp rfl _ _ _ (w.heap.size + 1) 30 #[.slice none 0 0, .slice none 0 0, .slice none 0 0] _ _ rfl (setRow_heap _ _ _ _ _ _ R2.out) Try.underlying30 mesh_size) rfl ?_
                        rw [HO.out]
                        refine ⟨_, by rw [HCD.out]; rfl, ?_, below_setRow B9.out (by omega) _⟩
                        rw [HRD.out, if_neg (by rw [HCD.out]; decide)]
                        exact empty_mesh _
end Go.Proofs.Ytdmmjmdnljhooaa.MeshN
