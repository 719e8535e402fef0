/- Package lightwellref06: Write, End, Whole. -/
import Derived.Test.YtighlefajekloaaDefEg
set_option linter.unusedVariables false
set_option linter.unusedSimpArgs false
namespace Go.Proofs.Ytighlefajekloaa.DefEh
open Go.RowKit Go.Sort BitsM Base Low Bits5 Bits6 Bits8 DefM DefN DefO Rec DefCa DefEa DefEb DefEc DefEd DefEe DefEf DefEg NumSl Qb Qt Qa Qz Qk
/-- a row gb that holds a writer, and a row gr for the answer -/
structure Wx (w wr : World) (gb gr : Nat) (va : Value) (B : List Nat) (At : Nat) (vl : Value) (L : List Bool) (T : Nat) (ov : Bool) : Prop where
  row : wr.heap[gb]? = some (.cells #[va, .int .i64 (At : Int), vl, .int .i64 (T : Int), .bool ov] 62)
  rr : wr.heap[gr]? = some (.cells #[.slice none 0 0, .int .i64 0, .slice none 0 0, .int .i64 0, .bool false] 62)
  nums : Nums .u8 256 wr va B
  sq : Sq wr vl L
  na : ∀ k, va.ownBlock = some k → ¬ k = gb ∧ ¬ k = gr ∧ TyB 5 wr k
  nl : ∀ k, vl.ownBlock = some k → ¬ k = gb ∧ ¬ k = gr
  lo : w.heap.size ≤ gb ∧ w.heap.size ≤ gr ∧ ¬ gb = gr
  below : Below w.heap.size w wr
section
variable {w wr : World} {gb gr : Nat} {va : Value} {B : List Nat} {At : Nat} {vl : Value} {L : List Bool} {T : Nat} {ov : Bool}
theorem Wx.ext (h : Wx w wr gb gr va B At vl L T ov) {w' : World} (hb : Below wr.heap.size wr w') : Wx w w' gb gr va B At vl L T ov where
  row := (hb.block gb (Base.lt_of_heap h.row)).trans h.row
  rr := (hb.block gr (Base.lt_of_heap h.rr)).trans h.rr
  nums := h.nums.below hb (Nat.le_refl _)
  sq := h.sq.below hb (Nat.le_refl _)
  na := fun k hk => ⟨(h.na k hk).1, (h.na k hk).2.1, (h.na k hk).2.2.below hb (Nat.le_refl _)⟩
  nl := h.nl
  lo := h.lo
  below := h.below.trans (hb.mono h.below.size)
theorem Wx.set (h : Wx w wr gb gr va B At vl L T ov) {w' : World} (hk : Keeps (fun k => k = gb) wr w') {va' : Value} {B' : List Nat} {At' : Nat} {vl' : Value} {L' : List Bool} {T' : Nat} {ov' : Bool}
    (hr : w'.heap[gb]? = some (.cells #[va', .int .i64 (At' : Int), vl', .int .i64 (T' : Int), .bool ov'] 62)) (hn : Nums .u8 256 wr va' B') (hs : Sq wr vl' L') (hna : ∀ k, va'.ownBlock = some k → ¬ k = gb ∧ ¬ k = gr ∧ TyB 5 wr k) (hnl : ∀ k, vl'.ownBlock = some k → ¬ k = gb ∧ ¬ k = gr) : Wx w w' gb gr va' B' At' vl' L' T' ov' where
  row := hr
  rr := (hk.block gr (Base.lt_of_heap h.rr) (fun e => h.lo.2.2 e.symm)).trans h.rr
  nums := hn.frame hk (fun k hk2 e => (hna k hk2).1 e)
  sq := hs.frame hk (fun k hk2 e => (hnl k hk2).1 e)
  na := fun k hk2 => ⟨(hna k hk2).1, (hna k hk2).2.1, (hna k hk2).2.2.keep hk (hna k hk2).1⟩
  nl := hnl
  lo := h.lo
  below := h.below.trans (hk.below _ h.below.size (fun k e => by rw [e]; exact h.lo.1))
theorem Wx.cells (h : Wx w wr gb gr va B At vl L T ov) : wr.cell? ⟨gb, 0, none⟩ = some va ∧ wr.cell? ⟨gb, 1, none⟩ = some (.int .i64 (At : Int)) ∧ wr.cell? ⟨gb, 2, none⟩ = some vl ∧ wr.cell? ⟨gb, 3, none⟩ = some (.int .i64 (T : Int)) ∧ wr.cell? ⟨gb, 4, none⟩ = some (.bool ov) := by
  have c := fun j => cell_of_row _ _ j _ _ _ h.row
  exact ⟨c 0, c 1, c 2, c 3, c 4⟩
theorem Wx.frozen (h : Wx w wr gb gr va B At vl L T ov) (j : Nat) : wr.frozen? ⟨gb, j, none⟩ = false := frozen_of_row _ _ j _ _ h.row
end
/-- a writer's value, of which these bytes were written -/
structure Rv (w : World) (v : Value) (B : List Nat) : Prop where
  ex : ∃ va vl, v = .agg #[va, .int .i64 ((4096 * nb B.length : Nat) : Int), vl, .int .i64 (((bitsW B).length / 8 : Nat) : Int), .bool false] ∧ Nums .u8 256 w va B ∧ Sq w vl (bitsW B) ∧ ∀ k, va.ownBlock = some k → TyB 5 w k
theorem Rv.below {w w' : World} {v : Value} {B : List Nat} (h : Rv w v B) (hb : Below w.heap.size w w') : Rv w' v B := by
  obtain ⟨va, vl, e, h1, h2, h3⟩ := h
  exact ⟨va, vl, e, h1.below hb (Nat.le_refl _), h2.below hb (Nat.le_refl _), fun k hk => (h3 k hk).below hb (Nat.le_refl _)⟩
/-- the blocks of a writer's value -/
def own2 (v : Value) (k : Nat) : Prop := ∃ va t vl s o, v = .agg #[va, t, vl, s, o] ∧ (va.ownBlock = some k ∨ vl.ownBlock = some k)
theorem own2_of {va t vl s o : Value} {k : Nat} (h : own2 (.agg #[va, t, vl, s, o]) k) : va.ownBlock = some k ∨ vl.ownBlock = some k := by
  obtain ⟨_, _, _, _, _, e, h⟩ := h
  simp only [Value.agg.injEq, Array.mk.injEq, List.cons.injEq, and_true] at e
  obtain ⟨rfl, -, rfl, -, -⟩ := e
  exact h
theorem Rv.lt {w : World} {v : Value} {B : List Nat} (h : Rv w v B) : ∀ k, own2 v k → k < w.heap.size := by
  obtain ⟨va, vl, rfl, h1, h2, h3⟩ := h
  intro k hk
  rcases own2_of hk with h | h
  · exact (h3 k h).lt
  · exact h2.lt k h
theorem Rv.frame {w w' : World} {v : Value} {B : List Nat} {D : Nat → Prop} (h : Rv w v B) (hk : Keeps D w w') (hD : ∀ k, own2 v k → ¬ D k) : Rv w' v B := by
  obtain ⟨va, vl, rfl, h1, h2, h3⟩ := h
  refine ⟨va, vl, rfl, h1.frame hk (fun k e => hD k ⟨_, _, _, _, _, rfl, .inl e⟩), h2.frame hk (fun k e => hD k ⟨_, _, _, _, _, rfl, .inr e⟩), fun k e => (h3 k e).keep hk (hD k ⟨_, _, _, _, _, rfl, .inl e⟩)⟩
theorem Rv.shape {w : World} {v : Value} {B : List Nat} (h : Rv w v B) : ∃ a1 n1 c1 a2 n2 c2, v = .agg #[.slice a1 n1 c1, .int .i64 ((4096 * nb B.length : Nat) : Int), .slice a2 n2 c2, .int .i64 (((bitsW B).length / 8 : Nat) : Int), .bool false] := by
  obtain ⟨va, vl, rfl, h1, h2, h3⟩ := h
  obtain ⟨a, c, rfl, -⟩ := h1.shape
  obtain ⟨a2, c2, rfl, -⟩ := h2.sq.open_
  exact ⟨_, _, _, _, _, _, rfl⟩
theorem Rv.nil (w : World) : Rv w (.agg #[.slice none 0 0, .int .i64 0, .slice none 0 0, .int .i64 0, .bool false]) [] :=
  ⟨.slice none 0 0, .slice none 0 0, rfl, Nums.nil _ _ _, Sq.nil w, fun k hk => by cases hk⟩
theorem Wx.start (w : World) (va : Value) (B : List Nat) (At : Nat) (vl : Value) (L : List Bool) (T : Nat) (ov : Bool) (hn : Nums .u8 256 w va B) (hs : Sq w vl L) (ha : ∀ k, va.ownBlock = some k → TyB 5 w k) :
    Wx w ((w.alloc (.cells #[va, .int .i64 (At : Int), vl, .int .i64 (T : Int), .bool ov] 62)).alloc (.cells #[.slice none 0 0, .int .i64 0, .slice none 0 0, .int .i64 0, .bool false] 62)) w.heap.size (w.heap.size + 1) va B At vl L T ov := by
  have hb := ((Below.refl w.heap.size w).alloc (Nat.le_refl _) (.cells #[va, .int .i64 (At : Int), vl, .int .i64 (T : Int), .bool ov] 62)).alloc (by simp) (.cells #[.slice none 0 0, .int .i64 0, .slice none 0 0, .int .i64 0, .bool false] 62)
  refine ⟨?_, ?_, hn.below hb (Nat.le_refl _), hs.below hb (Nat.le_refl _), fun k e => ?_, fun k e => ?_, ⟨Nat.le_refl _, by omega, by omega⟩, hb⟩
  · rw [heap_alloc_old _ _ (by simp)]; exact heap_alloc_new _ _
  · rw [show w.heap.size + 1 = (w.alloc (.cells #[va, .int .i64 (At : Int), vl, .int .i64 (T : Int), .bool ov] 62)).heap.size from by simp]; exact heap_alloc_new _ _
  · have := (ha k e).lt
    have h2 : w.heap.size ≤ ((w.alloc (.cells #[va, .int .i64 (At : Int), vl, .int .i64 (T : Int), .bool ov] 62)).alloc (.cells #[.slice none 0 0, .int .i64 0, .slice none 0 0, .int .i64 0, .bool false] 62)).heap.size := hb.size
    exact ⟨by omega, by omega, (ha k e).below hb (Nat.le_refl _)⟩
  · have := hs.lt k e; omega
theorem nb_next (n k : Nat) (h : 4096 < n - 4096 * k) (hk : k ≤ nb n) : k + 1 ≤ nb n ∧ 4096 * (k + 1) ≤ n := by unfold nb at *; omega
theorem ty_num {E base : Nat} {w : World} {v : Value} {l : List Nat} (h : Own .u8 256 E base w v l) : ∀ b, v.ownBlock = some b → TyB E w b := by
  intro b hb
  rcases h.row.2 with ⟨e, -⟩ | ⟨g, c, cur, e, -, hg, -⟩
  · rw [e] at hb; cases hb
  · rw [e] at hb
    simp only [Value.ownBlock, Option.some.injEq] at hb
    subst hb
    exact ⟨_, _, hg⟩
theorem lt_own {w : World} {v : Value} {base E : Nat} {l : List Nat} (h : Own .u8 256 E base w v l) : ∀ k, v.ownBlock = some k → base ≤ k ∧ k < w.heap.size := h.lt
set_option maxRecDepth 100000 in
set_option maxHeartbeats 4000000 in
theorem write_any (v : Value) (B : List Nat) (u : Value) (b : List Nat) (w : World) (hR : Rv w v B) (hu : Nums .u8 256 w u b) (hlen : (B ++ b).length ≤ 20000) :
    Calls Try.prog 43 #[v, u] w fun e w' => ∃ v' x, e = .returned (.tuple #[v', x, .int .i64 0]) ∧ (Rv w' v' (B ++ b) ∧ ∀ k, own2 v' k → own2 v k ∨ w.heap.size ≤ k) ∧ Own .u8 256 5 w.heap.size w' x (outN (bitsW (B ++ b)) ((bitsW B).length / 8)) ∧ Below w.heap.size w w' := by
  obtain ⟨va, vl, rfl, hn, hs, ha⟩ := hR
  obtain ⟨a0, c0, rfl, -, -, -⟩ := hn.shape
  obtain ⟨a2, c2, rfl, -, -⟩ := hs.sq.open_
  obtain ⟨au, cu, rfl, -, -, -⟩ := hu.shape
  have hbl := bitsW_len B
  have hW0 := Wx.start w _ B (4096 * nb B.length) _ (bitsW B) ((bitsW B).length / 8) false hn hs ha
  have hq1 : (B.length + b.length) * 1 ≤ 140737488355328 := by rw [List.length_append] at hlen; omega
  have hq2 : B.length + b.length ≤ 140737488355328 := by omega
  have hq3 : (([] : List Nat).length + B.length) * 1 ≤ 140737488355328 := by simp; omega
  have hq4 : ([] : List Nat).length + B.length ≤ 140737488355328 := by simp; omega
  obtain ⟨T0, hT0⟩ : ∃ t, t = (bitsW B).length / 8 := ⟨_, rfl⟩
  obtain ⟨q0, hqq⟩ : ∃ q, q = 4096 * nb B.length := ⟨_, rfl⟩
  obtain ⟨m0, hm0⟩ : ∃ m, m = B.length := ⟨_, rfl⟩
  obtain ⟨mu, hmu⟩ : ∃ m, m = b.length := ⟨_, rfl⟩
  obtain ⟨M, hM⟩ : ∃ m, m = (bitsW B).length := ⟨_, rfl⟩
  rw [← hT0, ← hqq, ← hm0, ← hM] at hW0
  rw [← hmu] at hu
  rw [← hm0] at hn ha hq1 hq2
  rw [← hM] at hs
  rw [← hT0, ← hqq, ← hm0, ← hmu, ← hM]
  rw [← hmu] at hq1 hq2
  have hbn : B.length = m0 := hm0.symm
  have HU := Lib.hid hu
  have HN := Lib.hid hn
  have HQ1 := Lib.hid (show (B.length + b.length) * 1 ≤ 140737488355328 by rw [← hm0, ← hmu]; exact hq1)
  have HQ2 := Lib.hid (show B.length + b.length ≤ 140737488355328 by rw [← hm0, ← hmu]; exact hq2)
  have HQ3 := Lib.hid hq3
  have HQ4 := Lib.hid hq4
  have HT0 := Lib.hid hT0
  have HQQ := Lib.hid hqq
  have HM0 := Lib.hid hm0
  clear hn hs hu hT0 hqq hM hbl hq1 hq2 hq3 hq4 hm0 hmu hbn ha
  obtain ⟨W, hW⟩ : ∃ W, W = (w.alloc (.cells #[.slice a0 m0 c0, .int .i64 (q0 : Int), .slice a2 M c2, .int .i64 (T0 : Int), .bool false] 62)).alloc (.cells #[.slice none 0 0, .int .i64 0, .slice none 0 0, .int .i64 0, .bool false] 62) := ⟨_, rfl⟩
  rw [← hW] at hW0
  go_enter Try.func43, Try.ntmps43
  go_upto_region 1 with (fail)
  rw [← hW]
  obtain ⟨gr, hgr⟩ : ∃ g, g = w.heap.size + 1 := ⟨_, rfl⟩
  obtain ⟨gb, hgb⟩ : ∃ g, g = w.heap.size := ⟨_, rfl⟩
  rw [← hgr, ← hgb] at hW0
  rw [← hgr, ← hgb]
  have H0 := Lib.hid hW0
  obtain ⟨x0, x1, x2, x3, x4⟩ := hW0.cells
  clear hW hgr hgb hW0 x1 x2 x3
  go_upto_region 5 with (at_builtin; refine wpList_append_nums_at rfl (.tmp 13) (.tmp 15) 33 5 rfl .u8 256 1 W.heap.size u8s (.slice none 0 0) [] rfl (Own.nil _ _ _ _ _) _ B rfl H0.out.nums HQ3.out HQ4.out (Nat.le_refl _) ?_; intro v1 w1 ho1 hg1 hf1)
  rw [List.nil_append] at ho1
  have hb1 := (below_grown (Below.refl W.heap.size W) (Own.nil .u8 256 5 W.heap.size W) hg1 (Nat.le_refl _) (Nat.le_refl _))
  have HO1 := Lib.hid ho1
  have H1 := Lib.hid (H0.out.ext hb1)
  have HU1 := Lib.hid ((HU.out.below H0.out.below (Nat.le_refl _)).below hb1 (Nat.le_refl _))
  have hs1 := hb1.size
  clear ho1 hg1 hf1 hb1 x0 x4
  have f0 := H1.out.frozen 0
  have y0 := H1.out.cells.1
  go_upto_region 6 with (at_builtin; refine wpList_append_nums_at rfl (.tmp 17) (.tmp 18) 33 5 rfl .u8 256 1 W.heap.size u8s v1 B rfl HO1.out _ b rfl HU1.out HQ1.out HQ2.out hs1 ?_; intro v2 w2 ho2 hg2 hf2; obtain ⟨a3, n3, c3, rfl⟩ := ho2.slice_; have hn3h := Lib.hid (nums_len ho2.nums).1; have hk2 := (Keeps.refl (fun k => v1.ownBlock = some k) w1).grown hg2 (fun k hk => .inl hk); have hl0 := Base.lt_of_heap H0.out.row; have hl1 := Base.lt_of_heap H0.out.rr; have hnb : ∀ g, g < W.heap.size → ¬ v1.ownBlock = some g := fun g hg e => (by have := (HO1.out.lt g e).1; omega); have hrw := (hk2.block gb (Base.lt_of_heap H1.out.row) (hnb gb hl0)).trans H1.out.row; have hrr := (hk2.block gr (Base.lt_of_heap H1.out.rr) (hnb gr hl1)).trans H1.out.rr; have f0 := frozen_of_row _ _ 0 _ _ hrw; have y0 := cell_of_row _ _ 0 _ _ _ hrw; simp only [List.getElem?_toArray, List.getElem?_cons_succ, List.getElem?_cons_zero] at y0)
  have hbl2 : Below w.heap.size w w2 := H1.out.below.trans (hk2.below _ H1.out.below.size (fun k e => by have := (HO1.out.lt k e).1; have := H0.out.below.size; omega))
  have hsq2 : Sq w2 (.slice a2 M c2) (bitsW B) := H1.out.sq.frame hk2 (fun k hk e => by have := H0.out.sq.lt k hk; exact hnb k this e)
  have h2x : Wx w w2 gb gr (.slice a3 n3 c3) (B ++ b) q0 (.slice a2 M c2) (bitsW B) T0 false → True := fun _ => trivial
  clear h2x
  have hrow3 := heap_setCell_same w2 gb 0 _ _ (.slice a3 n3 c3) hrw
  have hk3 := (Keeps.refl (fun k => k = gb) w2).setCell gb 0 (.slice a3 n3 c3) (.inl rfl)
  have hn3 := hn3h.out
  clear hn3h
  obtain ⟨w3, hw3⟩ : ∃ ww, ww = w2.setCell ⟨gb, 0, none⟩ (.slice a3 n3 c3) := ⟨_, rfl⟩
  rw [← hw3] at hrow3 hk3 ⊢
  obtain ⟨BB, hBB⟩ : ∃ BB, BB = B ++ b := ⟨_, rfl⟩
  rw [← hBB] at ho2 hn3 hlen
  have hgs : gb < W.heap.size ∧ gr < W.heap.size := ⟨hl0, hl1⟩
  have h3 : Wx w w3 gb gr (.slice a3 n3 c3) BB q0 (.slice a2 M c2) (chain BB (nb B.length)) T0 false := by
    refine ⟨hrow3, (hk3.block gr (Base.lt_of_heap hrr) (fun e => H1.out.lo.2.2 e.symm)).trans hrr, ho2.nums.frame hk3 (fun k hk e => ?_), ?_, fun k hk => ?_, H1.out.nl, H1.out.lo, hbl2.trans (hk3.below _ hbl2.size (fun k e => by rw [e]; exact H1.out.lo.1))⟩
    · have := (ho2.lt k hk).1; omega
    · rw [hBB, ← chain_append B b _ (nb_le _)]
      exact hsq2.frame hk3 (fun k hk e => (H1.out.nl k hk).1 e)
    · have h9 := ho2.lt k hk; exact ⟨by omega, by omega, (ty_num ho2 k hk).keep hk3 (by omega)⟩
  have H3 := Lib.hid h3
  have HNA := Lib.hid (show ∀ k, (Value.slice a3 n3 c3).ownBlock = some k → w.heap.size ≤ k from fun k hk => Nat.le_trans H0.out.below.size (ho2.lt k hk).1)
  have hnl : B.length ≤ n3 := by rw [hn3, hBB, List.length_append]; omega
  have HBB := Lib.hid hBB
  have HN3 := Lib.hid hn3
  have HNL := Lib.hid hnl
  rw [← hn3] at hlen
  have HBO := Lib.hid (show BB.length = n3 from hn3.symm)
  clear hw3 hrow3 hk3 h3 hsq2 hbl2 hrw hrr hnb hk2 hg2 hf2 ho2 f0 y0 hBB hn3 hnl H1 HO1 HU1 HU HN hl0 hl1 hgs
  go_loopw [] (fun wr => ∃ (k : Nat) (vl : Value), k ≤ nb n3 ∧ Wx w wr gb gr (.slice a3 n3 c3) BB (4096 * k) vl (chain BB k) T0 false ∧ ∀ j, vl.ownBlock = some j → (Value.slice a2 M c2).ownBlock = some j ∨ w.heap.size ≤ j) (fun wr => n3 - (intOf ((wr.cell? ⟨gb, 1, none⟩).getD undef)).toNat)
  case atStart => exact ⟨nb B.length, .slice a2 M c2, nb_mono HNL.out, by rw [← HQQ.out]; exact H3.out, fun j h => .inl h⟩
  case round =>
    obtain ⟨k, vl, hk, hx, hvo⟩ := hrel
    obtain ⟨al, cl, rfl, -, -⟩ := hx.sq.sq.open_
    obtain ⟨ll, hll⟩ : ∃ x, x = (chain BB k).length := ⟨_, rfl⟩
    rw [← hll] at hx hvo
    have HVO := Lib.hid hvo
    clear hvo
    obtain ⟨q, hq⟩ : ∃ q, q = 4096 * k := ⟨_, rfl⟩
    have hnq : q ≤ n3 := by rw [hq]; exact Nat.le_trans (Nat.mul_le_mul_left _ hk) (nb_le n3)
    rw [← hq] at hx
    have hcl := chain_len2 BB k (by rw [HBO.out, ← hq]; exact hnq)
    have HX := Lib.hid hx
    have HQ := Lib.hid hq
    have HLL := Lib.hid hll
    have HCL := Lib.hid (show (chain BB k).length ≤ 600000 from by omega)
    obtain ⟨C0, C1, C2, C3, C4⟩ := hx.cells
    have HC := Lib.hid C1
    clear hx hq hll hcl H3
    have e0 : IntKind.i64.wrap (n3 : Int) = (n3 : Int) := by rw [IntKind.wrap_i64]; omega
    obtain ⟨dd, hdd⟩ : ∃ x, x = n3 - q := ⟨_, rfl⟩
    have e1 : IntKind.i64.wrap ((n3 : Int) - (q : Int)) = (dd : Int) := by rw [IntKind.wrap_i64]; omega
    have HDD := Lib.hid hdd
    by_cases hm : 4096 < n3 - q
    · have d1 : decide ((4096 : Int) < (dd : Int)) = true := decide_eq_true (by omega)
      obtain ⟨q1, hq1⟩ : ∃ x, x = q + 4096 := ⟨_, rfl⟩
      have e2 : IntKind.i64.wrap ((q : Int) + 4096) = (q1 : Int) := by rw [IntKind.wrap_i64]; omega
      have hnb2 := nb_next n3 k (by rw [← HQ.out]; exact hm) hk
      have hblk := block_any _ _ BB (chain BB k) q T0 q1 0 false wr HX.out.nums HX.out.sq (by omega) (by rw [HBO.out]; omega) (by omega) (by decide) HCL.out (by rw [HBO.out]; omega)
      have HBK := Lib.hid hblk
      have HQ1' := Lib.hid hq1
      clear hblk hdd hq1
      go_wp2_with (with_reducible refine load_w6 rfl (.tmp 2) rfl gb rfl _ HX.out.row rfl ?_)
      refine HBK.out.mono ?_
      rintro e w5 ⟨v5, rfl, ⟨hs5, ho5⟩, hb5⟩
      obtain ⟨a5, c5, rfl, -, -⟩ := hs5.sq.open_
      have hcn : chain BB (k + 1) = blkB BB q q1 0 (chain BB k) := by rw [HQ.out, HQ1'.out, HQ.out]; rfl
      rw [← hcn] at hs5 ho5 ⊢
      obtain ⟨l5, hl5⟩ : ∃ x, x = (chain BB (k + 1)).length := ⟨_, rfl⟩
      rw [← hl5] at hs5 ho5 ⊢
      have hx5 := HX.out.ext hb5
      have HX5 := Lib.hid hx5
      have hk6 : Keeps (fun k => k = gb) w5 (w5.setRow gb #[.slice a3 n3 c3, .int .i64 (q1 : Int), .slice a5 l5 c5, .int .i64 (T0 : Int), .bool false]) := (Keeps.refl (fun k => k = gb) w5).setRow gb _ (.inl rfl)
      have hr6 : (w5.setRow gb #[.slice a3 n3 c3, .int .i64 (q1 : Int), .slice a5 l5 c5, .int .i64 (T0 : Int), .bool false]).heap[gb]? = some (.cells #[.slice a3 n3 c3, .int .i64 (q1 : Int), .slice a5 l5 c5, .int .i64 (T0 : Int), .bool false] 62) := setRow_heap _ _ _ _ _ _ hx5.row
      have HX6 := Lib.hid (hx5.set (B' := BB) (L' := chain BB (k + 1)) hk6 hr6 hx5.nums hs5 hx5.na (fun j hj => by
        rcases ho5 j hj with h | h
        · exact HX.out.nl j h
        · have := Base.lt_of_heap HX.out.row; have := Base.lt_of_heap HX.out.rr; omega))
      have HVO5 := Lib.hid (show ∀ j, (Value.slice a5 l5 c5).ownBlock = some j → (Value.slice a2 M c2).ownBlock = some j ∨ w.heap.size ≤ j from fun j hj => by
        rcases ho5 j hj with h | h
        · exact HVO.out j h
        · exact .inr (Nat.le_trans HX.out.below.size h))
      clear hx5 hs5 ho5 hb5 hl5 hcn HBK C0 C1 C2 C3 C4 hk6 hr6
      go_wp2_with (with_reducible refine store_w6 rfl (.tmp 2) (.tmp 32) rfl rfl gb _ _ _ _ _ _ _ _ _ rfl rfl _ HX5.out.row rfl ?_)
      refine ⟨⟨k + 1, .slice a5 l5 c5, hnb2.1, ?_, HVO5.out⟩, ?_⟩
      · rw [show 4096 * (k + 1) = q1 by rw [HQ1'.out, HQ.out]; omega]; exact HX6.out
      · rw [HX6.out.cells.2.1, HC.out]
        simp only [Option.getD_some, intOf]
        have := HQ1'.out; omega
    · have d1 : decide ((4096 : Int) < (dd : Int)) = false := decide_eq_false (by omega)
      have hkn := nb_done n3 k (by rw [← HQ.out]; exact hnq) (by rw [← HQ.out]; exact hm) hk
      have hcb : chain BB k = bitsW BB := by unfold bitsW; rw [hkn, HBO.out]
      have hT0 : T0 ≤ (chain BB k).length / 8 := by
        rw [HT0.out, hcb, HBB.out]
        exact Nat.div_le_div_right (bitsW_ahead B b).len
      have htk := rtake_any _ (chain BB k) T0 wr HX.out.sq hT0 (by have := HCL.out; omega)
      have HTK := Lib.hid htk
      have HCB := Lib.hid hcb
      have HKN := Lib.hid hkn
      clear htk hcb hkn hT0 hdd
      go_wp2_with fail
      refine HTK.out.mono ?_
      rintro e w5 ⟨v5, rfl, ho5, hb5⟩
      rw [← HLL.out]
      have HX5 := Lib.hid (HX.out.ext hb5)
      obtain ⟨tt, htt⟩ : ∃ x, x = ll / 8 := ⟨_, rfl⟩
      rw [← htt]
      obtain ⟨a5, n5, c5, rfl⟩ := ho5.slice_
      have HO5 := Lib.hid ho5
      have hb5' := hb5.size
      have HB5 := Lib.hid hb5
      have HTT := Lib.hid htt
      clear ho5 hb5 htt HTK C0 C1 C2 C3 C4
      go_upto_region 9 with (fail)
      have h6 := HX5.out.ext (ext_alloc w5 (.cells #[.slice al ll cl, .int .i64 (tt : Int)] 60))
      have hg8 := heap_alloc_new w5 (.cells #[.slice al ll cl, .int .i64 (tt : Int)] 60)
      have ho6 := HO5.out.below (ext_alloc w5 (.cells #[.slice al ll cl, .int .i64 (tt : Int)] 60)) (Nat.le_refl _)
      obtain ⟨w6, hw6⟩ : ∃ ww, ww = w5.alloc (.cells #[.slice al ll cl, .int .i64 (tt : Int)] 60) := ⟨_, rfl⟩
      rw [← hw6] at h6 hg8 ho6 ⊢
      obtain ⟨g8, hgg⟩ : ∃ g, g = w5.heap.size := ⟨_, rfl⟩
      rw [← hgg] at hg8 ⊢
      have H6 := Lib.hid h6
      have HO6 := Lib.hid ho6
      have v0 := cell_of_row _ _ 0 _ _ _ hg8
      have v1' := cell_of_row _ _ 1 _ _ _ hg8
      simp only [List.getElem?_toArray, List.getElem?_cons_succ, List.getElem?_cons_zero] at v0 v1'
      have f2 := h6.frozen 2
      have f3 := h6.frozen 3
      have y2 := h6.cells.2.2.1
      have y3 := h6.cells.2.2.2.1
      clear hw6 h6 ho6 hg8 hgg HX5 HO5
      go_upto_region 10 with (fail)
      have hk7 := ((Keeps.refl (fun k => k = gb) w6).setCell gb 2 (.slice al ll cl) (.inl rfl)).setCell gb 3 (.int .i64 (tt : Int)) (.inl rfl)
      have hr7 := heap_setCell_same _ gb 3 _ _ (.int .i64 (tt : Int)) (heap_setCell_same w6 gb 2 _ _ (.slice al ll cl) H6.out.row)
      obtain ⟨w7, hw7⟩ : ∃ ww, ww = (w6.setCell ⟨gb, 2, none⟩ (.slice al ll cl)).setCell ⟨gb, 3, none⟩ (.int .i64 (tt : Int)) := ⟨_, rfl⟩
      rw [← hw7] at hk7 hr7 ⊢
      have H7 := Lib.hid (H6.out.set hk7 hr7 H6.out.nums H6.out.sq H6.out.na H6.out.nl)
      have HK7 := Lib.hid hk7
      clear hk7 hr7 hw7 v0 v1' f2 f3 y2 y3
      go_wp2_with (first
        | (with_reducible refine load_w6 rfl (.tmp 2) rfl gb rfl _ H7.out.row rfl ?_)
        | (with_reducible refine store_w6 rfl (.tmp 4) (.tmp 41) rfl rfl gr _ _ _ _ _ _ _ _ _ rfl rfl _ H7.out.rr rfl ?_))
      have hk8 : Keeps (fun k => k = gb ∨ k = gr) w6 (w7.setRow gr #[.slice a3 n3 c3, .int .i64 (q : Int), .slice al ll cl, .int .i64 (tt : Int), .bool false]) := (HK7.out.mono (fun k e => .inl e)).setRow gr _ (.inl (.inr rfl))
      have hk9 : Keeps (fun k => k = gr) w7 (w7.setRow gr #[.slice a3 n3 c3, .int .i64 (q : Int), .slice al ll cl, .int .i64 (tt : Int), .bool false]) := (Keeps.refl (fun k => k = gr) w7).setRow gr _ (.inl rfl)
      refine bodyPost_ret (results_row_tmp2 rfl _ _ _ gr 62 _ _ _ rfl (setRow_heap _ _ _ _ _ _ H7.out.rr) Try.underlying62 (by kernel_rfl)) rfl ?_
      have hbs := H7.out.below.trans (hk9.below _ H7.out.below.size (fun k e => by rw [e]; exact H7.out.lo.2.1))
      have hox := HO6.out.frame hk8 (fun k hk e => by
        have h1 := (HO6.out.lt k hk).1
        have h2 := Base.lt_of_heap HX.out.row
        have h3 := Base.lt_of_heap HX.out.rr
        rcases e with e | e <;> omega)

      have hll8 : ll = (bitsW BB).length := by rw [HLL.out, HCB.out]
      rw [← HBB.out]
      refine ⟨_, _, rfl, ⟨⟨.slice a3 n3 c3, .slice al ll cl, ?_, H7.out.nums.frame hk9 (fun k hk e => (H7.out.na k hk).2.1 e), ?_, fun k hk => ?_⟩, fun k hk => ?_⟩, ?_, hbs⟩
      · rw [← hll8, HBO.out, ← HTT.out, ← HKN.out, ← HQ.out]
      · rw [← HCB.out]
        exact H7.out.sq.frame hk9 (fun k hk e => (H7.out.nl k hk).2 e)
      · exact (H7.out.na k hk).2.2.keep hk9 (H7.out.na k hk).2.1
      · rcases own2_of hk with h | h
        · exact .inr (HNA.out k h)
        · rcases HVO.out k h with h | h
          · exact .inl ⟨_, _, _, _, _, rfl, .inr h⟩
          · exact .inr h
      · have h1 := Own.mono hox HX.out.below.size
        rw [HCB.out] at h1
        exact h1


set_option maxRecDepth 100000 in
set_option maxHeartbeats 4000000 in
theorem end_any (v : Value) (BB : List Nat) (w : World) (hR : Rv w v BB) (hlen : BB.length ≤ 20000) :
    Calls Try.prog 45 #[v] w fun e w' => ∃ v' x, e = .returned (.tuple #[v', x, .int .i64 0]) ∧ (∃ a1 n1 c1 t a2 n2 c2 k, v' = .agg #[.slice a1 n1 c1, .int .i64 t, .slice a2 n2 c2, .int .i64 k, .bool true] ∧ Nums .u8 256 w' (.slice a1 n1 c1) BB ∧ ∀ j, (Value.slice a1 n1 c1).ownBlock = some j → own2 v j) ∧ Own .u8 256 5 w.heap.size w' x (outN (endL BB) ((bitsW BB).length / 8)) ∧ Below w.heap.size w w' := by
  obtain ⟨va, vl, rfl, hn, hs, ha⟩ := hR
  obtain ⟨a3, c3, rfl, -, -, -⟩ := hn.shape
  obtain ⟨a2, c2, rfl, -, -⟩ := hs.sq.open_
  have hbl := bitsW_len BB
  have hW0 := Wx.start w _ BB (4096 * nb BB.length) _ (bitsW BB) ((bitsW BB).length / 8) false hn hs ha
  obtain ⟨T0, hT0⟩ : ∃ t, t = (bitsW BB).length / 8 := ⟨_, rfl⟩
  obtain ⟨q, hq⟩ : ∃ q, q = 4096 * nb BB.length := ⟨_, rfl⟩
  obtain ⟨n3, hn3⟩ : ∃ m, m = BB.length := ⟨_, rfl⟩
  obtain ⟨M, hM⟩ : ∃ m, m = (bitsW BB).length := ⟨_, rfl⟩
  have hq9 : q ≤ BB.length ∧ BB.length - q ≤ 4096 := by rw [hq]; exact ⟨nb_le _, nb_rest _⟩
  have hfin : finL BB = blkB BB q BB.length 1 (bitsW BB) := by unfold finL; rw [hq]
  rw [← hT0, ← hq, ← hn3, ← hM] at hW0
  rw [← hn3] at hq9 hfin
  rw [← hT0, ← hq, ← hn3, ← hM]
  have hnn : n3 ≤ 20000 := by omega
  have HQ9 := Lib.hid hq9
  have HT0 := Lib.hid hT0
  have HBO := Lib.hid (show BB.length = n3 from hn3.symm)
  have HFI := Lib.hid hfin
  have HBL := Lib.hid (show (bitsW BB).length ≤ 200000 by omega)
  clear hn hs hT0 hq hM hbl hn3 ha hq9 hfin hlen
  obtain ⟨W, hW⟩ : ∃ W, W = (w.alloc (.cells #[.slice a3 n3 c3, .int .i64 (q : Int), .slice a2 M c2, .int .i64 (T0 : Int), .bool false] 62)).alloc (.cells #[.slice none 0 0, .int .i64 0, .slice none 0 0, .int .i64 0, .bool false] 62) := ⟨_, rfl⟩
  rw [← hW] at hW0
  go_enter Try.func45, Try.ntmps45
  go_upto_region 1 with (fail)
  rw [← hW]
  obtain ⟨gr, hgr⟩ : ∃ g, g = w.heap.size + 1 := ⟨_, rfl⟩
  obtain ⟨gb, hgb⟩ : ∃ g, g = w.heap.size := ⟨_, rfl⟩
  rw [← hgr, ← hgb] at hW0
  rw [← hgr, ← hgb]
  have H0 := Lib.hid hW0
  obtain ⟨x0, x1, x2, x3, x4⟩ := hW0.cells
  clear hW hgr hgb hW0 x1 x2 x3
  have hblk := block_any _ _ BB (bitsW BB) q T0 n3 1 false W H0.out.nums H0.out.sq HQ9.out.1 (by rw [HBO.out]; exact Nat.le_refl _) HQ9.out.2 (by decide) (by have := HBL.out; omega) (by rw [HBO.out]; omega)
  rw [← HFI.out] at hblk
  have HBK := Lib.hid hblk
  clear hblk
  go_wp2_with (with_reducible refine load_w6 rfl (.tmp 1) rfl gb rfl _ H0.out.row rfl ?_)
  refine HBK.out.mono ?_
  rintro e w1 ⟨v5, rfl, ⟨hs5, ho5⟩, hb5⟩
  obtain ⟨a5, c5, rfl, -, -⟩ := hs5.sq.open_
  obtain ⟨l5, hl5⟩ : ∃ x, x = (finL BB).length := ⟨_, rfl⟩
  rw [← hl5] at hs5 ho5 ⊢
  have hfl := fin_len BB
  have hal := al8_ge (finL BB).length
  have hnb9 := nb_le BB.length
  rw [HBO.out] at hfl hnb9
  have hl9 : (finL BB).length ≤ 200000 := by omega
  have HL9 := Lib.hid hl9
  have HL5 := Lib.hid hl5
  have hx1 := H0.out.ext hb5
  have HX1 := Lib.hid hx1
  have hk6 : Keeps (fun k => k = gb) w1 (w1.setRow gb #[.slice a3 n3 c3, .int .i64 (n3 : Int), .slice a5 l5 c5, .int .i64 (T0 : Int), .bool false]) := (Keeps.refl (fun k => k = gb) w1).setRow gb _ (.inl rfl)
  have hr6 : (w1.setRow gb #[.slice a3 n3 c3, .int .i64 (n3 : Int), .slice a5 l5 c5, .int .i64 (T0 : Int), .bool false]).heap[gb]? = some (.cells #[.slice a3 n3 c3, .int .i64 (n3 : Int), .slice a5 l5 c5, .int .i64 (T0 : Int), .bool false] 62) := setRow_heap _ _ _ _ _ _ hx1.row
  have hx2 := hx1.set (B' := BB) (L' := finL BB) hk6 hr6 hx1.nums hs5 hx1.na (fun j hj => by
    rcases ho5 j hj with h | h
    · exact H0.out.nl j h
    · have := Base.lt_of_heap H0.out.row; have := Base.lt_of_heap H0.out.rr; omega)
  clear hx1 hs5 ho5 hb5 hl5 HBK x0 x4 hk6 hr6 hfl hal hnb9 hl9
  go_upto_region 4 with (with_reducible refine store_w6 rfl (.tmp 1) (.tmp 14) rfl rfl gb _ _ _ _ _ _ _ _ _ rfl rfl _ HX1.out.row rfl ?_)
  obtain ⟨w2, hw2⟩ : ∃ ww, ww = w1.setRow gb #[.slice a3 n3 c3, .int .i64 (n3 : Int), .slice a5 l5 c5, .int .i64 (T0 : Int), .bool false] := ⟨_, rfl⟩
  rw [← hw2] at hx2 ⊢
  have HX2 := Lib.hid hx2
  have y2 := hx2.cells.2.2.1
  have y3 := hx2.cells.2.2.2.1
  clear hw2 hx2 HX1
  go_wp2_with fail
  refine (align_rx _ (finL BB) T0 w2 HX2.out.sq (by have := HL9.out; omega)).mono ?_
  rintro e w3 ⟨v7, rfl, ⟨hs7, ho7⟩, hb7⟩
  rw [show finL BB ++ List.replicate (up8 (finL BB).length - (finL BB).length) false = endL BB from rfl] at hs7
  obtain ⟨al, cl, rfl, -, -⟩ := hs7.sq.open_
  obtain ⟨ll, hll⟩ : ∃ x, x = (endL BB).length := ⟨_, rfl⟩
  rw [← hll] at hs7 ho7 ⊢
  have hel : (endL BB).length ≤ 200007 := by
    have := HL9.out
    have := al8_ge (finL BB).length
    show (alig (finL BB)).length ≤ _
    unfold alig
    rw [List.length_append, List.length_replicate]; omega
  have HEL := Lib.hid hel
  have HLL := Lib.hid hll
  have hx3 := HX2.out.ext hb7
  have HX3 := Lib.hid hx3
  have HS7 := Lib.hid hs7
  have HO7 := Lib.hid (show ∀ j, (Value.slice al ll cl).ownBlock = some j → ¬ j = gb ∧ ¬ j = gr from fun j hj => by
    rcases ho7 j hj with h | h
    · exact HX2.out.nl j h
    · have := Base.lt_of_heap HX2.out.row; have := Base.lt_of_heap HX2.out.rr; omega)
  have f2 := hx3.frozen 2
  have f3 := hx3.frozen 3
  have f4 := hx3.frozen 4
  have z2 := hx3.cells.2.2.1
  have z3 := hx3.cells.2.2.2.1
  have z4 := hx3.cells.2.2.2.2
  clear hx3 hs7 ho7 hb7 hel hll y2 y3
  go_upto_region 6 with (fail)
  have hk8 := (((Keeps.refl (fun k => k = gb) w3).setCell gb 2 (.slice al ll cl) (.inl rfl)).setCell gb 3 (.int .i64 (T0 : Int)) (.inl rfl)).setCell gb 4 (.bool true) (.inl rfl)
  have hr8 := heap_setCell_same _ gb 4 _ _ (.bool true) (heap_setCell_same _ gb 3 _ _ (.int .i64 (T0 : Int)) (heap_setCell_same w3 gb 2 _ _ (.slice al ll cl) HX3.out.row))
  obtain ⟨wr, hwr⟩ : ∃ ww, ww = ((w3.setCell ⟨gb, 2, none⟩ (.slice al ll cl)).setCell ⟨gb, 3, none⟩ (.int .i64 (T0 : Int))).setCell ⟨gb, 4, none⟩ (.bool true) := ⟨_, rfl⟩
  rw [← hwr] at hk8 hr8 ⊢
  have HX := Lib.hid (HX3.out.set (L' := endL BB) hk8 hr8 HX3.out.nums HS7.out HX3.out.na HO7.out)
  clear hk8 hr8 hwr f2 f3 f4 z2 z3 z4 HX3 HS7 HO7
  have hTT : T0 ≤ (endL BB).length / 8 := by
    rw [HT0.out]
    exact Nat.div_le_div_right (endL_ahead BB).len
  have HTK := Lib.hid (rtake_any _ (endL BB) T0 wr HX.out.sq hTT (by have := HEL.out; omega))
  have C2 := HX.out.cells.2.2.1
  have C3 := HX.out.cells.2.2.2.1
  go_wp2_with fail
  refine HTK.out.mono ?_
  rintro e w5 ⟨v5, rfl, ho5, hb5⟩
  rw [← HLL.out]
  have HX5 := Lib.hid (HX.out.ext hb5)
  obtain ⟨tt, htt⟩ : ∃ x, x = ll / 8 := ⟨_, rfl⟩
  rw [← htt]
  obtain ⟨a5', n5, c5', rfl⟩ := ho5.slice_
  have HO5 := Lib.hid ho5
  have HTT := Lib.hid htt
  clear ho5 hb5 htt HTK C2 C3 hTT
  go_upto_region 7 with (fail)
  have h6 := HX5.out.ext (ext_alloc w5 (.cells #[.slice al ll cl, .int .i64 (tt : Int)] 60))
  have hg8 := heap_alloc_new w5 (.cells #[.slice al ll cl, .int .i64 (tt : Int)] 60)
  have ho6 := HO5.out.below (ext_alloc w5 (.cells #[.slice al ll cl, .int .i64 (tt : Int)] 60)) (Nat.le_refl _)
  obtain ⟨w6, hw6⟩ : ∃ ww, ww = w5.alloc (.cells #[.slice al ll cl, .int .i64 (tt : Int)] 60) := ⟨_, rfl⟩
  rw [← hw6] at h6 hg8 ho6 ⊢
  obtain ⟨g8, hgg⟩ : ∃ g, g = w5.heap.size := ⟨_, rfl⟩
  rw [← hgg] at hg8 ⊢
  have H6 := Lib.hid h6
  have HO6 := Lib.hid ho6
  have v0 := cell_of_row _ _ 0 _ _ _ hg8
  have v1' := cell_of_row _ _ 1 _ _ _ hg8
  simp only [List.getElem?_toArray, List.getElem?_cons_succ, List.getElem?_cons_zero] at v0 v1'
  have f2 := h6.frozen 2
  have f3 := h6.frozen 3
  have y2 := h6.cells.2.2.1
  have y3 := h6.cells.2.2.2.1
  clear hw6 h6 ho6 hg8 hgg HX5 HO5
  go_upto_region 8 with (fail)
  have hk7 := ((Keeps.refl (fun k => k = gb) w6).setCell gb 2 (.slice al ll cl) (.inl rfl)).setCell gb 3 (.int .i64 (tt : Int)) (.inl rfl)
  have hr7 := heap_setCell_same _ gb 3 _ _ (.int .i64 (tt : Int)) (heap_setCell_same w6 gb 2 _ _ (.slice al ll cl) H6.out.row)
  obtain ⟨w7, hw7⟩ : ∃ ww, ww = (w6.setCell ⟨gb, 2, none⟩ (.slice al ll cl)).setCell ⟨gb, 3, none⟩ (.int .i64 (tt : Int)) := ⟨_, rfl⟩
  rw [← hw7] at hk7 hr7 ⊢
  have H7 := Lib.hid (H6.out.set hk7 hr7 H6.out.nums H6.out.sq H6.out.na H6.out.nl)
  have HK7 := Lib.hid hk7
  clear hk7 hr7 hw7 v0 v1' f2 f3 y2 y3
  go_wp2_with (first
    | (with_reducible refine load_w6 rfl (.tmp 1) rfl gb rfl _ H7.out.row rfl ?_)
    | (with_reducible refine store_w6 rfl (.tmp 2) (.tmp 28) rfl rfl gr _ _ _ _ _ _ _ _ _ rfl rfl _ H7.out.rr rfl ?_))
  have hk8 : Keeps (fun k => k = gb ∨ k = gr) w6 (w7.setRow gr #[.slice a3 n3 c3, .int .i64 (n3 : Int), .slice al ll cl, .int .i64 (tt : Int), .bool true]) := (HK7.out.mono (fun k e => .inl e)).setRow gr _ (.inl (.inr rfl))
  have hk9 : Keeps (fun k => k = gr) w7 (w7.setRow gr #[.slice a3 n3 c3, .int .i64 (n3 : Int), .slice al ll cl, .int .i64 (tt : Int), .bool true]) := (Keeps.refl (fun k => k = gr) w7).setRow gr _ (.inl rfl)
  refine bodyPost_ret (results_row_tmp2 rfl _ _ _ gr 62 _ _ _ rfl (setRow_heap _ _ _ _ _ _ H7.out.rr) Try.underlying62 (by kernel_rfl)) rfl ?_
  have hbs := H7.out.below.trans (hk9.below _ H7.out.below.size (fun k e => by rw [e]; exact H7.out.lo.2.1))
  have hox := HO6.out.frame hk8 (fun k hk e => by
    have h1 := (HO6.out.lt k hk).1
    have h2 := Base.lt_of_heap HX.out.row
    have h3 := Base.lt_of_heap HX.out.rr
    rcases e with e | e <;> omega)
  exact ⟨_, _, rfl, ⟨_, _, _, _, _, _, _, _, rfl, H7.out.nums.frame hk9 (fun k e h => (H7.out.na k e).2.1 h), fun j e => ⟨_, _, _, _, _, rfl, .inl e⟩⟩, Own.mono hox HX.out.below.size, hbs⟩
theorem zero_w (w : World) : Rv w (.agg #[.slice none 0 0, .int .i64 0, .slice none 0 0, .int .i64 0, .bool false]) [] := Rv.nil w
theorem nb_zero : 4096 * nb ([] : List Nat).length = 0 := rfl
end Go.Proofs.Ytighlefajekloaa.DefEh
