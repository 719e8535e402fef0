/- Points read of bytes: mesh.Read's vec, ref12's vec. -/
import Derived.Test.YtdmmjmdnljhooaaMeshJ
set_option linter.unusedVariables false
set_option linter.unusedSimpArgs false
namespace Go.Proofs.Ytdmmjmdnljhooaa.MeshK
open Go.RowKit Go.Sort FixM Base Num Qb Qt VecW VecV VecU LightQ LightC MeshM Rec MeshA MeshB MeshC MeshD MeshE MeshF MeshG MeshH MeshJ

def i64F (n : Nat) : Int := IntKind.i64.wrap (n : Int)
def vecF (B : List Nat) (p : Nat) : V3 := ⟨i64F (numF B p 8), i64F (numF B (p + 8) 8), i64F (numF B (p + 16) 8)⟩

set_option maxRecDepth 100000 in
set_option maxHeartbeats 2000000 in
theorem rvec_any (w : World) (v : Value) (B : List Nat) (p : Nat) (hv : Nums .u8 256 w v B) (hp : p + 24 ≤ B.length) (hB : B.length ≤ 1000000000) :
    Calls Try.prog 40 #[v, .int .i64 (p : Int)] w (VTo (vecV (vecF B p)) w) := by
  obtain ⟨W, hW⟩ : ∃ W, W = w.alloc (box3 ⟨0, 0, 0⟩) := ⟨_, rfl⟩
  have hBW : Below w.heap.size w W := by rw [hW]; exact ext_alloc _ _
  have hN := hv.below hBW (Nat.le_refl _)
  have C1 := Lib.hid (number_any W v B p 8 hN (by decide) (by omega) hB)
  have C2 := Lib.hid (number_any W v B (p + 8) 8 hN (by decide) (by omega) hB)
  have C3 := Lib.hid (number_any W v B (p + 16) 8 hN (by decide) (by omega) hB)
  obtain ⟨X1, hX1⟩ : ∃ X, X = numF B p 8 := ⟨_, rfl⟩
  obtain ⟨X2, hX2⟩ : ∃ X, X = numF B (p + 8) 8 := ⟨_, rfl⟩
  obtain ⟨X3, hX3⟩ : ∃ X, X = numF B (p + 16) 8 := ⟨_, rfl⟩
  rw [← hX1] at C1
  rw [← hX2] at C2
  rw [← hX3] at C3
  obtain ⟨x, hx⟩ : ∃ x, x = i64F X1 := ⟨_, rfl⟩
  obtain ⟨y, hy⟩ : ∃ x, x = i64F X2 := ⟨_, rfl⟩
  obtain ⟨z, hz⟩ : ∃ x, x = i64F X3 := ⟨_, rfl⟩
  have e1 : IntKind.i64.wrap (X1 : Int) = x := hx.symm
  have e2 : IntKind.i64.wrap (X2 : Int) = y := hy.symm
  have e3 : IntKind.i64.wrap (X3 : Int) = z := hz.symm
  have HE := Lib.hid (show vecF B p = ⟨x, y, z⟩ by rw [hx, hy, hz, hX1, hX2, hX3]; rfl)
  have f1 : IntKind.i64.wrap ((p : Int) + 8) = ((p + 8 : Nat) : Int) := by rw [wrap_in (by omega) (by omega)]; omega
  have f2 : IntKind.i64.wrap ((p : Int) + 16) = ((p + 16 : Nat) : Int) := by rw [wrap_in (by omega) (by omega)]; omega
  obtain ⟨p1, hp1⟩ : ∃ q, q = p + 8 := ⟨_, rfl⟩
  obtain ⟨p2, hp2⟩ : ∃ q, q = p + 16 := ⟨_, rfl⟩
  rw [← hp1] at C2 f1
  rw [← hp2] at C3 f2
  have HR := Lib.hid (show W.heap[w.heap.size]? = some (box3 ⟨0, 0, 0⟩) by rw [hW]; exact heap_alloc_new _ _)
  have HB := Lib.hid hBW
  have HWW := Lib.hid hW
  clear hX1 hX2 hX3 hx hy hz hp1 hp2 hW hBW hN hv hp hB
  go_enter Try.func40, Try.ntmps40
  go_wp2_with fail
  rw [← HWW.out]
  refine C1.out.mono ?_
  rintro e w' ⟨rfl, rfl⟩
  go_wp2_with fail
  refine C2.out.mono ?_
  rintro e w' ⟨rfl, rfl⟩
  go_wp2_with fail
  refine C3.out.mono ?_
  rintro e w' ⟨rfl, rfl⟩
  go_wp2_with (with_reducible refine store_vec rfl (.tmp 4) (.tmp 19) rfl rfl w.heap.size x y z rfl rfl _ _ _ HR.out ?_)
  have H3 := Lib.hid (setRow_heap W w.heap.size _ #[.int .i64 x, .int .i64 y, .int .i64 z] _ _ HR.out)
  have HB3 := Lib.hid (below_setRow HB.out (Nat.le_refl _) #[.int .i64 x, .int .i64 y, .int .i64 z])
  generalize W.setRow w.heap.size _ = w3 at *
  refine bodyPost_ret (results_cell_row rfl _ _ w.heap.size 23 _ _ _ rfl H3.out Try.underlying23 rfl vec_size) rfl ?_
  exact ⟨by rw [HE.out], HB3.out⟩

/-- the state of mesh.Read's closures: the bytes' cell in gb, the place's in ga, take's in g5; the blocks X stand as in wx -/
structure Rd (w0 wx : World) (X : Nat → Prop) (gb ga g5 : Nat) (v : Value) (B : List Nat) (p : Nat) (w : World) : Prop where
  rb : w.heap[gb]? = some (.cells #[v] 33)
  ra : w.heap[ga]? = some (.cells #[.int .i64 (p : Int)] 3)
  r5 : w.heap[g5]? = some (.cells #[.func (.func 36) #[] #[.pointer (some ⟨gb, 0, none⟩), .pointer (some ⟨ga, 0, none⟩)]] 67)
  ne : ga ≠ gb ∧ ga ≠ g5
  nums : Nums .u8 256 w v B
  vb : v.ownBlock ≠ some ga
  below : Below w0.heap.size w0 w
  low : w0.heap.size ≤ ga
  dom : ∀ b, X b → b < w.heap.size ∧ b ≠ ga
  kept : ∀ b, X b → w.heap[b]? = wx.heap[b]?
theorem Rd.step {w0 wx : World} {X : Nat → Prop} {gb ga g5 : Nat} {v : Value} {B : List Nat} {p : Nat} {w w' : World} (h : Rd w0 wx X gb ga g5 v B p w) (hb : Below w.heap.size w w') : Rd w0 wx X gb ga g5 v B p w' :=
  ⟨vec_step h.rb hb, vec_step h.ra hb, vec_step h.r5 hb, h.ne, h.nums.below hb (Nat.le_refl _), h.vb, h.below.trans (hb.mono h.below.size), h.low, fun b hx => ⟨Nat.lt_of_lt_of_le (h.dom b hx).1 hb.size, (h.dom b hx).2⟩, fun b hx => (hb.block b (h.dom b hx).1).trans (h.kept b hx)⟩
theorem Rd.next {w0 wx : World} {X : Nat → Prop} {gb ga g5 : Nat} {v : Value} {B : List Nat} {p q : Nat} {w : World} (h : Rd w0 wx X gb ga g5 v B p w) : Rd w0 wx X gb ga g5 v B q (w.setCell ⟨ga, 0, none⟩ (.int .i64 (q : Int))) := by
  have hK := (Keeps.refl (fun k => k = ga) w).setCell ga 0 (.int .i64 (q : Int)) (.inl rfl)
  have ho : ∀ k, k ≠ ga → (w.setCell ⟨ga, 0, none⟩ (.int .i64 (q : Int))).heap[k]? = w.heap[k]? := fun k hk => heap_setCell_other _ _ _ _ (fun e => hk e)
  refine ⟨(ho _ (Ne.symm h.ne.1)).trans h.rb, by rw [heap_setCell_same _ _ _ _ _ _ h.ra]; rfl, (ho _ (Ne.symm h.ne.2)).trans h.r5, h.ne, h.nums.frame hK (fun b hb e => h.vb (by rw [hb, e])), h.vb, setCell_below h.below h.low _, h.low, fun b hx => ⟨Nat.lt_of_lt_of_le (h.dom b hx).1 hK.size, (h.dom b hx).2⟩, fun b hx => (ho b (h.dom b hx).2).trans (h.kept b hx)⟩
/-- take, in this state -/
theorem Rd.take {w0 wx : World} {X : Nat → Prop} {gb ga g5 : Nat} {v : Value} {B : List Nat} {p : Nat} {w : World} (h : Rd w0 wx X gb ga g5 v B p w) (k : Nat) (hk0 : 1 ≤ k) (hk : k ≤ 8) (hp : p + k ≤ B.length) (hB : B.length ≤ 1000000000) :
    Calls Try.prog 36 #[.int .i64 (k : Int), .pointer (some ⟨gb, 0, none⟩), .pointer (some ⟨ga, 0, none⟩)] w (fun e w' => e = .returned (.int .u64 ((numF B p k : Nat) : Int)) ∧ Rd w0 wx X gb ga g5 v B (p + k) w') :=
  (take_any w gb ga v B p k h.nums h.rb h.ra hk0 hk hp hB).mono fun e w' hh => ⟨hh.1, by rw [hh.2]; exact h.next⟩

set_option maxRecDepth 100000 in
set_option maxHeartbeats 4000000 in
theorem mvec_any (w0 wx w : World) (X : Nat → Prop) (gb ga g5 : Nat) (v : Value) (B : List Nat) (p : Nat) (h : Rd w0 wx X gb ga g5 v B p w) (hp : p + 24 ≤ B.length) (hB : B.length ≤ 1000000000) :
    Calls Try.prog 37 #[.pointer (some ⟨g5, 0, none⟩)] w (fun e w' => e = .returned (vecV (vecF B p)) ∧ Rd w0 wx X gb ga g5 v B (p + 24) w') := by
  have EN := enters Try.func36 (by kernel_rfl) rfl
  have HB := Lib.hid hB
  have HP := Lib.hid hp
  obtain ⟨W, hW⟩ : ∃ W, W = w.alloc (box3 ⟨0, 0, 0⟩) := ⟨_, rfl⟩
  have hBW : Below w.heap.size w W := by rw [hW]; exact ext_alloc _ _
  have hg : W.heap[w.heap.size]? = some (box3 ⟨0, 0, 0⟩) := by rw [hW]; exact heap_alloc_new _ _
  have hlt := lt_of_heap hg
  have h' := h.step hBW
  have hga := lt_of_heap h.ra
  have h2 : Rd w0 W (fun b => X b ∨ b = w.heap.size) gb ga g5 v B p W := ⟨h'.rb, h'.ra, h'.r5, h'.ne, h'.nums, h'.vb, h'.below, h'.low, fun b hb => by
    rcases hb with hb | rfl
    · exact h'.dom b hb
    · exact ⟨hlt, by omega⟩, fun _ _ => rfl⟩
  have HR0 := Lib.hid h2
  have BK := Lib.hid (fun (w' : World) (q : Nat) (h3 : Rd w0 W (fun b => X b ∨ b = w.heap.size) gb ga g5 v B q w') (cs : Array Value) => (show Rd w0 wx X gb ga g5 v B q (w'.setRow w.heap.size cs) from by
    have hk : ∀ k, k < w.heap.size → (w'.setRow w.heap.size cs).heap[k]? = w'.heap[k]? := fun k hk => setRow_other _ _ _ _ (by omega)
    have hl1 := lt_of_heap h.rb
    have hl5 := lt_of_heap h.r5
    have hsz : (w'.setRow w.heap.size cs).heap.size = w'.heap.size := by simp [World.setRow]
    refine ⟨(hk _ hl1).trans h3.rb, (hk _ hga).trans h3.ra, (hk _ hl5).trans h3.r5, h3.ne, ?_, h3.vb, below_setRow h3.below h.below.size _, h3.low, fun b hb => ⟨by rw [hsz]; exact (h3.dom b (.inl hb)).1, (h3.dom b (.inl hb)).2⟩, fun b hb => ?_⟩
    · refine ⟨h3.nums.shape, h3.nums.bound, fun hne => ?_⟩
      obtain ⟨b, off, cap, e, hlb, hc⟩ := h3.nums.cells hne
      obtain ⟨b2, off2, cap2, e2, hlb2, _⟩ := h.nums.cells hne
      have eb : b = b2 := by rw [e] at e2; simp only [Value.slice.injEq, Option.some.injEq, Addr.mk.injEq] at e2; exact e2.1.1
      refine ⟨b, off, cap, e, by rw [hsz]; exact hlb, fun i hi => ?_⟩
      rw [← hc i hi]
      exact World.cell?_of_block (a := ⟨b, off + i, none⟩) (hk b (by omega))
    · rw [hk b ((h.dom b hb).1), h3.kept b (.inl hb)]
      exact h'.kept b hb))
  have HRW := Lib.hid (fun (w' : World) (q : Nat) (h3 : Rd w0 W (fun b => X b ∨ b = w.heap.size) gb ga g5 v B q w') => (h3.kept _ (.inr rfl)).trans hg)
  obtain ⟨D, hD⟩ : ∃ D : Nat → World → Prop, D = fun q w' => Rd w0 W (fun b => X b ∨ b = w.heap.size) gb ga g5 v B q w' := ⟨_, rfl⟩
  obtain ⟨X1, hX1⟩ : ∃ X, X = numF B p 8 := ⟨_, rfl⟩
  obtain ⟨X2, hX2⟩ : ∃ X, X = numF B (p + 8) 8 := ⟨_, rfl⟩
  obtain ⟨X3, hX3⟩ : ∃ X, X = numF B (p + 16) 8 := ⟨_, rfl⟩
  have HX1 := Lib.hid hX1
  have HX2 := Lib.hid hX2
  have HX3 := Lib.hid hX3
  obtain ⟨x, hx⟩ : ∃ x, x = i64F X1 := ⟨_, rfl⟩
  obtain ⟨y, hy⟩ : ∃ x, x = i64F X2 := ⟨_, rfl⟩
  obtain ⟨z, hz⟩ : ∃ x, x = i64F X3 := ⟨_, rfl⟩
  have e1 : IntKind.i64.wrap (X1 : Int) = x := hx.symm
  have e2 : IntKind.i64.wrap (X2 : Int) = y := hy.symm
  have e3 : IntKind.i64.wrap (X3 : Int) = z := hz.symm
  have HE := Lib.hid (show vecF B p = ⟨x, y, z⟩ by rw [hx, hy, hz, hX1, hX2, hX3]; rfl)
  have HWW := Lib.hid hW
  clear hX1 hX2 hX3 hx hy hz hW hBW hg hlt h' hga h2 h hp hB hD
  go_enter Try.func37, Try.ntmps37
  go_upto_region 1 with (fail)
  rw [← HWW.out]
  clear HWW
  refine Qw.wp_region_writes 6 [0, 2, 4] [1, 3, 5] (fun (q : Nat) w2 => Rd w0 W (fun b => X b ∨ b = w.heap.size) gb ga g5 v B q w2) p (by kernel_rfl) (by kernel_rfl) (HR0.out.step ⟨rfl, rfl, rfl, Nat.le_refl _, fun _ _ => rfl⟩) ?_
  refine Qw.Walk.step (A := ?A1) (o := ?o1) (fun s w w2 h hb => Rd.step h hb) p W HR0.out ?e1 ?w1 5 ?d1 (by simp) ?h1 ?n1
  case e1 => simp only [List.getElem?_toArray, List.getElem?_cons_succ, List.getElem?_cons_zero]; exact rfl
  case w1 => exact rfl
  case d1 => exact rfl
  case h1 =>
    intro s9 w9 h9
    have e0 := cell_all h9.r5 0 (.func (.func 36) #[] #[.pointer (some ⟨gb, 0, none⟩), .pointer (some ⟨ga, 0, none⟩)]) rfl
    go_big_quiet_op
    exact rfl
  refine Qw.Walk.step (A := ?A2) (o := ?o2) (fun s w w2 h hb => Rd.step h hb) p W HR0.out ?e2 ?w2 7 ?d2 (by simp) ?h2 ?n2
  case e2 => simp only [List.getElem?_toArray, List.getElem?_cons_succ, List.getElem?_cons_zero]; exact rfl
  case w2 => exact rfl
  case d2 => exact rfl
  case h2 =>
    intro s9 w9 h9
    have e0 := cell_all h9.r5 0 (.func (.func 36) #[] #[.pointer (some ⟨gb, 0, none⟩), .pointer (some ⟨ga, 0, none⟩)]) rfl
    go_big_quiet_op
    exact rfl
  refine Qw.Walk.step (A := ?A3) (o := ?o3) (fun s w w2 h hb => Rd.step h hb) p W HR0.out ?e3 ?w3 9 ?d3 (by simp) ?h3 ?n3
  case e3 => simp only [List.getElem?_toArray, List.getElem?_cons_succ, List.getElem?_cons_zero]; exact rfl
  case w3 => exact rfl
  case d3 => exact rfl
  case h3 =>
    intro s9 w9 h9
    have e0 := cell_all h9.r5 0 (.func (.func 36) #[] #[.pointer (some ⟨gb, 0, none⟩), .pointer (some ⟨ga, 0, none⟩)]) rfl
    go_big_quiet_op
    exact rfl
  refine Qw.Chain.call (o := ?o4) 36 #[.int .i64 8, .pointer (some ⟨gb, 0, none⟩), .pointer (some ⟨ga, 0, none⟩)] (fun u s => u = .int .u64 ((X1 : Nat) : Int) ∧ s = p + 8) ?e4 ?w4 ?r4 ?c4 ?n4
  case e4 => simp only [List.getElem?_toArray, List.getElem?_cons_succ, List.getElem?_cons_zero]; exact rfl
  case w4 => exact rfl
  case r4 => intro w9; simp [execOp, Act.eval, Act.put, resolve, EN, go_sem]
  case c4 =>
    intro w9 h9
    refine (Rd.take h9 8 (by decide) (by decide) (by have := HP.out; omega) HB.out).mono ?_
    rintro e w8 ⟨rfl, h8⟩
    exact ⟨_, p + 8, rfl, ⟨by rw [HX1.out], rfl⟩, h8⟩
  rintro va4 s9 ⟨rfl, rfl⟩
  refine Qw.Chain.call (o := ?o5) 36 #[.int .i64 8, .pointer (some ⟨gb, 0, none⟩), .pointer (some ⟨ga, 0, none⟩)] (fun u s => u = .int .u64 ((X2 : Nat) : Int) ∧ s = p + 8 + 8) ?e5 ?w5 ?r5 ?c5 ?n5
  case e5 => simp only [List.getElem?_toArray, List.getElem?_cons_succ, List.getElem?_cons_zero]; exact rfl
  case w5 => exact rfl
  case r5 => intro w9; simp [execOp, Act.eval, Act.put, resolve, EN, go_sem]
  case c5 =>
    intro w9 h9
    refine (Rd.take h9 8 (by decide) (by decide) (by have := HP.out; omega) HB.out).mono ?_
    rintro e w8 ⟨rfl, h8⟩
    exact ⟨_, p + 8 + 8, rfl, ⟨by rw [HX2.out], rfl⟩, h8⟩
  rintro va5 s9 ⟨rfl, rfl⟩
  refine Qw.Chain.call (o := ?o6) 36 #[.int .i64 8, .pointer (some ⟨gb, 0, none⟩), .pointer (some ⟨ga, 0, none⟩)] (fun u s => u = .int .u64 ((X3 : Nat) : Int) ∧ s = p + 8 + 8 + 8) ?e6 ?w6 ?r6 ?c6 ?n6
  case e6 => simp only [List.getElem?_toArray, List.getElem?_cons_succ, List.getElem?_cons_zero]; exact rfl
  case w6 => exact rfl
  case r6 => intro w9; simp [execOp, Act.eval, Act.put, resolve, EN, go_sem]
  case c6 =>
    intro w9 h9
    refine (Rd.take h9 8 (by decide) (by decide) (by have := HP.out; omega) HB.out).mono ?_
    rintro e w8 ⟨rfl, h8⟩
    exact ⟨_, p + 8 + 8 + 8, rfl, ⟨by rw [HX3.out], rfl⟩, h8⟩
  rintro va6 s9 ⟨rfl, rfl⟩
  intro w7 h7
  have H7 := Lib.hid h7
  clear h7
  simp only [List.drop_succ_cons, List.drop_zero, Act.put, List.setIfInBounds_toArray, List.set_cons_succ, List.set_cons_zero]
  go_wp2_with (with_reducible refine store_vec rfl (.tmp 1) (.tmp 17) rfl rfl w.heap.size x y z rfl rfl _ _ _ (HRW.out _ _ H7.out) ?_)
  have H3 := Lib.hid (setRow_heap w7 w.heap.size _ #[.int .i64 x, .int .i64 y, .int .i64 z] _ _ (HRW.out _ _ H7.out))
  have HZ := Lib.hid (BK.out _ _ H7.out #[.int .i64 x, .int .i64 y, .int .i64 z])
  generalize w7.setRow w.heap.size _ = w8 at *
  refine bodyPost_ret (results_cell_row rfl _ _ w.heap.size 23 _ _ _ rfl H3.out Try.underlying23 rfl vec_size) rfl ?_
  exact ⟨by rw [HE.out], HZ.out⟩
end Go.Proofs.Ytdmmjmdnljhooaa.MeshK
