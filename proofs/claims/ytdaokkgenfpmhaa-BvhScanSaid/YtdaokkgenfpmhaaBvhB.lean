/- What layer 14's sort compares by. -/
import Derived.Test.YtdaokkgenfpmhaaBvhA
import Derived.BigQuiet
import Derived.Shelf.SlSortCmp.QuietGrown
set_option linter.unusedVariables false
set_option linter.unusedSimpArgs false
namespace Go.Proofs.Ytdaokkgenfpmhaa.BvhB
open Go.RowKit Go.Sort FixM Base Num FixW Qb Qt Qa Qf VecW VecV VecU LightQ LightC MeshM Rec MeshA MeshP HitM BvhM BvhA
def encB (b : Bx) : List Value := [.int .i64 b.lo.x, .int .i64 b.lo.y, .int .i64 b.lo.z, .int .i64 b.hi.x, .int .i64 b.hi.y, .int .i64 b.hi.z]
theorem lenB (b : Bx) : (encB b).length = 6 := rfl
theorem oneB (b : Bx) : ∀ u ∈ encB b, u.oneCell' = true := by intro u hu; simp [encB] at hu; rcases hu with rfl | rfl | rfl | rfl | rfl | rfl <;> rfl
theorem at6 {w : World} {a : Option Addr} {n cap : Nat} {l : List Bx} (h : Recs 6 encB w (.slice a n cap) l) (i : Nat) (hi : i < l.length) :
    ∃ b off, a = some ⟨b, off, none⟩ ∧ b < w.heap.size ∧ w.cell? ⟨b, off + i * 6, none⟩ = some (.int .i64 l[i].lo.x) ∧ w.cell? ⟨b, off + i * 6 + 1, none⟩ = some (.int .i64 l[i].lo.y) ∧ w.cell? ⟨b, off + i * 6 + 2, none⟩ = some (.int .i64 l[i].lo.z) ∧ w.cell? ⟨b, off + i * 6 + 3, none⟩ = some (.int .i64 l[i].hi.x) ∧ w.cell? ⟨b, off + i * 6 + 4, none⟩ = some (.int .i64 l[i].hi.y) ∧ w.cell? ⟨b, off + i * 6 + 5, none⟩ = some (.int .i64 l[i].hi.z) := by
  obtain ⟨a', cap', e, _, hc⟩ := h.open_
  simp only [Value.slice.injEq] at e
  obtain ⟨rfl, _, _⟩ := e
  obtain ⟨b, off, rfl, hb, hx⟩ := hc i hi
  exact ⟨b, off, rfl, hb, hx i hi 0 _ rfl, hx i hi 1 _ rfl, hx i hi 2 _ rfl, hx i hi 3 _ rfl, hx i hi 4 _ rfl, hx i hi 5 _ rfl⟩
def cmpF (x y : Int) : Int := if x < y then -1 else if y < x then 1 else 0

set_option maxRecDepth 100000 in
theorem nan64 (x : Int) (w : World) : Calls Try.prog 67 #[.int .i64 x] w (fun e w' => e = .returned (.bool false) ∧ w = w') := by
  go_enter Try.func67, Try.ntmps67
  go_wp2_with fail
  go_ret
  exact ⟨by simp, rfl⟩
set_option maxRecDepth 100000 in
theorem compare64 (x y : Int) (w : World) : Calls Try.prog 55 #[.int .i64 x, .int .i64 y] w (fun e w' => e = .returned (.int .i64 (cmpF x y)) ∧ w = w') := by
  unfold cmpF
  have N := Lib.hid nan64
  by_cases h1 : x < y
  · have d1 : decide (x < y) = true := decide_eq_true h1
    rw [if_pos h1]
    clear h1
    go_enter Try.func55, Try.ntmps55
    go_wp2_with fail
    refine (N.out _ _).mono ?_
    rintro e _ ⟨rfl, rfl⟩
    go_wp2_with fail
    refine (N.out _ _).mono ?_
    rintro e _ ⟨rfl, rfl⟩
    go_wp2_with fail
    go_ret
    exact ⟨rfl, rfl⟩
  · have d1 : decide (x < y) = false := decide_eq_false h1
    rw [if_neg h1]
    by_cases h2 : y < x
    · have d2 : decide (y < x) = true := decide_eq_true h2
      rw [if_pos h2]
      clear h1 h2
      go_enter Try.func55, Try.ntmps55
      go_wp2_with fail
      refine (N.out _ _).mono ?_
      rintro e _ ⟨rfl, rfl⟩
      go_wp2_with fail
      refine (N.out _ _).mono ?_
      rintro e _ ⟨rfl, rfl⟩
      go_wp2_with fail
      go_ret
      exact ⟨rfl, rfl⟩
    · have d2 : decide (y < x) = false := decide_eq_false h2
      rw [if_neg h2]
      clear h1 h2
      go_enter Try.func55, Try.ntmps55
      go_wp2_with fail
      refine (N.out _ _).mono ?_
      rintro e _ ⟨rfl, rfl⟩
      go_wp2_with fail
      refine (N.out _ _).mono ?_
      rintro e _ ⟨rfl, rfl⟩
      go_wp2_with fail
      go_ret
      exact ⟨rfl, rfl⟩

set_option maxRecDepth 100000 in
theorem nanI (x : Int) (w : World) : Calls Try.prog 68 #[.int .i64 x] w (fun e w' => e = .returned (.bool false) ∧ w = w') := by
  go_enter Try.func68, Try.ntmps68
  go_wp2_with fail
  go_ret
  exact ⟨by simp, rfl⟩
set_option maxRecDepth 100000 in
theorem compareI (x y : Int) (w : World) : Calls Try.prog 56 #[.int .i64 x, .int .i64 y] w (fun e w' => e = .returned (.int .i64 (cmpF x y)) ∧ w = w') := by
  unfold cmpF
  have N := Lib.hid nanI
  by_cases h1 : x < y
  · have d1 : decide (x < y) = true := decide_eq_true h1
    rw [if_pos h1]
    clear h1
    go_enter Try.func56, Try.ntmps56
    go_wp2_with fail
    refine (N.out _ _).mono ?_
    rintro e _ ⟨rfl, rfl⟩
    go_wp2_with fail
    refine (N.out _ _).mono ?_
    rintro e _ ⟨rfl, rfl⟩
    go_wp2_with fail
    go_ret
    exact ⟨rfl, rfl⟩
  · have d1 : decide (x < y) = false := decide_eq_false h1
    rw [if_neg h1]
    by_cases h2 : y < x
    · have d2 : decide (y < x) = true := decide_eq_true h2
      rw [if_pos h2]
      clear h1 h2
      go_enter Try.func56, Try.ntmps56
      go_wp2_with fail
      refine (N.out _ _).mono ?_
      rintro e _ ⟨rfl, rfl⟩
      go_wp2_with fail
      refine (N.out _ _).mono ?_
      rintro e _ ⟨rfl, rfl⟩
      go_wp2_with fail
      go_ret
      exact ⟨rfl, rfl⟩
    · have d2 : decide (y < x) = false := decide_eq_false h2
      rw [if_neg h2]
      clear h1 h2
      go_enter Try.func56, Try.ntmps56
      go_wp2_with fail
      refine (N.out _ _).mono ?_
      rintro e _ ⟨rfl, rfl⟩
      go_wp2_with fail
      refine (N.out _ _).mono ?_
      rintro e _ ⟨rfl, rfl⟩
      go_wp2_with fail
      go_ret
      exact ⟨rfl, rfl⟩

def keyB (ax : Nat) (b : Bx) : Int := match ax with | 0 => addF b.lo.x b.hi.x | 1 => addF b.lo.y b.hi.y | _ => addF b.lo.z b.hi.z

set_option maxRecDepth 100000 in
set_option maxHeartbeats 2000000 in
theorem key0_any (gP gM : Nat) (vb : Value) (bs : List Bx) (w : World) (hP : w.cell? ⟨gP, 0, none⟩ = some (.pointer (some ⟨gM, 0, none⟩))) (hM : w.cell? ⟨gM, 1, none⟩ = some vb) (hb : Recs 6 encB w vb bs) (ok : ∀ b ∈ bs, HitM.Bx.ok b) (i : Nat) (hi : i < bs.length) :
    Calls Try.prog 49 #[.int .i64 (i : Int), .pointer (some ⟨gP, 0, none⟩)] w (fun e w' => e = .returned (.int .i64 (keyB 0 bs[i])) ∧ ∃ q, w' = w.drewN q) := by
  obtain ⟨a, cap, rfl, hl, -⟩ := hb.open_
  have okb := ok bs[i] (List.getElem_mem hi)
  obtain ⟨b, off, rfl, hlt, c0, c1, c2, c3, c4, c5⟩ := at6 hb i hi
  generalize bs[i] = bx at c0 c1 c2 c3 c4 c5 okb ⊢
  obtain ⟨⟨lx, ly, lz⟩, ⟨hx, hy, hz⟩⟩ := bx
  dsimp only [keyB] at *
  have i1 := okb.1.1
  have i2 := okb.2.1
  dsimp only at i1 i2
  have Q := Lib.hid (fun n => (add_any lx hx i1.1 i1.2 i2.1 i2.2 (w.drewN n)).mono (fun _ _ h => (⟨h.1, n, h.2.symm⟩ : _ ∧ ∃ q, _ = w.drewN q)))
  have di : decide (i < bs.length) = true := decide_eq_true hi
  generalize bs.length = N at *
  clear hb ok okb i1 i2
  go_enter Try.func49, Try.ntmps49
  go_upto_region 1 with (fail)
  go_quiet (exact Q.out _)
  go_wp2_with fail
  go_ret
  exact ⟨rfl, _, rfl⟩

set_option maxRecDepth 100000 in
set_option maxHeartbeats 2000000 in
theorem key1_any (gP gM : Nat) (vb : Value) (bs : List Bx) (w : World) (hP : w.cell? ⟨gP, 0, none⟩ = some (.pointer (some ⟨gM, 0, none⟩))) (hM : w.cell? ⟨gM, 1, none⟩ = some vb) (hb : Recs 6 encB w vb bs) (ok : ∀ b ∈ bs, HitM.Bx.ok b) (i : Nat) (hi : i < bs.length) :
    Calls Try.prog 50 #[.int .i64 (i : Int), .pointer (some ⟨gP, 0, none⟩)] w (fun e w' => e = .returned (.int .i64 (keyB 1 bs[i])) ∧ ∃ q, w' = w.drewN q) := by
  obtain ⟨a, cap, rfl, hl, -⟩ := hb.open_
  have okb := ok bs[i] (List.getElem_mem hi)
  obtain ⟨b, off, rfl, hlt, c0, c1, c2, c3, c4, c5⟩ := at6 hb i hi
  generalize bs[i] = bx at c0 c1 c2 c3 c4 c5 okb ⊢
  obtain ⟨⟨lx, ly, lz⟩, ⟨hx, hy, hz⟩⟩ := bx
  dsimp only [keyB] at *
  have i1 := okb.1.2.1
  have i2 := okb.2.2.1
  dsimp only at i1 i2
  have Q := Lib.hid (fun n => (add_any ly hy i1.1 i1.2 i2.1 i2.2 (w.drewN n)).mono (fun _ _ h => (⟨h.1, n, h.2.symm⟩ : _ ∧ ∃ q, _ = w.drewN q)))
  have di : decide (i < bs.length) = true := decide_eq_true hi
  generalize bs.length = N at *
  clear hb ok okb i1 i2
  go_enter Try.func50, Try.ntmps50
  go_upto_region 1 with (fail)
  go_quiet (exact Q.out _)
  go_wp2_with fail
  go_ret
  exact ⟨rfl, _, rfl⟩

set_option maxRecDepth 100000 in
set_option maxHeartbeats 2000000 in
theorem key2_any (gP gM : Nat) (vb : Value) (bs : List Bx) (w : World) (hP : w.cell? ⟨gP, 0, none⟩ = some (.pointer (some ⟨gM, 0, none⟩))) (hM : w.cell? ⟨gM, 1, none⟩ = some vb) (hb : Recs 6 encB w vb bs) (ok : ∀ b ∈ bs, HitM.Bx.ok b) (i : Nat) (hi : i < bs.length) :
    Calls Try.prog 51 #[.int .i64 (i : Int), .pointer (some ⟨gP, 0, none⟩)] w (fun e w' => e = .returned (.int .i64 (keyB 2 bs[i])) ∧ ∃ q, w' = w.drewN q) := by
  obtain ⟨a, cap, rfl, hl, -⟩ := hb.open_
  have okb := ok bs[i] (List.getElem_mem hi)
  obtain ⟨b, off, rfl, hlt, c0, c1, c2, c3, c4, c5⟩ := at6 hb i hi
  generalize bs[i] = bx at c0 c1 c2 c3 c4 c5 okb ⊢
  obtain ⟨⟨lx, ly, lz⟩, ⟨hx, hy, hz⟩⟩ := bx
  dsimp only [keyB] at *
  have i1 := okb.1.2.2
  have i2 := okb.2.2.2
  dsimp only at i1 i2
  have Q := Lib.hid (fun n => (add_any lz hz i1.1 i1.2 i2.1 i2.2 (w.drewN n)).mono (fun _ _ h => (⟨h.1, n, h.2.symm⟩ : _ ∧ ∃ q, _ = w.drewN q)))
  have di : decide (i < bs.length) = true := decide_eq_true hi
  generalize bs.length = N at *
  clear hb ok okb i1 i2
  go_enter Try.func51, Try.ntmps51
  go_upto_region 1 with (fail)
  go_quiet (exact Q.out _)
  go_wp2_with fail
  go_ret
  exact ⟨rfl, _, rfl⟩

/-- the variables that the comparison reads -/
structure KeyAt (W : World) (F : FuncId) (gK gP gM : Nat) (vb : Value) (bs : List Bx) : Prop where
  k : W.cell? ⟨gK, 0, none⟩ = some (.func (.func F) #[] #[.pointer (some ⟨gP, 0, none⟩)])
  p : W.cell? ⟨gP, 0, none⟩ = some (.pointer (some ⟨gM, 0, none⟩))
  m : W.cell? ⟨gM, 1, none⟩ = some vb
  b : Recs 6 encB W vb bs
  lk : gK < W.heap.size
  lp : gP < W.heap.size
  lm : gM < W.heap.size
theorem below_drawn (W : World) (n : Nat) (os : Array Obj) : Below W.heap.size W (grow (W.drewN n) os) := below_regrown W (W.drawn + n) os
theorem KeyAt.below {W W' : World} {F : FuncId} {gK gP gM : Nat} {vb : Value} {bs : List Bx} (h : KeyAt W F gK gP gM vb bs) (hb : Below W.heap.size W W') : KeyAt W' F gK gP gM vb bs :=
  ⟨(hb.cell h.lk).trans h.k, (hb.cell h.lp).trans h.p, (hb.cell h.lm).trans h.m, h.b.below hb (Nat.le_refl _), Nat.lt_of_lt_of_le h.lk hb.size, Nat.lt_of_lt_of_le h.lp hb.size, Nat.lt_of_lt_of_le h.lm hb.size⟩
def cfB (ax : Nat) (bs : List Bx) (i j : Nat) : Int := orF (cmpF (keyB ax (bs.getD i zeroB)) (keyB ax (bs.getD j zeroB))) (cmpF (i : Int) (j : Int))
theorem grown_same {P : Program} {f : FuncId} {args : Array Value} {W : World} {v : Value} (n : Nat) (os : Array Obj) (h : Calls P f args (grow (W.drewN n) os) (fun e w' => e = .returned v ∧ grow (W.drewN n) os = w')) : Calls P f args (grow (W.drewN n) os) (fun e w'' => e = .returned v ∧ ∃ p : GrownBy, w'' = grow (W.drewN p.n) p.os) :=
  h.mono fun _ _ h => ⟨h.1, ⟨n, os⟩, h.2.symm⟩
theorem grown_drew {P : Program} {f : FuncId} {args : Array Value} {W : World} {v : Value} (n : Nat) (os : Array Obj) (h : Calls P f args (grow (W.drewN n) os) (fun e w' => e = .returned v ∧ ∃ q, w' = (grow (W.drewN n) os).drewN q)) : Calls P f args (grow (W.drewN n) os) (fun e w'' => e = .returned v ∧ ∃ p : GrownBy, w'' = grow (W.drewN p.n) p.os) :=
  Calls.grown_of (h.mono fun _ _ h => ⟨h.1, by obtain ⟨q, hq⟩ := h.2; exact ⟨q, #[], by rw [hq, grow_empty]⟩⟩)

set_option maxRecDepth 100000 in
set_option maxHeartbeats 4000000 in
theorem cmp0_any (gK gP gM : Nat) (vb : Value) (bs : List Bx) (W : World) (h : KeyAt W 49 gK gP gM vb bs) (ok : ∀ b ∈ bs, HitM.Bx.ok b) (i j : Nat) (hi : i < bs.length) (hj : j < bs.length) :
    Calls Try.prog 53 #[.int .i64 (i : Int), .int .i64 (j : Int), .pointer (some ⟨gK, 0, none⟩)] W (fun e w' => e = .returned (.int .i64 (cfB 0 bs i j)) ∧ ∃ q os, w' = grow (W.drewN q) os) := by
  have e1 : bs.getD i zeroB = bs[i] := by simp [hi]
  have e2 : bs.getD j zeroB = bs[j] := by simp [hj]
  unfold cfB
  rw [e1, e2]
  have K1 := Lib.hid (fun n os => grown_drew (W := W) n os (key0_any gP gM vb bs _ (h.below (below_drawn W n os)).p (h.below (below_drawn W n os)).m (h.below (below_drawn W n os)).b ok i hi))
  have K2 := Lib.hid (fun n os => grown_drew (W := W) n os (key0_any gP gM vb bs _ (h.below (below_drawn W n os)).p (h.below (below_drawn W n os)).m (h.below (below_drawn W n os)).b ok j hj))
  generalize keyB 0 bs[i] = x at K1 ⊢
  generalize keyB 0 bs[j] = y at K2 ⊢
  have C1 := Lib.hid (fun n os => grown_same (W := W) n os (compare64 x y _))
  have C2 := Lib.hid (fun n os => grown_same (W := W) n os (compareI (i : Int) (j : Int) _))
  generalize cmpF x y = c1 at C1 ⊢
  generalize cmpF (i : Int) (j : Int) = c2 at C2 ⊢
  have f0 := fun n os => (h.below (below_drawn W n os)).k
  have E := enters Try.func49 (by kernel_rfl) rfl
  clear e1 e2 h ok hi hj
  go_enter Try.func53, Try.ntmps53
  go_upto_region 1 with (fail)
  refine wp_region_quiet_tail (C := fun w' => ∃ p : GrownBy, w' = grow (W.drewN p.n) p.os) 10 (by kernel_rfl) (by kernel_rfl) ⟨⟨1, #[]⟩, by rw [grow_empty]; rfl⟩ ?_
  simp only [List.take_succ_cons, List.take_zero, List.drop_succ_cons, List.drop_zero]
  repeat (go_big_quiet_step (first | (with_reducible exact K1.out _ _) | (with_reducible exact K2.out _ _) | (with_reducible exact C1.out _ _) | (with_reducible exact C2.out _ _)))
  refine wpQuiet_nil ?_
  rintro _ ⟨⟨nq, osq⟩, rfl⟩
  clear f0 K1 K2 C1 C2
  obtain ⟨W1, hW1⟩ : ∃ ww, ww = grow (W.drewN nq) osq := ⟨_, rfl⟩
  rw [← hW1]
  have HW := Lib.hid hW1
  have hn := heap_alloc_new W1 (.cells #[.int .i64 c1, .int .i64 c2] 3)
  have OC := Lib.hid (or_any W1.heap.size c1 c2 (W1.alloc (.cells #[.int .i64 c1, .int .i64 c2] 3)) (cell_row hn 0 _ rfl) (cell_row hn 1 _ rfl))
  clear hW1 hn
  go_wp2_with fail
  refine (OC.out).mono ?_
  rintro e _ ⟨rfl, rfl⟩
  go_wp2_with fail
  go_ret
  exact ⟨rfl, nq, osq ++ #[.cells #[.int .i64 c1, .int .i64 c2] 3], by rw [alloc_eq_grow, HW.out, grow_grow]⟩

set_option maxRecDepth 100000 in
set_option maxHeartbeats 4000000 in
theorem cmp1_any (gK gP gM : Nat) (vb : Value) (bs : List Bx) (W : World) (h : KeyAt W 50 gK gP gM vb bs) (ok : ∀ b ∈ bs, HitM.Bx.ok b) (i j : Nat) (hi : i < bs.length) (hj : j < bs.length) :
    Calls Try.prog 53 #[.int .i64 (i : Int), .int .i64 (j : Int), .pointer (some ⟨gK, 0, none⟩)] W (fun e w' => e = .returned (.int .i64 (cfB 1 bs i j)) ∧ ∃ q os, w' = grow (W.drewN q) os) := by
  have e1 : bs.getD i zeroB = bs[i] := by simp [hi]
  have e2 : bs.getD j zeroB = bs[j] := by simp [hj]
  unfold cfB
  rw [e1, e2]
  have K1 := Lib.hid (fun n os => grown_drew (W := W) n os (key1_any gP gM vb bs _ (h.below (below_drawn W n os)).p (h.below (below_drawn W n os)).m (h.below (below_drawn W n os)).b ok i hi))
  have K2 := Lib.hid (fun n os => grown_drew (W := W) n os (key1_any gP gM vb bs _ (h.below (below_drawn W n os)).p (h.below (below_drawn W n os)).m (h.below (below_drawn W n os)).b ok j hj))
  generalize keyB 1 bs[i] = x at K1 ⊢
  generalize keyB 1 bs[j] = y at K2 ⊢
  have C1 := Lib.hid (fun n os => grown_same (W := W) n os (compare64 x y _))
  have C2 := Lib.hid (fun n os => grown_same (W := W) n os (compareI (i : Int) (j : Int) _))
  generalize cmpF x y = c1 at C1 ⊢
  generalize cmpF (i : Int) (j : Int) = c2 at C2 ⊢
  have f0 := fun n os => (h.below (below_drawn W n os)).k
  have E := enters Try.func50 (by kernel_rfl) rfl
  clear e1 e2 h ok hi hj
  go_enter Try.func53, Try.ntmps53
  go_upto_region 1 with (fail)
  refine wp_region_quiet_tail (C := fun w' => ∃ p : GrownBy, w' = grow (W.drewN p.n) p.os) 10 (by kernel_rfl) (by kernel_rfl) ⟨⟨1, #[]⟩, by rw [grow_empty]; rfl⟩ ?_
  simp only [List.take_succ_cons, List.take_zero, List.drop_succ_cons, List.drop_zero]
  repeat (go_big_quiet_step (first | (with_reducible exact K1.out _ _) | (with_reducible exact K2.out _ _) | (with_reducible exact C1.out _ _) | (with_reducible exact C2.out _ _)))
  refine wpQuiet_nil ?_
  rintro _ ⟨⟨nq, osq⟩, rfl⟩
  clear f0 K1 K2 C1 C2
  obtain ⟨W1, hW1⟩ : ∃ ww, ww = grow (W.drewN nq) osq := ⟨_, rfl⟩
  rw [← hW1]
  have HW := Lib.hid hW1
  have hn := heap_alloc_new W1 (.cells #[.int .i64 c1, .int .i64 c2] 3)
  have OC := Lib.hid (or_any W1.heap.size c1 c2 (W1.alloc (.cells #[.int .i64 c1, .int .i64 c2] 3)) (cell_row hn 0 _ rfl) (cell_row hn 1 _ rfl))
  clear hW1 hn
  go_wp2_with fail
  refine (OC.out).mono ?_
  rintro e _ ⟨rfl, rfl⟩
  go_wp2_with fail
  go_ret
  exact ⟨rfl, nq, osq ++ #[.cells #[.int .i64 c1, .int .i64 c2] 3], by rw [alloc_eq_grow, HW.out, grow_grow]⟩

set_option maxRecDepth 100000 in
set_option maxHeartbeats 4000000 in
theorem cmp2_any (gK gP gM : Nat) (vb : Value) (bs : List Bx) (W : World) (h : KeyAt W 51 gK gP gM vb bs) (ok : ∀ b ∈ bs, HitM.Bx.ok b) (i j : Nat) (hi : i < bs.length) (hj : j < bs.length) :
    Calls Try.prog 53 #[.int .i64 (i : Int), .int .i64 (j : Int), .pointer (some ⟨gK, 0, none⟩)] W (fun e w' => e = .returned (.int .i64 (cfB 2 bs i j)) ∧ ∃ q os, w' = grow (W.drewN q) os) := by
  have e1 : bs.getD i zeroB = bs[i] := by simp [hi]
  have e2 : bs.getD j zeroB = bs[j] := by simp [hj]
  unfold cfB
  rw [e1, e2]
  have K1 := Lib.hid (fun n os => grown_drew (W := W) n os (key2_any gP gM vb bs _ (h.below (below_drawn W n os)).p (h.below (below_drawn W n os)).m (h.below (below_drawn W n os)).b ok i hi))
  have K2 := Lib.hid (fun n os => grown_drew (W := W) n os (key2_any gP gM vb bs _ (h.below (below_drawn W n os)).p (h.below (below_drawn W n os)).m (h.below (below_drawn W n os)).b ok j hj))
  generalize keyB 2 bs[i] = x at K1 ⊢
  generalize keyB 2 bs[j] = y at K2 ⊢
  have C1 := Lib.hid (fun n os => grown_same (W := W) n os (compare64 x y _))
  have C2 := Lib.hid (fun n os => grown_same (W := W) n os (compareI (i : Int) (j : Int) _))
  generalize cmpF x y = c1 at C1 ⊢
  generalize cmpF (i : Int) (j : Int) = c2 at C2 ⊢
  have f0 := fun n os => (h.below (below_drawn W n os)).k
  have E := enters Try.func51 (by kernel_rfl) rfl
  clear e1 e2 h ok hi hj
  go_enter Try.func53, Try.ntmps53
  go_upto_region 1 with (fail)
  refine wp_region_quiet_tail (C := fun w' => ∃ p : GrownBy, w' = grow (W.drewN p.n) p.os) 10 (by kernel_rfl) (by kernel_rfl) ⟨⟨1, #[]⟩, by rw [grow_empty]; rfl⟩ ?_
  simp only [List.take_succ_cons, List.take_zero, List.drop_succ_cons, List.drop_zero]
  repeat (go_big_quiet_step (first | (with_reducible exact K1.out _ _) | (with_reducible exact K2.out _ _) | (with_reducible exact C1.out _ _) | (with_reducible exact C2.out _ _)))
  refine wpQuiet_nil ?_
  rintro _ ⟨⟨nq, osq⟩, rfl⟩
  clear f0 K1 K2 C1 C2
  obtain ⟨W1, hW1⟩ : ∃ ww, ww = grow (W.drewN nq) osq := ⟨_, rfl⟩
  rw [← hW1]
  have HW := Lib.hid hW1
  have hn := heap_alloc_new W1 (.cells #[.int .i64 c1, .int .i64 c2] 3)
  have OC := Lib.hid (or_any W1.heap.size c1 c2 (W1.alloc (.cells #[.int .i64 c1, .int .i64 c2] 3)) (cell_row hn 0 _ rfl) (cell_row hn 1 _ rfl))
  clear hW1 hn
  go_wp2_with fail
  refine (OC.out).mono ?_
  rintro e _ ⟨rfl, rfl⟩
  go_wp2_with fail
  go_ret
  exact ⟨rfl, nq, osq ++ #[.cells #[.int .i64 c1, .int .i64 c2] 3], by rw [alloc_eq_grow, HW.out, grow_grow]⟩

end Go.Proofs.Ytdaokkgenfpmhaa.BvhB
