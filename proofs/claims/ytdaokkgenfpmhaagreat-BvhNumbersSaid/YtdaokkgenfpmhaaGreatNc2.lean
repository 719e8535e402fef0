/- Joined texts of this claim, part 2: contracts and plain laws that its proof stands on. -/
import Derived.Test.YtdaokkgenfpmhaaGreatNc1
/- CopyMesh: the mesh in rows of its own. -/
set_option linter.unusedVariables false
set_option linter.unusedSimpArgs false
namespace Go.Proofs.YtdaokkgenfpmhaaGreat.MeshSa
open Go.RowKit Go.Sort FixM Base Num FixW Qb Qt Qa VecW VecV VecU LightQ LightC MeshM Rec MeshA MeshB MeshC MeshD MeshE MeshP MeshEq BvhC
theorem mesh_size : (Tryz.prog.info? 31).map (·.size) = some 3 := by kernel_rfl
theorem store_mesh {ops : Array Oper} {rest : List Oper} {o : Oper} {a : Act} {w : World} {Q : Exit → Act → World → Prop} (hgd : o.guard = none) (x y : Operand) (ho : o.op = .store 31 x y) (hd : o.dst = none)
  (g : Nat) (v0 v1 v2 : Value) (hx : a.eval x = .pointer (some ⟨g, 0, none⟩)) (hy : a.eval y = .agg #[v0, v1, v2]) (cur : Array Value) (hg : w.heap[g]? = some (.cells cur 31)) (hc : cur.size = 3)
  (h1 : v0.oneCell' = true ∧ v1.oneCell' = true ∧ v2.oneCell' = true)
  (h : wpList Tryz.prog ops Q rest a (w.setRow g #[v0, v1, v2])) : wpList Tryz.prog ops Q (o :: rest) a w :=
 wpList_store_arr hgd 31 x y ho g _ hx hy 31 cur hg mesh_size (by rw [hc]; rfl) (by intro v hv; simp at hv; rcases hv with rfl | rfl | rfl; exact h1.1; exact h1.2.1; exact h1.2.2) hd h
theorem grown_none {w w' : World} (h : w.grownBy w' none) : Below w.heap.size w w' := ⟨h.os, h.tape, h.output, h.size, fun k hk => h.block k hk (by simp)⟩
abbrev nil : Value := .slice none 0 0
structure Cp (w W : World) (row : Array Value) (s0 s1 s2 : Value) : Prop where
 h1 : W.heap[w.heap.size]? = some (.cells row 31)
 h2 : W.heap[w.heap.size + 1]? = some (.cells #[nil, nil, nil] 31)
 h3 : W.heap[w.heap.size + 1 + 1]? = some (.cells #[s0, s1, s2] 31)
 hb : Below w.heap.size w W
 sz : w.heap.size + 3 ≤ W.heap.size
theorem Cp.step {w W W' : World} {row : Array Value} {s0 s1 s2 : Value} (h : Cp w W row s0 s1 s2) (hg : W.grownBy W' none) : Cp w W' row s0 s1 s2 :=
 ⟨vec_step h.h1 (grown_none hg), vec_step h.h2 (grown_none hg), vec_step h.h3 (grown_none hg), h.hb.trans ((grown_none hg).mono h.hb.size), Nat.le_trans h.sz hg.size⟩
theorem Cp.set {w W : World} {row : Array Value} {s0 s1 s2 : Value} (h : Cp w W row s0 s1 s2) (k : Nat) (v t0 t1 t2 : Value) (he : (#[s0, s1, s2] : Array Value).setIfInBounds k v = #[t0, t1, t2]) : Cp w (W.setCell ⟨w.heap.size + 1 + 1, k, none⟩ v) row t0 t1 t2 :=
 ⟨by rw [heap_setCell_other _ _ _ _ (by show w.heap.size ≠ w.heap.size + 1 + 1; omega)]; exact h.h1, by rw [heap_setCell_other _ _ _ _ (by show w.heap.size + 1 ≠ w.heap.size + 1 + 1; omega)]; exact h.h2, by rw [heap_setCell_same _ _ _ _ _ _ h.h3, he], setCell_below h.hb (by omega) _, by rw [show (W.setCell ⟨w.heap.size + 1 + 1, k, none⟩ v).heap.size = W.heap.size from by simp [World.setCell]]; exact h.sz⟩
end Go.Proofs.YtdaokkgenfpmhaaGreat.MeshSa

namespace Go.Proofs.YtdaokkgenfpmhaaGreat.MeshTa
theorem keep_ : True := trivial
end Go.Proofs.YtdaokkgenfpmhaaGreat.MeshTa
/- Law14's BvhTells. -/
set_option linter.unusedVariables false
set_option linter.unusedSimpArgs false
namespace Go.Proofs.YtdaokkgenfpmhaaGreat.BvhTa
open Go Go.RowKit Go.Sort Go.Lib FixM Base Num FixW Qb Qt Qa Qf Qg VecW VecV VecU LightQ LightC MeshM Rec MeshA MeshC MeshD MeshE MeshP MeshQ MeshR MeshEq MeshSa MeshTa HitM HitT HitX HitN HitS HitV BvhM BvhA BvhB BvhS BvhX BvhC BvhD BvhE BvhF BvhG BvhH BvhI BvhJ BvhL BvhQ BvhO BvhR BvhSa BvhZ BvhN BvhRa BvhY BvhRb OpenRays
/-- a row of records that may be written: its block lies from B0 to B1 -/
def SlotW (E : TypeId) (c B0 B1 : Nat) (w : World) (a : Option Addr) (n : Nat) : Prop := 0 < n → ∃ g cur, a = some ⟨g, 0, none⟩ ∧ B0 ≤ g ∧ g < B1 ∧ w.heap[g]? = some (.cells cur E) ∧ n * c ≤ cur.size
theorem SlotW.below {E : TypeId} {c B0 B1 : Nat} {w w' : World} {a : Option Addr} {n : Nat} (h : SlotW E c B0 B1 w a n) (hb : Below B1 w w') : SlotW E c B0 B1 w' a n := by
 intro hp
 obtain ⟨g, cur, e, h1, h2, h3, h4⟩ := h hp
 exact ⟨g, cur, e, h1, h2, (hb.block g h2).trans h3, h4⟩
theorem setCells_row {g E : Nat} : ∀ (vs : List Value) (w : World) (off : Nat) (cur : Array Value), w.heap[g]? = some (.cells cur E) → ∃ cur', (w.setCells g off vs).heap[g]? = some (.cells cur' E) ∧ cur'.size = cur.size := by
 intro vs
 induction vs with
 | nil => intro w off cur h; exact ⟨cur, h, rfl⟩
 | cons v vs ih =>
  intro w off cur h
  obtain ⟨cur', h1, h2⟩ := ih (w.setCell ⟨g, off, none⟩ v) (off + 1) _ (heap_setCell_same _ _ _ _ _ _ h)
  exact ⟨cur', h1, by rw [h2]; simp⟩
theorem setCells_keeps {S : Nat → Prop} {g : Nat} (hg : S g) : ∀ (vs : List Value) (w0 w : World) (off : Nat), Keeps S w0 w → Keeps S w0 (w.setCells g off vs) := by
 intro vs
 induction vs with
 | nil => intro w0 w off h; exact h
 | cons v vs ih => intro w0 w off h; exact ih w0 _ (off + 1) (h.setCell g off v (.inl hg))
theorem SlotW.set {E E2 : TypeId} {c c2 B0 B1 : Nat} {w : World} {a : Option Addr} {n g off : Nat} (h : SlotW E c B0 B1 w a n) (vs : List Value) : SlotW E c B0 B1 (w.setCells g off vs) a n := by
 intro hp
 obtain ⟨g', cur, e, h1, h2, h3, h4⟩ := h hp
 by_cases hg : g' = g
 ·
  subst hg
  obtain ⟨cur', h5, h6⟩ := setCells_row vs w off cur h3
  exact ⟨g', cur', e, h1, h2, h5, by rw [h6]; exact h4⟩
 ·
  have hk := setCells_keeps (S := fun k => k = g) rfl vs w w off (Keeps.refl _ _)
  exact ⟨g', cur, e, h1, h2, keep_cell hk h3 hg, h4⟩
theorem rbuild_made (m : Msh) (ok : m.ok) (hl : m.ts.length + m.bs.length ≤ 9223372036854775807) (steps : Int) (h : checkF m = 0 ∧ ¬ steps < (stepsM m : Int)) (a0 : Option Addr) (n0 c0 : Nat) (a1 : Option Addr) (n1 c1 : Nat) (a2 : Option Addr) (n2 c2 : Nat) (w : World) (hm : IsMesh w (.agg #[.slice a0 n0 c0, .slice a1 n1 c1, .slice a2 n2 c2]) m) :
  Calls Tryz.prog 7 #[.agg #[.slice a0 n0 c0, .slice a1 n1 c1, .slice a2 n2 c2], .int .i64 steps] w (fun e w' => ∃ a3 n3 c3, e = .returned (.tuple #[.agg #[.slice a0 n0 c0, .slice a1 n1 c1, .slice a2 n2 c2, .slice a3 n3 c3], .int .i64 (stepsM m : Int), .int .i64 0]) ∧ FirstAt w.heap.size m w' a3 n3 ∧ Below w.heap.size w w') := by
 refine (rbuild_any m w a0 n0 c0 a1 n1 c1 a2 n2 c2 hm ok hl steps w.heap.size (Nat.le_refl _)).mono ?_
 rintro e w' ⟨hb, h2⟩
 rw [if_neg (fun h3 => h3 h.1), if_neg h.2] at h2
 obtain ⟨a3, n3, c3, e1, hf⟩ := h2
 exact ⟨a3, n3, c3, e1, hf, hb⟩
end Go.Proofs.YtdaokkgenfpmhaaGreat.BvhTa

/- What rays straight down meet in a row of balls, and the fixed meshes of the chapter. Plain. -/
set_option linter.unusedVariables false
set_option linter.unusedSimpArgs false
namespace Go.Proofs.YtdaokkgenfpmhaaGreat.BvhNa
open Go FixM VecW VecV VecU MeshM MeshP HitM HitN HitP BvhM BvhE BvhJ
theorem row_at (n k : Nat) (hk : k < n) : (rowM n).bs.getD k ⟨v0, 0⟩ = rowB k := by
 unfold rowM
 simp [List.getD_eq_getElem?_getD, hk]
theorem row_box (n k : Nat) (hk : k < n) : boxF (rowM n) (k : Int) = ballB (rowB k) := by
 have hl : (rowM n).bs.length = n := row_len n
 have ht : (rowM n).ts.length = 0 := rfl
 unfold boxF
 rw [if_neg (by rw [hl, ht]; omega), if_neg (by rw [ht]; omega), ht]
 rw [show ((k : Int) - ((0 : Nat) : Int)).toNat = k by omega, row_at n k hk]
theorem sub_id {a b : Int} (h1 : -9223372036854775808 ≤ a - b) (h2 : a - b ≤ 9223372036854775807) : subF a b = a - b := clamp_id h1 h2
theorem add_id {a b : Int} (h1 : -9223372036854775808 ≤ a + b) (h2 : a + b ≤ 9223372036854775807) : addF a b = a + b := clamp_id h1 h2
theorem row_lo (k : Nat) (hk : k ≤ 4096) : (ballB (rowB k)).lo.x = (k : Int) * 42949672960 - 4294967296 := by
 have e : (ballB (rowB k)).lo.x = subF ((k : Int) * 42949672960) 4294967296 := by simp only [ballB, rowB]
 rw [e]
 exact sub_id (by omega) (by omega)
theorem row_hi (k : Nat) (hk : k ≤ 4096) : (ballB (rowB k)).hi.x = (k : Int) * 42949672960 + 4294967296 := by
 have e : (ballB (rowB k)).hi.x = addF ((k : Int) * 42949672960) 4294967296 := by simp only [ballB, rowB]
 rw [e]
 exact add_id (by omega) (by omega)
theorem row_none (n k : Nat) (hk : k < n) (hn : n ≤ 4096) (i : Int) (hi : -4096 ≤ i ∧ i ≤ 4096) (h : (k : Int) ≠ i) : shapeF (rowM n) (k : Int) (downR (10 * i)) 0 = none := by
 have hl : (rowM n).bs.length = n := row_len n
 have ht : (rowM n).ts.length = 0 := rfl
 unfold shapeF
 rw [if_neg (by rw [hl, ht]; omega), if_pos (by rw [ht]; omega)]
 unfold ballShapeF
 rw [row_box n k hk]
 have e : boxH (downR (10 * i)) (ballB (rowB k)) = none := by
  unfold boxH sideF
  have e1 : (downR (10 * i)).d.x = 0 := rfl
  rw [if_pos e1]
  have e2 := row_lo k (by omega)
  have e3 := row_hi k (by omega)
  have e4 : (downR (10 * i)).o.x = 10 * i * 4294967296 := by simp only [downR]
  rw [e2, e3, e4, if_neg (by omega)]
  rfl
 rw [e]
 rfl
theorem ball_same (i : Nat) (hi : i ≤ 4096) : ballH (downR (10 * (i : Int))) (rowB i) = ballH (downR 0) (rowB 0) := by
 have e : map2 subF (downR (10 * (i : Int))).o (rowB i).c = map2 subF (downR 0).o (rowB 0).c := by
  unfold downR rowB map2
  dsimp only
  have e1 : subF (10 * (i : Int) * 4294967296) ((i : Int) * 42949672960) = 0 := by
   rw [sub_id (by omega) (by omega)]; omega
  rw [e1]
  have e2 : subF (0 * 4294967296) (((0 : Nat) : Int) * 42949672960) = 0 := by decide +kernel
  rw [e2]
 have ed : (downR (10 * (i : Int))).d = (downR 0).d := rfl
 have er : (rowB i).r = (rowB 0).r := rfl
 unfold ballH ballX ballY ballW ballC ballHh ballA
 rw [e, ed, er]
theorem box_same (i : Nat) (hi : i ≤ 4096) : boxH (downR (10 * (i : Int))) (ballB (rowB i)) = some 17179869184 := by
 unfold boxH
 have e1 : sideF (downR (10 * (i : Int))).o.x (downR (10 * (i : Int))).d.x (ballB (rowB i)).lo.x (ballB (rowB i)).hi.x (0, MOST) = some (0, MOST) := by
  unfold sideF
  rw [if_pos (show (downR (10 * (i : Int))).d.x = 0 from rfl)]
  have e2 := row_lo i (by omega)
  have e3 := row_hi i (by omega)
  have e4 : (downR (10 * (i : Int))).o.x = 10 * (i : Int) * 4294967296 := by simp only [downR]
  rw [e2, e3, e4, if_pos (by omega)]
 rw [e1]
 show ((sideF 0 0 (subF 0 4294967296) (addF 0 4294967296) (0, MOST)).bind fun s => (sideF (-21474836480) 4294967296 (subF 0 4294967296) (addF 0 4294967296) s).bind fun s => if s.1 ≤ s.2 then some s.1 else none) = some 17179869184
 decide +kernel
theorem row_some (n i : Nat) (hi : i < n) (hn : n ≤ 4096) : shapeF (rowM n) (i : Int) (downR (10 * (i : Int))) 0 = some ⟨17179869184, (i : Int), 0, 0⟩ := by
 have hl : (rowM n).bs.length = n := row_len n
 have ht : (rowM n).ts.length = 0 := rfl
 unfold shapeF
 rw [if_neg (by rw [hl, ht]; omega), if_pos (by rw [ht]; omega)]
 unfold ballShapeF
 rw [row_box n i hi, box_same i (by omega), Option.bind_some]
 have eb : ballAt (rowM n) (i : Int) = rowB i := by
  unfold ballAt
  rw [ht, show ((i : Int) - ((0 : Nat) : Int)).toNat = i by omega, row_at n i hi]
 rw [eb, ball_same i (by omega)]
 have e2 : ballH (downR 0) (rowB 0) = some (17179869184, 25769803776) := by decide +kernel
 rw [e2, Option.bind_some]
 unfold pickF
 rw [if_pos (by decide)]
 rfl
/-- who is met: the ball under the ray, if there is one -/
theorem row_hit (n i : Nat) (hi : i < n) (hn : n ≤ 4096) : (nearestF (rowM n) (downR (10 * (i : Int))) 0).1.i = (i : Int) := by
 rw [nearest_scan]
 have hc : (rowM n).ts.length + (rowM n).bs.length = n := row_cnt n
 rcases scanF_best (rowM n) (downR (10 * (i : Int))) 0 with ⟨e, h⟩ | ⟨k, hk, hs, -⟩
 ·
  have := h i (by rw [hc]; exact hi)
  have h2 := row_some n i hi hn
  exact absurd (h2.symm.trans this) (by simp)
 ·
  rw [hc] at hk
  by_cases e : k = i
  ·
   subst e
   have h2 := row_some n k hk hn
   rw [← Option.some.inj (h2.symm.trans hs)]
  ·
   have h2 := row_none n k hk hn (i : Int) (by omega) (by omega)
   exact absurd (h2.symm.trans hs) (by simp)
theorem row_past (n : Nat) (hn : n ≤ 4096) (r : Ry) : ¬ (nearestF (rowM n) r 0).1.i = (n : Int) := by
 rw [nearest_scan]
 have hc : (rowM n).ts.length + (rowM n).bs.length = n := row_cnt n
 rcases scanF_best (rowM n) r 0 with ⟨e, -⟩ | ⟨k, hk, hs, -⟩
 ·
  rw [e]; show ¬ (-1 : Int) = n; omega
 ·
  rw [hc] at hk
  have := shape_in _ _ _ k _ hs
  rw [this]; omega
/-- the test that the statement makes of a row's ray -/
theorem row_test (n : Nat) (hn : n ≤ 4096) (k : Nat) (hk : k ≤ n + 1) (j h : Int) (hj : j = (k : Int) - 1) (hh : h = (nearestF (rowM n) (downR (10 * j)) 0).1.i) : (0 ≤ j ∧ j < n) ↔ (h = j ∧ 0 ≤ h) := by
 constructor
 ·
  rintro ⟨h1, h2⟩
  obtain ⟨i, rfl⟩ := Int.eq_ofNat_of_zero_le h1
  rw [hh, row_hit n i (by omega) hn]
  omega
 ·
  rintro ⟨h1, h2⟩
  refine ⟨by omega, ?_⟩
  rcases (show j < (n : Int) ∨ j = (n : Int) by omega) with h3 | h3
  ·
   exact h3
  ·
   exact absurd (show (nearestF (rowM n) (downR (10 * j)) 0).1.i = (n : Int) by rw [← hh]; omega) (row_past n hn _)
theorem row_steps (n : Nat) (hn : n ≤ 4096) : stepsM (rowM n) ≤ 1000000 := by
 unfold stepsM
 split
 ·
  omega
 ·
  rename_i hc
  have h1 := (steps_le _ (whole_good (rowM n) hc)).2
  have h2 := BvhF.whole_deep (rowM n) (by rw [row_cnt]; exact hn)
  rw [whole_l] at h1
  have h3 : (allL (rowM n)).length = n := by unfold allL; rw [List.length_range]; exact row_cnt n
  rw [h3] at h1
  have h4 : deepT (wholeT (rowM n)) * n ≤ 12 * 4096 := Nat.mul_le_mul h2 hn
  omega
theorem row_pos (n : Nat) (h0 : 1 ≤ n) : 1 ≤ stepsM (rowM n) := by
 have hc : cntM (rowM n) ≠ 0 := by rw [row_cnt]; omega
 unfold stepsM
 rw [if_neg hc]
 have h1 := (steps_le _ (whole_good (rowM n) hc)).1
 have h2 := good_pos _ (whole_good (rowM n) hc)
 omega
theorem big_deep : deepM (rowM 4096) = 12 := by rw [deep_is, row_cnt]; decide +kernel
def sameM : Msh := ⟨[], [], List.replicate 5 ⟨⟨0, 0, 0⟩, 5⟩⟩
theorem same_check : checkF sameM = 0 := by decide +kernel
theorem same_steps : ¬ (100 : Int) < (stepsM sameM : Int) := by rw [steps_is]; decide +kernel
theorem same_ok : sameM.ok := ⟨by simp [sameM], by simp [sameM], fun b hb => by
 have : b = ⟨⟨0, 0, 0⟩, 5⟩ := by simpa [sameM] using hb
 subst this
 unfold V3.ok In
 decide⟩
def wrongM : Msh := ⟨[], [⟨0, 0, 0⟩], []⟩
theorem wrong_check : checkF wrongM = 14 := by decide +kernel
theorem wrong_ok : wrongM.ok := ⟨by simp [wrongM], fun t ht => by
 have : t = ⟨0, 0, 0⟩ := by simpa [wrongM] using ht
 subst this
 unfold V3.ok In
 decide, by simp [wrongM]⟩
theorem same_near : (scanF sameM (downR 0) 0).i = 0 := by decide +kernel
end Go.Proofs.YtdaokkgenfpmhaaGreat.BvhNa

/- Law14's BvhNumbers. -/
set_option linter.unusedVariables false
set_option linter.unusedSimpArgs false
namespace Go.Proofs.YtdaokkgenfpmhaaGreat.BvhNb
open Go Go.RowKit Go.Sort Go.Lib FixM Base Num FixW Qb Qt Qa Qf Qg VecW VecV VecU LightQ LightC MeshM Rec MeshA MeshC MeshD MeshE MeshP MeshQ MeshR MeshEq MeshSa MeshTa HitM HitT HitX HitN HitS HitV BvhM BvhA BvhB BvhS BvhX BvhC BvhD BvhE BvhF BvhG BvhH BvhI BvhJ BvhL BvhQ BvhO BvhR BvhSa BvhZ BvhN BvhRa BvhY BvhRb BvhTa BvhNa
theorem recs_row {α : Type} {c : Nat} {enc : α → List Value} (hlen : ∀ x, (enc x).length = c) (E : Nat) (w : World) (l : List α) (row : Array Value) (hr : row.toList = l.flatMap enc) (hm : l.length ≤ maxLen) : Recs c enc (w.alloc (.cells row E)) (.slice (some ⟨w.heap.size, 0, none⟩) l.length l.length) l where
 shape := ⟨_, l.length, rfl, Nat.le_refl _, hm, fun e => by simp at e⟩
 cells := fun _ => ⟨w.heap.size, 0, l.length, rfl, by simp, fun i hi k y hy => by
  have hk : k < c := by
   rcases Nat.lt_or_ge k c with h | h
   ·
    exact h
   ·
    rw [List.getElem?_eq_none (by rw [hlen]; exact h)] at hy; simp at hy
  rw [cell_of_row _ w.heap.size _ row E (0, 0) (heap_alloc_new _ _), Nat.zero_add]
  have e : row[i * c + k]? = (l.flatMap enc)[i * c + k]? := by rw [← hr]; simp
  rw [e, flat_at hlen l i k hi hk]; exact hy⟩

theorem ten_at (w : World) (g k : Nat) (h : w.heap[g]? = some (.cells #[.int .i64 1, .int .i64 2, .int .i64 3, .int .i64 4, .int .i64 5, .int .i64 7, .int .i64 8, .int .i64 9, .int .i64 33, .int .i64 100] 3)) (hk : k < 10) : ∃ n : Nat, 1 ≤ n ∧ n ≤ 100 ∧ w.cell? ⟨g, k, none⟩ = some (.int .i64 (n : Int)) := by
 have hk2 : k = 0 ∨ k = 1 ∨ k = 2 ∨ k = 3 ∨ k = 4 ∨ k = 5 ∨ k = 6 ∨ k = 7 ∨ k = 8 ∨ k = 9 := by omega
 rcases hk2 with rfl | rfl | rfl | rfl | rfl | rfl | rfl | rfl | rfl | rfl
 ·
  exact ⟨1, by decide, by decide, cell_row h 0 _ rfl⟩
 ·
  exact ⟨2, by decide, by decide, cell_row h 1 _ rfl⟩
 ·
  exact ⟨3, by decide, by decide, cell_row h 2 _ rfl⟩
 ·
  exact ⟨4, by decide, by decide, cell_row h 3 _ rfl⟩
 ·
  exact ⟨5, by decide, by decide, cell_row h 4 _ rfl⟩
 ·
  exact ⟨7, by decide, by decide, cell_row h 5 _ rfl⟩
 ·
  exact ⟨8, by decide, by decide, cell_row h 6 _ rfl⟩
 ·
  exact ⟨9, by decide, by decide, cell_row h 7 _ rfl⟩
 ·
  exact ⟨33, by decide, by decide, cell_row h 8 _ rfl⟩
 ·
  exact ⟨100, by decide, by decide, cell_row h 9 _ rfl⟩
set_option maxRecDepth 100000 in
set_option maxHeartbeats 32000000 in
theorem bvhNumbers_any (w : World) : Calls Tryz.prog 3 #[] w (AwTo w) := by
 have hA := heap_alloc_new w (.cells #[.int .i64 1, .int .i64 2, .int .i64 3, .int .i64 4, .int .i64 5, .int .i64 7, .int .i64 8, .int .i64 9, .int .i64 33, .int .i64 100] 3)
 have hB := ext_alloc w (.cells #[.int .i64 1, .int .i64 2, .int .i64 3, .int .i64 4, .int .i64 5, .int .i64 7, .int .i64 8, .int .i64 9, .int .i64 33, .int .i64 100] 3)
 obtain ⟨W, hW⟩ : ∃ ww, ww = w.alloc (.cells #[.int .i64 1, .int .i64 2, .int .i64 3, .int .i64 4, .int .i64 5, .int .i64 7, .int .i64 8, .int .i64 9, .int .i64 33, .int .i64 100] 3) := ⟨_, rfl⟩
 rw [← hW] at hA hB
 have HT0 := Lib.hid hA
 have HB0 := Lib.hid hB
 have HWW := Lib.hid hW
 have HAW := Lib.hid (fun w2 => awake_any w2)
 clear hA hB hW
 go_enter Tryz.func3, Tryz.ntmps3
 go_upto_region 2 with (fail)
 rw [← HWW.out]
 clear HWW
 go_wp2_with fail
 go_loopg [36] 10 (fun r n36 wr => ∃ k : Nat, k + r = 10 ∧ n36 = .int .i64 (k : Int) ∧ Hid (Below W.heap.size W wr))
 case atStart => exact ⟨0, rfl, rfl, Lib.hid (Below.refl _ _)⟩
 case round =>
  obtain ⟨k, hkr, rfl, hin⟩ := hrel
  have HIN := Lib.hid hin.out
  have HB1 := Lib.hid (HB0.out.trans (hin.out.mono HB0.out.size))
  have HT1 := Lib.hid (vec_step HT0.out hin.out)
  clear hin
  obtain ⟨w1, hw1⟩ : ∃ ww, ww = wr := ⟨_, rfl⟩
  by_cases hk : k < 10
  ·
   have d1 : decide ((k : Int) < 10) = true := decide_eq_true (by omega)
   have d1b : decide (k < 10) = true := decide_eq_true hk
   have HMS := Lib.hid (show 10 - (k + 1) < gk by omega)
   have HKR := Lib.hid (show k + 1 + (10 - (k + 1)) = 10 by omega)
   have i9 : IntKind.i64.wrap ((k : Int) + 1) = ((k + 1 : Nat) : Int) := by rw [wrap_in (by omega) (by omega)]; omega
   have I9 := Lib.hid i9
   obtain ⟨n, hn1, hn2, hcell⟩ := ten_at wr _ k HT1.out hk
   have HNN := Lib.hid (And.intro hn1 hn2)
   have HOK := Lib.hid (row_ok n (by omega))
   have HCK := Lib.hid (row_check n (by omega))
   have HCT := Lib.hid (row_cnt n)
   have HCL := Lib.hid (show cntM (rowM n) ≤ 4096 by rw [HCT.out]; omega)
   have HLL := Lib.hid (show (rowM n).ts.length + (rowM n).bs.length ≤ 9223372036854775807 by have h : (rowM n).ts.length + (rowM n).bs.length ≤ 4096 := HCL.out; omega)
   have HST := Lib.hid (And.intro (row_steps n (by omega)) (row_pos n hn1))
   have CRW := Lib.hid (fun w2 => row_any w2 n (by omega))
   obtain ⟨m, hm⟩ : ∃ x, x = rowM n := ⟨_, rfl⟩
   have CBM := Lib.hid (fun v w2 (h : IsMesh w2 v m) => (show Calls Tryz.prog 5 #[v, .int .i64 1048576] w2 (fun e w' => ∃ g, e = .returned (.tuple #[.pointer (some ⟨g, 0, none⟩), .int .i64 (stepsM m : Int), .int .i64 0]) ∧ TreeAt w' g m ∧ Below w2.heap.size w2 w') from build_made h (by rw [hm]; exact HOK.out) (by rw [hm]; exact HCK.out) 1048576 (by rw [hm]; have := HST.out.1; omega)))
   have CBS := Lib.hid (fun v w2 (h : IsMesh w2 v m) => build_short h (by rw [hm]; exact HOK.out) (by rw [hm]; exact HCK.out) ((stepsM m : Int) - 1) (by omega))
   have CRB := Lib.hid (fun a0 n0 c0 a1 n1 c1 a2 n2 c2 w2 h => rbuild_made m (by rw [hm]; exact HOK.out) (by rw [hm]; exact HLL.out) 1048576 ⟨by rw [hm]; exact HCK.out, by rw [hm]; have := HST.out.1; omega⟩ a0 n0 c0 a1 n1 c1 a2 n2 c2 w2 h)
   unfold RowTo at CRW
   rw [← hm] at CRW HOK HCL HST
   have HMM := Lib.hid hm
   obtain ⟨st, hst⟩ : ∃ x, x = stepsM m := ⟨_, rfl⟩
   obtain ⟨st1, hst1⟩ : ∃ x, st = x + 1 := ⟨st - 1, by have := HST.out.2; omega⟩
   have hs1 : (st : Int) - 1 = (st1 : Int) := by omega
   have i8 : IntKind.i64.wrap ((st : Int) - 1) = (st1 : Int) := by have := HST.out.1; rw [wrap_in (by omega) (by omega)]; omega
   have I8 := Lib.hid i8
   rw [← hst] at CBM CBS CRB
   rw [hs1] at CBS
   clear hm hst hst1 hs1 hn1 hn2 hkr i9 i8 HCK HCT HLL HST
   subst hw1
   go_wp2_with fail
   refine (CRW.out _).mono ?_
   rintro e w2 ⟨aa, ca, rfl, hm2, hb⟩
   have HB2 := Lib.hid (HB1.out.trans (hb.mono HB1.out.size))
   have HI2 := Lib.hid (HIN.out.trans (hb.mono HIN.out.size))
   have CB2 := Lib.hid (CBM.out _ w2 hm2)
   clear hb hm2 HB1 HT1 HIN d1 d1b hcell CBM hk
   go_wp2_with fail
   refine CB2.out.mono ?_
   rintro e w3 ⟨g, rfl, ht, hb⟩
   have HB3 := Lib.hid (HB2.out.trans (hb.mono HB2.out.size))
   have HI3 := Lib.hid (HI2.out.trans (hb.mono HI2.out.size))
   have HT3 := Lib.hid ht
   clear hb ht HB2 HI2 CB2
   go_wp2_with fail
   refine (CRW.out _).mono ?_
   rintro e w4 ⟨ab, cb, rfl, hm2, hb⟩
   have HB4 := Lib.hid (HB3.out.trans (hb.mono HB3.out.size))
   have HI4 := Lib.hid (HI3.out.trans (hb.mono HI3.out.size))
   have HT4 := Lib.hid (HT3.out.below hb)
   have HM4 := Lib.hid hm2
   have CR4 := Lib.hid (CRB.out none 0 0 none 0 0 ab n cb w4 hm2)
   clear hb hm2 HB3 HI3 HT3 CRB
   go_wp2_with fail
   refine CR4.out.mono ?_
   rintro e w5 ⟨a3, n3, c3, rfl, hf, hb⟩
   have HB5 := Lib.hid (HB4.out.trans (hb.mono HB4.out.size))
   have HI5 := Lib.hid (HI4.out.trans (hb.mono HI4.out.size))
   have HT5 := Lib.hid (HT4.out.below hb)
   have HM5 := Lib.hid (HM4.out.below hb)
   have HF5 := Lib.hid hf
   clear hb hf HB4 HI4 HT4 HM4 CR4
   go_upto_region 6 with (with_reducible refine store_tree rfl (.tmp 6) (.tmp 51) rfl rfl w5.heap.size none 0 0 none 0 0 ab n cb a3 n3 c3 rfl rfl _ (heap_alloc_new _ _) rfl ?_)
   have h6 : ((w5.alloc (.cells #[.slice none 0 0, .slice none 0 0, .slice none 0 0, .slice none 0 0] 35)).setRow w5.heap.size #[.slice none 0 0, .slice none 0 0, .slice ab n cb, .slice a3 n3 c3]).heap[w5.heap.size]? = some (.cells #[.slice none 0 0, .slice none 0 0, .slice ab n cb, .slice a3 n3 c3] 35) := setRow_heap _ _ _ _ _ _ (heap_alloc_new _ _)
   have hx := below_setRow (ext_alloc w5 (.cells #[.slice none 0 0, .slice none 0 0, .slice none 0 0, .slice none 0 0] 35)) (Nat.le_refl _) #[.slice none 0 0, .slice none 0 0, .slice ab n cb, .slice a3 n3 c3]
   obtain ⟨w6, hW⟩ : ∃ ww, ww = (w5.alloc (.cells #[.slice none 0 0, .slice none 0 0, .slice none 0 0, .slice none 0 0] 35)).setRow w5.heap.size #[.slice none 0 0, .slice none 0 0, .slice ab n cb, .slice a3 n3 c3] := ⟨_, rfl⟩
   rw [← hW] at h6 hx ⊢
   have H66 := Lib.hid h6
   have HB6 := Lib.hid (HB5.out.trans (hx.mono HB5.out.size))
   have HI6 := Lib.hid (HI5.out.trans (hx.mono HI5.out.size))
   have HT6 := Lib.hid (HT5.out.below hx)
   have HM6 := Lib.hid (HM5.out.below hx)
   have HF6 := Lib.hid (HF5.out.below hx)
   clear hW h6 hx HB5 HI5 HT5 HM5 HF5
   generalize w5.heap.size = g6 at H66 ⊢
   have CSZ := Lib.hid (rsize_any m w6 none 0 0 none 0 0 ab n cb a3 n3 c3 _ HF6.out HCL.out)
   obtain ⟨nn, hnn⟩ : ∃ x, x = (flatM m).length := ⟨_, rfl⟩
   obtain ⟨dm, hdm⟩ : ∃ x, x = deepM m := ⟨_, rfl⟩
   have HEQ := Lib.hid (And.intro hnn hdm)
   rw [← hnn, ← hdm] at CSZ
   clear hnn hdm
   have CN := Lib.hid (fun w2 (h : TreeAt w2 g m) => (show Calls Tryz.prog 9 #[.pointer (some ⟨g, 0, none⟩)] w2 (fun e w' => e = .returned (.int .i64 (nn : Int)) ∧ w2 = w') by rw [HEQ.out.1]; exact tree_nodes h))
   have CD := Lib.hid (fun w2 (h : TreeAt w2 g m) => (show Calls Tryz.prog 10 #[.pointer (some ⟨g, 0, none⟩)] w2 (fun e w' => e = .returned (.int .i64 (dm : Int)) ∧ w2 = w') by rw [HEQ.out.2]; exact tree_deep h))
   have r0 := cell_row H66.out 0 _ rfl
   have r1 := cell_row H66.out 1 _ rfl
   have r2 := cell_row H66.out 2 _ rfl
   have r3 := cell_row H66.out 3 _ rfl
   go_wp2_with fail
   refine CSZ.out.mono ?_
   rintro e w7 ⟨rfl, hb⟩
   have H67 := Lib.hid (vec_step H66.out hb)
   have HB7 := Lib.hid (HB6.out.trans (hb.mono HB6.out.size))
   have HI7 := Lib.hid (HI6.out.trans (hb.mono HI6.out.size))
   have HT7 := Lib.hid (HT6.out.below hb)
   have HM7 := Lib.hid (HM6.out.below hb)
   have HF7 := Lib.hid (HF6.out.below hb)
   clear hb r0 r1 r2 r3 CSZ H66 HB6 HI6 HT6 HM6 HF6
   go_wp2_with fail
   refine (CN.out _ HT7.out).mono ?_
   rintro e _ ⟨rfl, rfl⟩
   go_wp2_with fail
   refine (CD.out _ HT7.out).mono ?_
   rintro e _ ⟨rfl, rfl⟩
   clear CN CD
   have i8 := I8.out
   go_wp2_with fail
   refine (CRW.out _).mono ?_
   rintro e w8 ⟨ad, cd, rfl, hm2, hb⟩
   have H68 := Lib.hid (vec_step H67.out hb)
   have HB8 := Lib.hid (HB7.out.trans (hb.mono HB7.out.size))
   have HI8 := Lib.hid (HI7.out.trans (hb.mono HI7.out.size))
   have HT8 := Lib.hid (HT7.out.below hb)
   have HM8 := Lib.hid (HM7.out.below hb)
   have HF8 := Lib.hid (HF7.out.below hb)
   have CB8 := Lib.hid (CBS.out _ w8 hm2)
   clear hb hm2 H67 HB7 HI7 HT7 HM7 HF7 CRW CBS
   go_wp2_with fail
   refine CB8.out.mono ?_
   rintro e w9 ⟨rfl, hb⟩
   have H69 := Lib.hid (vec_step H68.out hb)
   have HB9 := Lib.hid (HB8.out.trans (hb.mono HB8.out.size))
   have HI9 := Lib.hid (HI8.out.trans (hb.mono HI8.out.size))
   have HT9 := Lib.hid (HT8.out.below hb)
   have HM9 := Lib.hid (HM8.out.below hb)
   have HF9 := Lib.hid (HF8.out.below hb)
   clear hb CB8 H68 HB8 HI8 HT8 HM8 HF8 i8 I8
   clear w8 w7 w6
   go_wp2_with fail
   go_loopg [14] (n + 2) (fun r n14 wr => ∃ (j : Nat) (z : Int), j + r = n + 2 ∧ z = (j : Int) - 1 ∧ n14 = .int .i64 z ∧ Hid (Below w9.heap.size w9 wr))
   case atStart => exact ⟨0, -1, by omega, by omega, rfl, Lib.hid (Below.refl _ _)⟩
   case round =>
    obtain ⟨j, z, hjr, hz, rfl, hin⟩ := hrel
    have HI10 := Lib.hid hin.out
    by_cases hk : z ≤ (n : Int)
    ·
     have d1 : decide (z ≤ (n : Int)) = true := decide_eq_true hk
     have HM2 := Lib.hid (show n + 2 - (j + 1) < gk by omega)
     have HK2 := Lib.hid (show j + 1 + (n + 2 - (j + 1)) = n + 2 ∧ z + 1 = ((j + 1 : Nat) : Int) - 1 by omega)
     have hzb : -1 ≤ z ∧ z ≤ 100 := by have := HNN.out; omega
     obtain ⟨x10, hx10⟩ : ∃ x, x = 10 * z := ⟨_, rfl⟩
     have im : IntKind.i64.wrap (10 * z) = x10 := by rw [wrap_in (by omega) (by omega)]; exact hx10.symm
     have IM := Lib.hid im
     have i5 : IntKind.i64.wrap (z + 1) = z + 1 := wrap_in (by omega) (by omega)
     have I5 := Lib.hid i5
     have CDW := Lib.hid (fun w2 => down_any w2 x10 (by omega))
     have HRK : (downR x10).ok := by unfold Ry.ok downR V3.ok In; dsimp only; omega
     have hts := row_test n (by have := HNN.out; omega) j (by omega) z _ hz rfl
     rw [← HMM.out, ← hx10] at hts
     obtain ⟨rk, hrk⟩ : ∃ r, r = downR x10 := ⟨_, rfl⟩
     rw [← hrk] at CDW HRK hts
     have CNR := Lib.hid (fun w2 (h : TreeAt w2 g m) => near_any w2 g m h HOK.out HCL.out rk HRK 0)
     have CRN := Lib.hid (fun w2 (h : FirstAt w4.heap.size m w2 a3 n3) (hm : IsMesh w2 (.agg #[.slice none 0 0, .slice none 0 0, .slice ab n cb]) m) => rnear_any m w2 HOK.out rk HRK 0 none 0 0 none 0 0 ab n cb a3 n3 c3 _ hm h HCL.out)
     obtain ⟨res, hres⟩ : ∃ x, x = nearestF m rk 0 := ⟨_, rfl⟩
     rw [← hres] at CNR CRN hts
     obtain ⟨⟨ht, hi_, hu, hv⟩, co⟩ := res
     dsimp only at hts
     have HTS := Lib.hid hts
     obtain ⟨⟨oX, oY, oZ⟩, ⟨dX, dY, dZ⟩⟩ := rk
     dsimp only [rayV, hitV] at CNR CRN CDW
     have CNX := Lib.hid (fun w2 (h : TreeAt w2 g m) => (show Calls Tryz.prog 11 #[.pointer (some ⟨g, 0, none⟩), .agg #[.int .i64 oX, .int .i64 oY, .int .i64 oZ, .int .i64 dX, .int .i64 dY, .int .i64 dZ], .int .i64 0] w2 (VTo (.tuple #[.agg #[.int .i64 ht, .int .i64 hi_, .int .i64 hu, .int .i64 hv], .int .i64 (co : Int)]) w2) from CNR.out w2 h))
     have EQ := EQH ht hi_ hu hv
     have HB10 := Lib.hid (HB9.out.trans (hin.out.mono HB9.out.size))
     have H610 := Lib.hid (vec_step H69.out hin.out)
     have HT10 := Lib.hid (HT9.out.below hin.out)
     have HM10 := Lib.hid (HM9.out.below hin.out)
     have HF10 := Lib.hid (HF9.out.below hin.out)
     clear hin hjr hz hk hzb hx10 hrk hres hts HRK CNR i5
     go_wp2_with fail
     refine (CDW.out _).mono ?_
     rintro e y1 ⟨rfl, hb⟩
     have HB11 := Lib.hid (HB10.out.trans (hb.mono HB10.out.size))
     have HI11 := Lib.hid (HI10.out.trans (hb.mono HI10.out.size))
     have H611 := Lib.hid (vec_step H610.out hb)
     have HT11 := Lib.hid (HT10.out.below hb)
     have HM11 := Lib.hid (HM10.out.below hb)
     have HF11 := Lib.hid (HF10.out.below hb)
     clear HB10 HI10 H610 HT10 HM10 HF10
     clear hb d1 im
     go_wp2_with fail
     refine (CNX.out _ HT11.out).mono ?_
     rintro e y2 ⟨rfl, hb⟩
     have HB12 := Lib.hid (HB11.out.trans (hb.mono HB11.out.size))
     have HI12 := Lib.hid (HI11.out.trans (hb.mono HI11.out.size))
     have H612 := Lib.hid (vec_step H611.out hb)
     have HT12 := Lib.hid (HT11.out.below hb)
     have HM12 := Lib.hid (HM11.out.below hb)
     have HF12 := Lib.hid (HF11.out.below hb)
     clear HB11 HI11 H611 HT11 HM11 HF11
     clear hb CNX HT12
     go_upto_region 16 with (with_reducible refine store_hit rfl (.tmp 15) (.tmp 104) rfl rfl y2.heap.size ht hi_ hu hv rfl rfl _ (heap_alloc_new _ _) rfl ?_)
     have hx : Below y2.heap.size y2 ((y2.alloc (.cells #[.int .i64 0, .int .i64 0, .int .i64 0, .int .i64 0] 42)).setRow y2.heap.size #[.int .i64 ht, .int .i64 hi_, .int .i64 hu, .int .i64 hv]) := below_setRow (ext_alloc y2 (.cells #[.int .i64 0, .int .i64 0, .int .i64 0, .int .i64 0] 42)) (Nat.le_refl _) _
     have hn : ((y2.alloc (.cells #[.int .i64 0, .int .i64 0, .int .i64 0, .int .i64 0] 42)).setRow y2.heap.size #[.int .i64 ht, .int .i64 hi_, .int .i64 hu, .int .i64 hv]).heap[y2.heap.size]? = some (.cells #[.int .i64 ht, .int .i64 hi_, .int .i64 hu, .int .i64 hv] 42) := setRow_heap _ _ _ _ _ _ (heap_alloc_new _ _)
     obtain ⟨y3, hW⟩ : ∃ ww, ww = (y2.alloc (.cells #[.int .i64 0, .int .i64 0, .int .i64 0, .int .i64 0] 42)).setRow y2.heap.size #[.int .i64 ht, .int .i64 hi_, .int .i64 hu, .int .i64 hv] := ⟨_, rfl⟩
     rw [← hW] at hx hn ⊢
     have HB13 := Lib.hid (HB12.out.trans (hx.mono HB12.out.size))
     have HI13 := Lib.hid (HI12.out.trans (hx.mono HI12.out.size))
     have H613 := Lib.hid (vec_step H612.out hx)
     have HM13 := Lib.hid (HM12.out.below hx)
     have HF13 := Lib.hid (HF12.out.below hx)
     clear HB12 HI12 H612 HM12 HF12
     have HH := Lib.hid hn
     clear hx hn hW
     generalize y2.heap.size = gH at HH ⊢
     refine wp_region_free 216 [0, 1, 2, 3, 4, 5, 6, 7, 10] [⟨8, 17, #[.int .i64 0, .int .i64 0, .int .i64 0, .int .i64 0], 42, 9, 112, #[.int .i64 ht, .int .i64 hi_, .int .i64 hu, .int .i64 hv]⟩] (by kernel_rfl) rfl (by kernel_rfl) (by
      intro x hx
      simp only [List.mem_cons, List.not_mem_nil, or_false] at hx
      subst hx
      exact ⟨⟨_, rfl, ⟨⟨_, rfl, alloc_hitY⟩, rfl, rfl⟩⟩, _, rfl, ⟨⟨_, rfl, hit_size⟩, rfl, rfl, rfl, BvhY.row_one4 _ _ _ _⟩⟩) ?_
     refine Walk.step (A := ?Aa0) (o := ?oa0) ?ea0 ?wa0 107 ?da0 (by simp) ?ha0 ?na0
     case ea0 => simp only [List.getElem?_toArray, List.getElem?_cons_succ, List.getElem?_cons_zero]; exact rfl
     case wa0 => exact rfl
     case da0 => exact rfl
     case ha0 =>
      intro W9 hW9
      have z0 := fun d os => cell_regrown (cell_row (vec_step H613.out hW9) 0 _ rfl) d os
      have z1 := fun d os => cell_regrown (cell_row (vec_step H613.out hW9) 1 _ rfl) d os
      have z2 := fun d os => cell_regrown (cell_row (vec_step H613.out hW9) 2 _ rfl) d os
      have z3 := fun d os => cell_regrown (cell_row (vec_step H613.out hW9) 3 _ rfl) d os
      go_big_quiet_op
      exact rfl
     refine Walk.step (A := ?Aa1) (o := ?oa1) ?ea1 ?wa1 108 ?da1 (by simp) ?ha1 ?na1
     case ea1 => simp only [List.getElem?_toArray, List.getElem?_cons_succ, List.getElem?_cons_zero]; exact rfl
     case wa1 => exact rfl
     case da1 => exact rfl
     case ha1 =>
      intro W9 hW9
      go_big_quiet_op
      exact rfl
     refine Walk.step (A := ?Aa2) (o := ?oa2) ?ea2 ?wa2 109 ?da2 (by simp) ?ha2 ?na2
     case ea2 => simp only [List.getElem?_toArray, List.getElem?_cons_succ, List.getElem?_cons_zero]; exact rfl
     case wa2 => exact rfl
     case da2 => exact rfl
     case ha2 =>
      intro W9 hW9
      have im := IM.out
      go_big_quiet_op
      exact rfl
     refine Walk.step (A := ?Aa3) (o := ?oa3) ?ea3 ?wa3 110 ?da3 (by simp) ?ha3 ?na3
     case ea3 => simp only [List.getElem?_toArray, List.getElem?_cons_succ, List.getElem?_cons_zero]; exact rfl
     case wa3 => exact rfl
     case da3 => exact rfl
     case ha3 =>
      intro W9 hW9
      have Q9 := qb (P := Tryz.prog) (W := W9) (fun w2 hb => CDW.out w2)
      go_big_quiet_op
      apply Exists.intro
      refine ⟨fun _ => ?_, ?_⟩
      ·
       with_reducible exact Q9 _ _
      ·
       exact rfl
     refine Walk.step (A := ?Aa4) (o := ?oa4) ?ea4 ?wa4 111 ?da4 (by simp) ?ha4 ?na4
     case ea4 => simp only [List.getElem?_toArray, List.getElem?_cons_succ, List.getElem?_cons_zero]; exact rfl
     case wa4 => exact rfl
     case da4 => exact rfl
     case ha4 =>
      intro W9 hW9
      have Q9 := qb (P := Tryz.prog) (W := W9) (fun w2 hb => CRN.out w2 (HF13.out.below (hW9.trans (hb.mono hW9.size))) (HM13.out.below (hW9.trans (hb.mono hW9.size))))
      go_big_quiet_op
      apply Exists.intro
      refine ⟨fun _ => ?_, ?_⟩
      ·
       with_reducible exact Q9 _ _
      ·
       exact rfl
     refine Walk.step (A := ?Aa5) (o := ?oa5) ?ea5 ?wa5 106 ?da5 (by simp) ?ha5 ?na5
     case ea5 => simp only [List.getElem?_toArray, List.getElem?_cons_succ, List.getElem?_cons_zero]; exact rfl
     case wa5 => exact rfl
     case da5 => exact rfl
     case ha5 =>
      intro W9 hW9
      go_big_quiet_op
      exact rfl
     refine Walk.step (A := ?Aa6) (o := ?oa6) ?ea6 ?wa6 112 ?da6 (by simp) ?ha6 ?na6
     case ea6 => simp only [List.getElem?_toArray, List.getElem?_cons_succ, List.getElem?_cons_zero]; exact rfl
     case wa6 => exact rfl
     case da6 => exact rfl
     case ha6 =>
      intro W9 hW9
      go_big_quiet_op
      exact rfl
     refine Walk.step (A := ?Aa7) (o := ?oa7) ?ea7 ?wa7 113 ?da7 (by simp) ?ha7 ?na7
     case ea7 => simp only [List.getElem?_toArray, List.getElem?_cons_succ, List.getElem?_cons_zero]; exact rfl
     case wa7 => exact rfl
     case da7 => exact rfl
     case ha7 =>
      intro W9 hW9
      go_big_quiet_op
      exact rfl
     refine Walk.step (A := ?Aa8) (o := ?oa8) ?ea8 ?wa8 18 ?da8 (by simp) ?ha8 ?na8
     case ea8 => simp only [List.getElem?_toArray, List.getElem?_cons_succ, List.getElem?_cons_zero]; exact rfl
     case wa8 => exact rfl
     case da8 => exact rfl
     case ha8 =>
      intro W9 hW9
      go_big_quiet_op
      exact rfl
     refine ⟨?_, ?_⟩
     ·
      intro x hx
      simp only [List.mem_cons, List.not_mem_nil, or_false] at hx
      subst hx
      rfl
     intro G hG hne y4 hb hk9
     have k9 := hk9 _ (List.mem_cons_self ..)
     dsimp only at k9
     clear hG hne hk9
     simp only [lay, Act.put, List.setIfInBounds_toArray, List.set_cons_succ, List.set_cons_zero, ptr]
     generalize G 8 = gI at k9 ⊢
     clear G
     have HH4 := Lib.hid (vec_step HH.out hb)
     have HI := Lib.hid k9
     have HI14 := Lib.hid (HI13.out.trans (hb.mono HI13.out.size))
     clear k9 hb HH H613 HB13 HI13 HM13 HF13 CRN CDW IM
     have e0 := cell_row HH4.out 0 _ rfl
     have e1 := cell_row HH4.out 1 _ rfl
     have e2 := cell_row HH4.out 2 _ rfl
     have e3 := cell_row HH4.out 3 _ rfl
     have f0 := cell_row HI.out 0 _ rfl
     have f1 := cell_row HI.out 1 _ rfl
     have f2 := cell_row HI.out 2 _ rfl
     have f3 := cell_row HI.out 3 _ rfl
     have i5 := I5.out
     by_cases p1 : 0 ≤ z
     ·
      by_cases p2 : z < (n : Int)
      ·
       have p34 := HTS.out.1 ⟨p1, p2⟩
       have p3 := p34.1
       have p4 := p34.2
       have w1 : decide (0 ≤ z) = true := decide_eq_true p1
       have w2 : decide (z < (n : Int)) = true := decide_eq_true p2
       have w3 : decide (hi_ = z) = true := decide_eq_true p3
       have w3b : (hi_ == z) = true := beq_iff_eq.2 p3
       have w4 : decide (0 ≤ hi_) = true := decide_eq_true p4
       clear p1 p2 p34 p3 p4
       go_wp2_with fail
       go_roundg (n + 2 - (j + 1))
       case measure => exact HM2.out
       case rel => exact ⟨j + 1, z + 1, HK2.out.1, HK2.out.2, rfl, HI14⟩
      ·
       have p3 : ¬ hi_ = z := fun h => p2 (HTS.out.2 ⟨h, by rw [h]; exact p1⟩).2
       have w1 : decide (0 ≤ z) = true := decide_eq_true p1
       have w2 : decide (z < (n : Int)) = false := decide_eq_false p2
       have w3 : decide (hi_ = z) = false := decide_eq_false p3
       have w3b : (hi_ == z) = false := beq_eq_false_iff_ne.2 p3
       clear p1 p2 p3
       go_wp2_with fail
       go_roundg (n + 2 - (j + 1))
       case measure => exact HM2.out
       case rel => exact ⟨j + 1, z + 1, HK2.out.1, HK2.out.2, rfl, HI14⟩
     ·
      by_cases p3 : hi_ = z
      ·
       have p4 : ¬ 0 ≤ hi_ := by rw [p3]; exact p1
       have w1 : decide (0 ≤ z) = false := decide_eq_false p1
       have w3 : decide (hi_ = z) = true := decide_eq_true p3
       have w3b : (hi_ == z) = true := beq_iff_eq.2 p3
       have w4 : decide (0 ≤ hi_) = false := decide_eq_false p4
       clear p1 p3 p4
       go_wp2_with fail
       go_roundg (n + 2 - (j + 1))
       case measure => exact HM2.out
       case rel => exact ⟨j + 1, z + 1, HK2.out.1, HK2.out.2, rfl, HI14⟩
      ·
       have w1 : decide (0 ≤ z) = false := decide_eq_false p1
       have w3 : decide (hi_ = z) = false := decide_eq_false p3
       have w3b : (hi_ == z) = false := beq_eq_false_iff_ne.2 p3
       clear p1 p3
       go_wp2_with fail
       go_roundg (n + 2 - (j + 1))
       case measure => exact HM2.out
       case rel => exact ⟨j + 1, z + 1, HK2.out.1, HK2.out.2, rfl, HI14⟩
    ·
     have d1 : decide (z ≤ (n : Int)) = false := decide_eq_false hk
     have i9 := I9.out
     have HE := Lib.hid (HI9.out.trans (HI10.out.mono HI9.out.size))
     clear hin hjr hz hk
     go_wp2_with fail
     go_roundg (10 - (k + 1))
     case measure => exact HMS.out
     case rel => exact ⟨k + 1, HKR.out, by first | rfl | go_num, HE⟩
  ·
   have d1 : decide ((k : Int) < 10) = false := decide_eq_false (by omega)
   have d1b : decide (k < 10) = false := decide_eq_false hk
   subst hw1
   clear hkr hk HT1 HIN
   have hs0 := recs_row len4 51 w1 sameM.bs #[.int .i64 0, .int .i64 0, .int .i64 0, .int .i64 5, .int .i64 0, .int .i64 0, .int .i64 0, .int .i64 5, .int .i64 0, .int .i64 0, .int .i64 0, .int .i64 5, .int .i64 0, .int .i64 0, .int .i64 0, .int .i64 5, .int .i64 0, .int .i64 0, .int .i64 0, .int .i64 5] rfl (by decide)
   have hq := alloc2_1 w1 (.cells #[.int .i64 0, .int .i64 0, .int .i64 0, .int .i64 5, .int .i64 0, .int .i64 0, .int .i64 0, .int .i64 5, .int .i64 0, .int .i64 0, .int .i64 0, .int .i64 5, .int .i64 0, .int .i64 0, .int .i64 0, .int .i64 5, .int .i64 0, .int .i64 0, .int .i64 0, .int .i64 5] 51) (.cells #[.slice none 0 0, .slice none 0 0, .slice none 0 0] 31)
   have HQ := Lib.hid hq
   clear hq
   go_upto_region 21 with (with_reducible refine BvhI.store_mesh rfl (.tmp 19) (.tmp 148) rfl rfl (w1.heap.size + 1) (.slice none 0 0) (.slice none 0 0) (.slice (some ⟨w1.heap.size, 0, none⟩) 5 5) rfl rfl _ HQ.out rfl ⟨rfl, rfl, rfl⟩ ?_)
   have hx := below_setRow (ext_alloc (w1.alloc (.cells #[.int .i64 0, .int .i64 0, .int .i64 0, .int .i64 5, .int .i64 0, .int .i64 0, .int .i64 0, .int .i64 5, .int .i64 0, .int .i64 0, .int .i64 0, .int .i64 5, .int .i64 0, .int .i64 0, .int .i64 0, .int .i64 5, .int .i64 0, .int .i64 0, .int .i64 0, .int .i64 5] 51)) (.cells #[.slice none 0 0, .slice none 0 0, .slice none 0 0] 31)) (show (w1.alloc (.cells #[.int .i64 0, .int .i64 0, .int .i64 0, .int .i64 5, .int .i64 0, .int .i64 0, .int .i64 0, .int .i64 5, .int .i64 0, .int .i64 0, .int .i64 0, .int .i64 5, .int .i64 0, .int .i64 0, .int .i64 0, .int .i64 5, .int .i64 0, .int .i64 0, .int .i64 0, .int .i64 5] 51)).heap.size ≤ w1.heap.size + 1 by simp) #[.slice none 0 0, .slice none 0 0, .slice (some ⟨w1.heap.size, 0, none⟩) 5 5]
   have hn : (((w1.alloc (.cells #[.int .i64 0, .int .i64 0, .int .i64 0, .int .i64 5, .int .i64 0, .int .i64 0, .int .i64 0, .int .i64 5, .int .i64 0, .int .i64 0, .int .i64 0, .int .i64 5, .int .i64 0, .int .i64 0, .int .i64 0, .int .i64 5, .int .i64 0, .int .i64 0, .int .i64 0, .int .i64 5] 51)).alloc (.cells #[.slice none 0 0, .slice none 0 0, .slice none 0 0] 31)).setRow (w1.heap.size + 1) #[.slice none 0 0, .slice none 0 0, .slice (some ⟨w1.heap.size, 0, none⟩) 5 5]).heap[w1.heap.size + 1]? = some (.cells #[.slice none 0 0, .slice none 0 0, .slice (some ⟨w1.heap.size, 0, none⟩) 5 5] 31) := setRow_heap _ _ _ _ _ _ HQ.out
   have h1 := ext_alloc w1 (.cells #[.int .i64 0, .int .i64 0, .int .i64 0, .int .i64 5, .int .i64 0, .int .i64 0, .int .i64 0, .int .i64 5, .int .i64 0, .int .i64 0, .int .i64 0, .int .i64 5, .int .i64 0, .int .i64 0, .int .i64 0, .int .i64 5, .int .i64 0, .int .i64 0, .int .i64 0, .int .i64 5] 51)
   obtain ⟨x1, hW⟩ : ∃ ww, ww = ((w1.alloc (.cells #[.int .i64 0, .int .i64 0, .int .i64 0, .int .i64 5, .int .i64 0, .int .i64 0, .int .i64 0, .int .i64 5, .int .i64 0, .int .i64 0, .int .i64 0, .int .i64 5, .int .i64 0, .int .i64 0, .int .i64 0, .int .i64 5, .int .i64 0, .int .i64 0, .int .i64 0, .int .i64 5] 51)).alloc (.cells #[.slice none 0 0, .slice none 0 0, .slice none 0 0] 31)).setRow (w1.heap.size + 1) #[.slice none 0 0, .slice none 0 0, .slice (some ⟨w1.heap.size, 0, none⟩) 5 5] := ⟨_, rfl⟩
   rw [← hW] at hx hn ⊢
   have HMS := Lib.hid (show IsMesh x1 (.agg #[.slice none 0 0, .slice none 0 0, .slice (some ⟨w1.heap.size, 0, none⟩) 5 5]) sameM from ⟨⟨_, _, _, rfl, Recs.nil _, Recs.nil _, hs0.below hx (Nat.le_refl _)⟩⟩)
   have HX1 := Lib.hid (HB1.out.trans ((h1.trans (hx.mono h1.size)).mono HB1.out.size))
   have HN1 := Lib.hid hn
   clear hx hn h1 hW hs0 HQ HB1 d1 d1b
   generalize w1.heap.size + 1 = gS at HN1 ⊢
   obtain ⟨gB, hgB⟩ : ∃ x, x = w1.heap.size := ⟨_, rfl⟩
   rw [← hgB] at HMS HN1 ⊢
   clear hgB
   clear w1
   have HSK := Lib.hid (show cntM sameM ≤ 4096 by decide)
   have CBM := Lib.hid (build_made HMS.out same_ok same_check 100 same_steps)
   obtain ⟨ss, hss⟩ : ∃ x, x = stepsM sameM := ⟨_, rfl⟩
   rw [← hss] at CBM
   clear hss
   have s0 := cell_row HN1.out 0 _ rfl
   have s1 := cell_row HN1.out 1 _ rfl
   have s2 := cell_row HN1.out 2 _ rfl
   go_wp2_with fail
   refine CBM.out.mono ?_
   rintro e x2 ⟨gt, rfl, ht, hb⟩
   have HX2 := Lib.hid (HX1.out.trans (hb.mono HX1.out.size))
   have HTS := Lib.hid ht
   clear hb ht s0 s1 s2 HX1 HMS HN1 CBM
   have CDW := Lib.hid (fun w2 => down_any w2 0 (by decide))
   have HRK : (downR 0).ok := by unfold Ry.ok downR V3.ok In; decide
   have hh0 : (nearestF sameM (downR 0) 0).1.i = 0 := by rw [nearest_scan]; exact same_near
   obtain ⟨rk, hrk⟩ : ∃ r, r = downR 0 := ⟨_, rfl⟩
   rw [← hrk] at CDW HRK hh0
   have CNR := Lib.hid (fun w2 (h : TreeAt w2 gt sameM) => near_any w2 gt sameM h same_ok HSK.out rk HRK 0)
   obtain ⟨res, hres⟩ : ∃ x, x = nearestF sameM rk 0 := ⟨_, rfl⟩
   rw [← hres] at CNR hh0
   obtain ⟨⟨ht, hi_, hu, hv⟩, co⟩ := res
   dsimp only at hh0
   subst hh0
   obtain ⟨⟨oX, oY, oZ⟩, ⟨dX, dY, dZ⟩⟩ := rk
   dsimp only [rayV, hitV] at CNR CDW
   have CNX := Lib.hid (fun w2 (h : TreeAt w2 gt sameM) => (show Calls Tryz.prog 11 #[.pointer (some ⟨gt, 0, none⟩), .agg #[.int .i64 oX, .int .i64 oY, .int .i64 oZ, .int .i64 dX, .int .i64 dY, .int .i64 dZ], .int .i64 0] w2 (VTo (.tuple #[.agg #[.int .i64 ht, .int .i64 0, .int .i64 hu, .int .i64 hv], .int .i64 (co : Int)]) w2) from CNR.out w2 h))
   clear HRK hrk hres CNR
   go_wp2_with fail
   refine (CDW.out _).mono ?_
   rintro e x3 ⟨rfl, hb⟩
   have HX3 := Lib.hid (HX2.out.trans (hb.mono HX2.out.size))
   have HT3 := Lib.hid (HTS.out.below hb)
   clear hb HX2 HTS CDW
   go_wp2_with fail
   refine (CNX.out _ HT3.out).mono ?_
   rintro e x4 ⟨rfl, hb⟩
   have HX4 := Lib.hid (HX3.out.trans (hb.mono HX3.out.size))
   clear hb HX3 HT3 CNX
   go_upto_region 23 with (with_reducible refine store_hit rfl (.tmp 23) (.tmp 159) rfl rfl x4.heap.size ht 0 hu hv rfl rfl _ (heap_alloc_new _ _) rfl ?_)
   have hx : Below x4.heap.size x4 ((x4.alloc (.cells #[.int .i64 0, .int .i64 0, .int .i64 0, .int .i64 0] 42)).setRow x4.heap.size #[.int .i64 ht, .int .i64 0, .int .i64 hu, .int .i64 hv]) := below_setRow (ext_alloc x4 (.cells #[.int .i64 0, .int .i64 0, .int .i64 0, .int .i64 0] 42)) (Nat.le_refl _) _
   have hn : ((x4.alloc (.cells #[.int .i64 0, .int .i64 0, .int .i64 0, .int .i64 0] 42)).setRow x4.heap.size #[.int .i64 ht, .int .i64 0, .int .i64 hu, .int .i64 hv]).heap[x4.heap.size]? = some (.cells #[.int .i64 ht, .int .i64 0, .int .i64 hu, .int .i64 hv] 42) := setRow_heap _ _ _ _ _ _ (heap_alloc_new _ _)
   obtain ⟨x5, hW⟩ : ∃ ww, ww = (x4.alloc (.cells #[.int .i64 0, .int .i64 0, .int .i64 0, .int .i64 0] 42)).setRow x4.heap.size #[.int .i64 ht, .int .i64 0, .int .i64 hu, .int .i64 hv] := ⟨_, rfl⟩
   rw [← hW] at hx hn ⊢
   have HX5 := Lib.hid (HX4.out.trans (hx.mono HX4.out.size))
   have HH := Lib.hid hn
   clear hx hn hW HX4
   generalize x4.heap.size = gH at HH ⊢
   clear x4
   have h1 := ext_alloc x5 (.cells #[.int .i64 0, .int .i64 0, .int .i64 0] 52)
   have hs0 := recs_row len3 52 x5 wrongM.ts #[.int .i64 0, .int .i64 0, .int .i64 0] rfl (by decide)
   have CBW := Lib.hid (build_wrong (v := .agg #[.slice none 0 0, .slice (some ⟨x5.heap.size, 0, none⟩) 1 1, .slice none 0 0]) (m := wrongM) ⟨⟨_, _, _, rfl, Recs.nil _, hs0, Recs.nil _⟩⟩ wrong_ok (by rw [wrong_check]; decide) 100)
   rw [wrong_check] at CBW
   have HX6 := Lib.hid (HX5.out.trans (h1.mono HX5.out.size))
   have HH6 := Lib.hid (vec_step HH.out h1)
   clear h1 hs0 HX5 HH
   go_wp2_with fail
   refine CBW.out.mono ?_
   rintro e x7 ⟨rfl, hb⟩
   have HX7 := Lib.hid (HX6.out.trans (hb.mono HX6.out.size))
   have HH7 := Lib.hid (vec_step HH6.out hb)
   clear hb CBW HX6 HH6
   have CBN := Lib.hid (build_short (none_mesh x7) none_ok none_check (-1) (by rw [none_steps]; decide))
   go_wp2_with fail
   refine CBN.out.mono ?_
   rintro e x8 ⟨rfl, hb⟩
   have HX8 := Lib.hid (HX7.out.trans (hb.mono HX7.out.size))
   have HH8 := Lib.hid (vec_step HH7.out hb)
   clear hb CBN HX7 HH7
   have CRW := Lib.hid (show Calls Tryz.prog 6 #[.int .i64 4096] x8 (RowTo x8 4096) from row_any x8 4096 (by decide))
   unfold RowTo at CRW
   go_wp2_with fail
   refine CRW.out.mono ?_
   rintro e x9 ⟨ab, cb, rfl, hm2, hb⟩
   have HX9 := Lib.hid (HX8.out.trans (hb.mono HX8.out.size))
   have HH9 := Lib.hid (vec_step HH8.out hb)
   have CBB := Lib.hid (build_made hm2 (row_ok 4096 (by decide)) (row_check 4096 (by decide)) 1048576 (by have := row_steps 4096 (by decide); omega))
   have HDD := Lib.hid big_deep
   obtain ⟨mb, hmb⟩ : ∃ x, x = rowM 4096 := ⟨_, rfl⟩
   rw [← hmb] at CBB HDD
   obtain ⟨ss, hss⟩ : ∃ x, x = stepsM mb := ⟨_, rfl⟩
   rw [← hss] at CBB
   clear hb hm2 CRW HX8 HH8 hmb hss
   clear x8
   go_wp2_with fail
   refine CBB.out.mono ?_
   rintro e z1 ⟨gt2, rfl, ht2, hb⟩
   have HX10 := Lib.hid (HX9.out.trans (hb.mono HX9.out.size))
   have HH10 := Lib.hid (vec_step HH9.out hb)
   have CDP := Lib.hid (show Calls Tryz.prog 10 #[.pointer (some ⟨gt2, 0, none⟩)] z1 (fun e w' => e = .returned (.int .i64 12) ∧ z1 = w') by have h := tree_deep ht2; rw [HDD.out] at h; exact h)
   clear hb ht2 CBB HX9 HH9
   clear x9
   have e1 := cell_row HH10.out 1 _ rfl
   go_wp2_with fail
   refine CDP.out.mono ?_
   rintro e _ ⟨rfl, rfl⟩
   go_wp2_with fail
   refine (HAW.out _).mono ?_
   rintro e z2 ⟨rfl, hb⟩
   have HF := Lib.hid (HX10.out.trans (hb.mono HX10.out.size))
   clear hb e1
   go_wp2_with fail
   go_ret
   exact ⟨rfl, HF.out⟩
end Go.Proofs.YtdaokkgenfpmhaaGreat.BvhNb

