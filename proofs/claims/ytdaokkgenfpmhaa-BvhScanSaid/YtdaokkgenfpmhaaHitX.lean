/- The walk of hit.Box. -/
import Derived.Test.YtdaokkgenfpmhaaHitB
import Derived.RegionTactic
import Derived.BigRegion
set_option linter.unusedVariables false
set_option linter.unusedSimpArgs false
namespace Go.Proofs.Ytdaokkgenfpmhaa.HitX
open Go.RowKit Go.Sort FixM Base Num FixW FixV FixU FixS FixO FixN FixK Qb Qt Qa Qf VecW VecV VecU VecR LightQ LightC MeshM MeshA MeshC MeshD MeshP HitM HitT
def sideOk (d : Int) (x : Option (Int × Int)) : Bool := match x with
  | none => false
  | some s => if d = 0 then true else decide (s.1 ≤ s.2)
/-- what the closure leaves -/
structure Sd (w w' : World) (g1 g2 : Nat) (s : Int × Int) : Prop where
  h1 : w'.heap[g1]? = some (.cells #[.int .i64 s.1] 2)
  h2 : w'.heap[g2]? = some (.cells #[.int .i64 s.2] 2)
  k : Keeps (fun j => j = g1 ∨ j = g2) w w'
theorem max2_at {x y n : Int} (h : n = maxI x y) (ts : Array TypeId) (t : TypeId) (w : World) : (Builtin.max_ ts t #[.int .i64 x, .int .i64 y]).run Try.prog w = .ok (.int .i64 n) w := by
  rw [h]; simp [Builtin.max_, Builtin.max2, maxI]
theorem min2_at {x y n : Int} (h : n = minI x y) (ts : Array TypeId) (t : TypeId) (w : World) : (Builtin.min_ ts t #[.int .i64 x, .int .i64 y]).run Try.prog w = .ok (.int .i64 n) w := by
  rw [h]; simp [Builtin.min_, Builtin.min2, minI]

set_option maxRecDepth 100000 in
set_option maxHeartbeats 8000000 in
theorem side_any (w : World) (g1 g2 : Nat) (n f o d lo hi : Int) (h1 : w.heap[g1]? = some (.cells #[.int .i64 n] 2)) (h2 : w.heap[g2]? = some (.cells #[.int .i64 f] 2)) (hne : g1 ≠ g2) (io : In o) (id' : In d) (il : In lo) (ih : In hi) :
    Calls Try.prog 32 #[.int .i64 o, .int .i64 d, .int .i64 lo, .int .i64 hi, .pointer (some ⟨g1, 0, none⟩), .pointer (some ⟨g2, 0, none⟩)] w (fun e w' => e = .returned (.bool (sideOk d (sideF o d lo hi (n, f)))) ∧ Sd w w' g1 g2 ((sideF o d lo hi (n, f)).getD (n, f))) := by
  by_cases hd : d = 0
  · have dd : decide (d = 0) = true := decide_eq_true hd
    have dd2 : (d == 0) = true := by simp [hd]
    have HS : sideF o d lo hi (n, f) = if lo ≤ o ∧ o ≤ hi then some (n, f) else none := by unfold sideF; rw [if_pos hd]
    have HK := Lib.hid (show Sd w w g1 g2 (n, f) from ⟨h1, h2, Keeps.refl _ _⟩)
    by_cases a1 : lo ≤ o
    · have da : decide (lo ≤ o) = true := decide_eq_true a1
      by_cases a2 : o ≤ hi
      · have db : decide (o ≤ hi) = true := decide_eq_true a2
        rw [HS, if_pos ⟨a1, a2⟩]
        have HE : sideOk d (some (n, f)) = true := if_pos hd
        rw [HE]
        clear HS HE h1 h2 a1 a2 hd io id' il ih
        go_enter Try.func32, Try.ntmps32
        go_wp2_with fail
        go_ret
        exact ⟨rfl, HK.out⟩
      · have db : decide (o ≤ hi) = false := decide_eq_false a2
        rw [HS, if_neg (fun h => a2 h.2)]
        clear HS h1 h2 a1 a2 hd io id' il ih
        go_enter Try.func32, Try.ntmps32
        go_wp2_with fail
        go_ret
        exact ⟨rfl, HK.out⟩
    · have da : decide (lo ≤ o) = false := decide_eq_false a1
      rw [HS, if_neg (fun h => a1 h.1)]
      clear HS h1 h2 a1 hd io id' il ih
      go_enter Try.func32, Try.ntmps32
      go_wp2_with fail
      go_ret
      exact ⟨rfl, HK.out⟩
  have dd : decide (d = 0) = false := decide_eq_false hd
  have dd2 : (d == 0) = false := by simp [hd]
  obtain ⟨a1, ha1⟩ : ∃ zz, zz = subF lo o := ⟨_, rfl⟩
  obtain ⟨a2, ha2⟩ : ∃ zz, zz = subF hi o := ⟨_, rfl⟩
  obtain ⟨x0, hx0⟩ : ∃ zz, zz = divF a1 d := ⟨_, rfl⟩
  obtain ⟨y0, hy0⟩ : ∃ zz, zz = divF a2 d := ⟨_, rfl⟩
  have ia1 : In a1 := by rw [ha1]; exact in_sub _ _
  have ia2 : In a2 := by rw [ha2]; exact in_sub _ _
  have C1 : Hid (∀ w, Calls Try.prog 34 #[.int .i64 lo, .int .i64 o] w (VTo (.int .i64 a1) w)) := Lib.hid (fun w => by have := same_below (sub_any lo o il.1 il.2 io.1 io.2 w); rw [← ha1] at this; exact this)
  have C2 : Hid (∀ w, Calls Try.prog 34 #[.int .i64 hi, .int .i64 o] w (VTo (.int .i64 a2) w)) := Lib.hid (fun w => by have := same_below (sub_any hi o ih.1 ih.2 io.1 io.2 w); rw [← ha2] at this; exact this)
  have C3 : Hid (∀ w, Calls Try.prog 33 #[.int .i64 a1, .int .i64 d] w (VTo (.int .i64 x0) w)) := Lib.hid (fun w => by have := drawn_below (div_any a1 d ia1.1 ia1.2 id'.1 id'.2 w); rw [← hx0] at this; exact this)
  have C4 : Hid (∀ w, Calls Try.prog 33 #[.int .i64 a2, .int .i64 d] w (VTo (.int .i64 y0) w)) := Lib.hid (fun w => by have := drawn_below (div_any a2 d ia2.1 ia2.2 id'.1 id'.2 w); rw [← hy0] at this; exact this)
  have HF : Hid (sideF o d lo hi (n, f) = some (maxI n (if d < 0 then y0 else x0), minI f (if d < 0 then x0 else y0))) := Lib.hid (by
    unfold sideF loF hiF
    rw [if_neg hd, ← ha1, ← ha2, ← hx0, ← hy0])
  have HD := Lib.hid hd
  clear ha1 ha2 hx0 hy0 ia1 ia2 io id' il ih hd
  have HG1_0 := Lib.hid h1
  have HB0 := Lib.hid h2
  have HN := Lib.hid hne
  clear h1 h2 hne
  by_cases hd0 : d < 0
  · have dn : decide (d < 0) = true := decide_eq_true hd0
    obtain ⟨n2, hn2⟩ : ∃ zz, zz = maxI n y0 := ⟨_, rfl⟩
    obtain ⟨f2, hf2⟩ : ∃ zz, zz = minI f x0 := ⟨_, rfl⟩
    have MX := max2_at hn2
    have MN := min2_at hf2
    have HR : sideF o d lo hi (n, f) = some (n2, f2) := by rw [HF.out, if_pos hd0, if_pos hd0, ← hn2, ← hf2]
    have HO : sideOk d (some (n2, f2)) = decide (n2 ≤ f2) := if_neg HD.out
    rw [HR, HO]
    clear hn2 hf2 HR HO HF HD hd0
    obtain ⟨rs, hrs⟩ : ∃ zz, zz = decide (n2 ≤ f2) := ⟨_, rfl⟩
    have dr : decide (n2 ≤ f2) = rs := hrs.symm
    rw [← hrs]
    clear hrs
    have HX0 := HG1_0
    have HY0 := HB0
    have HBW0 := Lib.hid (Below.refl w.heap.size w)
    clear HG1_0 HB0
    go_enter Try.func32, Try.ntmps32
    go_wp2_with fail
    refine (C1.out _).mono ?_
    rintro e y1 ⟨rfl, hb⟩
    have HX1 := Lib.hid (vec_step HX0.out hb)
    have HY1 := Lib.hid (vec_step HY0.out hb)
    have HBW1 := Lib.hid (HBW0.out.trans (hb.mono HBW0.out.size))
    clear HX0 HY0 HBW0 hb  C1
    go_wp2_with fail
    refine (C3.out _).mono ?_
    rintro e y2 ⟨rfl, hb⟩
    have HX2 := Lib.hid (vec_step HX1.out hb)
    have HY2 := Lib.hid (vec_step HY1.out hb)
    have HBW2 := Lib.hid (HBW1.out.trans (hb.mono HBW1.out.size))
    clear HX1 HY1 HBW1 hb  C3
    go_wp2_with fail
    refine (C2.out _).mono ?_
    rintro e y3 ⟨rfl, hb⟩
    have HX3 := Lib.hid (vec_step HX2.out hb)
    have HY3 := Lib.hid (vec_step HY2.out hb)
    have HBW3 := Lib.hid (HBW2.out.trans (hb.mono HBW2.out.size))
    clear HX2 HY2 HBW2 hb  C2
    go_wp2_with fail
    refine (C4.out _).mono ?_
    rintro e y4 ⟨rfl, hb⟩
    have HX4 := Lib.hid (vec_step HX3.out hb)
    have HY4 := Lib.hid (vec_step HY3.out hb)
    have HBW4 := Lib.hid (HBW3.out.trans (hb.mono HBW3.out.size))
    clear HX3 HY3 HBW3 hb  C4
    go_upto_region 6 with (fail)
    have c1 := cell_row HX4.out 0 (.int .i64 n) rfl
    have c2 := cell_row HY4.out 0 (.int .i64 f) rfl
    have t1 := frozen_of_row _ _ 0 _ _ HX4.out
    have t2 := frozen_of_row _ _ 0 _ _ HY4.out
    have ne := HN.out
    have ne2 : g2 ≠ g1 := Ne.symm HN.out
    go_region
    have e2 : ((y4.setCell ⟨g1, 0, none⟩ (.int .i64 n2)).setCell ⟨g2, 0, none⟩ (.int .i64 f2)).heap[g2]? = some (.cells #[.int .i64 f2] 2) := heap_setCell_same _ _ _ _ _ _ ((heap_setCell_other _ _ _ _ (show g2 ≠ g1 from ne2)).trans HY4.out)
    have e1 : ((y4.setCell ⟨g1, 0, none⟩ (.int .i64 n2)).setCell ⟨g2, 0, none⟩ (.int .i64 f2)).heap[g1]? = some (.cells #[.int .i64 n2] 2) := (heap_setCell_other _ _ _ _ (show g1 ≠ g2 from ne)).trans (heap_setCell_same _ _ _ _ _ _ HX4.out)
    have ek : Keeps (fun j => j = g1 ∨ j = g2) w ((y4.setCell ⟨g1, 0, none⟩ (.int .i64 n2)).setCell ⟨g2, 0, none⟩ (.int .i64 f2)) := ((Keeps.of_ext HBW4.out _).setCell g1 0 _ (.inl (.inl rfl))).setCell g2 0 _ (.inl (.inr rfl))
    have HS := Lib.hid (show Sd w ((y4.setCell ⟨g1, 0, none⟩ (.int .i64 n2)).setCell ⟨g2, 0, none⟩ (.int .i64 f2)).drew g1 g2 (n2, f2) from ⟨e1, e2, ⟨ek.os, ek.tape, ek.output, ek.size, ek.block⟩⟩)
    obtain ⟨W5, hW5⟩ : ∃ W, W = ((y4.setCell ⟨g1, 0, none⟩ (.int .i64 n2)).setCell ⟨g2, 0, none⟩ (.int .i64 f2)).drew := ⟨_, rfl⟩
    rw [← hW5] at HS ⊢
    clear hW5 e1 e2 ek c1 c2 t1 t2 ne ne2 MX MN
    have c1 := cell_row HS.out.h1 0 (.int .i64 n2) rfl
    have c2 := cell_row HS.out.h2 0 (.int .i64 f2) rfl
    go_wp2_with fail
    go_ret
    exact ⟨rfl, HS.out⟩
  · have dn : decide (d < 0) = false := decide_eq_false hd0
    obtain ⟨n2, hn2⟩ : ∃ zz, zz = maxI n x0 := ⟨_, rfl⟩
    obtain ⟨f2, hf2⟩ : ∃ zz, zz = minI f y0 := ⟨_, rfl⟩
    have MX := max2_at hn2
    have MN := min2_at hf2
    have HR : sideF o d lo hi (n, f) = some (n2, f2) := by rw [HF.out, if_neg hd0, if_neg hd0, ← hn2, ← hf2]
    have HO : sideOk d (some (n2, f2)) = decide (n2 ≤ f2) := if_neg HD.out
    rw [HR, HO]
    clear hn2 hf2 HR HO HF HD hd0
    obtain ⟨rs, hrs⟩ : ∃ zz, zz = decide (n2 ≤ f2) := ⟨_, rfl⟩
    have dr : decide (n2 ≤ f2) = rs := hrs.symm
    rw [← hrs]
    clear hrs
    have HX0 := HG1_0
    have HY0 := HB0
    have HBW0 := Lib.hid (Below.refl w.heap.size w)
    clear HG1_0 HB0
    go_enter Try.func32, Try.ntmps32
    go_wp2_with fail
    refine (C1.out _).mono ?_
    rintro e y5 ⟨rfl, hb⟩
    have HX1 := Lib.hid (vec_step HX0.out hb)
    have HY1 := Lib.hid (vec_step HY0.out hb)
    have HBW1 := Lib.hid (HBW0.out.trans (hb.mono HBW0.out.size))
    clear HX0 HY0 HBW0 hb  C1
    go_wp2_with fail
    refine (C3.out _).mono ?_
    rintro e y6 ⟨rfl, hb⟩
    have HX2 := Lib.hid (vec_step HX1.out hb)
    have HY2 := Lib.hid (vec_step HY1.out hb)
    have HBW2 := Lib.hid (HBW1.out.trans (hb.mono HBW1.out.size))
    clear HX1 HY1 HBW1 hb  C3
    go_wp2_with fail
    refine (C2.out _).mono ?_
    rintro e y7 ⟨rfl, hb⟩
    have HX3 := Lib.hid (vec_step HX2.out hb)
    have HY3 := Lib.hid (vec_step HY2.out hb)
    have HBW3 := Lib.hid (HBW2.out.trans (hb.mono HBW2.out.size))
    clear HX2 HY2 HBW2 hb  C2
    go_wp2_with fail
    refine (C4.out _).mono ?_
    rintro e y8 ⟨rfl, hb⟩
    have HX4 := Lib.hid (vec_step HX3.out hb)
    have HY4 := Lib.hid (vec_step HY3.out hb)
    have HBW4 := Lib.hid (HBW3.out.trans (hb.mono HBW3.out.size))
    clear HX3 HY3 HBW3 hb  C4
    go_upto_region 6 with (fail)
    have c1 := cell_row HX4.out 0 (.int .i64 n) rfl
    have c2 := cell_row HY4.out 0 (.int .i64 f) rfl
    have t1 := frozen_of_row _ _ 0 _ _ HX4.out
    have t2 := frozen_of_row _ _ 0 _ _ HY4.out
    have ne := HN.out
    have ne2 : g2 ≠ g1 := Ne.symm HN.out
    go_region
    have e2 : ((y8.setCell ⟨g1, 0, none⟩ (.int .i64 n2)).setCell ⟨g2, 0, none⟩ (.int .i64 f2)).heap[g2]? = some (.cells #[.int .i64 f2] 2) := heap_setCell_same _ _ _ _ _ _ ((heap_setCell_other _ _ _ _ (show g2 ≠ g1 from ne2)).trans HY4.out)
    have e1 : ((y8.setCell ⟨g1, 0, none⟩ (.int .i64 n2)).setCell ⟨g2, 0, none⟩ (.int .i64 f2)).heap[g1]? = some (.cells #[.int .i64 n2] 2) := (heap_setCell_other _ _ _ _ (show g1 ≠ g2 from ne)).trans (heap_setCell_same _ _ _ _ _ _ HX4.out)
    have ek : Keeps (fun j => j = g1 ∨ j = g2) w ((y8.setCell ⟨g1, 0, none⟩ (.int .i64 n2)).setCell ⟨g2, 0, none⟩ (.int .i64 f2)) := ((Keeps.of_ext HBW4.out _).setCell g1 0 _ (.inl (.inl rfl))).setCell g2 0 _ (.inl (.inr rfl))
    have HS := Lib.hid (show Sd w ((y8.setCell ⟨g1, 0, none⟩ (.int .i64 n2)).setCell ⟨g2, 0, none⟩ (.int .i64 f2)).drew g1 g2 (n2, f2) from ⟨e1, e2, ⟨ek.os, ek.tape, ek.output, ek.size, ek.block⟩⟩)
    obtain ⟨W5, hW5⟩ : ∃ W, W = ((y8.setCell ⟨g1, 0, none⟩ (.int .i64 n2)).setCell ⟨g2, 0, none⟩ (.int .i64 f2)).drew := ⟨_, rfl⟩
    rw [← hW5] at HS ⊢
    clear hW5 e1 e2 ek c1 c2 t1 t2 ne ne2 MX MN
    have c1 := cell_row HS.out.h1 0 (.int .i64 n2) rfl
    have c2 := cell_row HS.out.h2 0 (.int .i64 f2) rfl
    go_wp2_with fail
    go_ret
    exact ⟨rfl, HS.out⟩

theorem keep_cell {S : Nat → Prop} {w w' : World} {g : Nat} {o : Obj} (hk : Keeps S w w') (h : w.heap[g]? = some o) (hn : ¬ S g) : w'.heap[g]? = some o := (hk.block g (Base.lt_of_heap h) hn).trans h
theorem side_less {o d lo hi : Int} {s s' : Int × Int} (h : sideF o d lo hi s = some s') : s.1 ≤ s'.1 ∧ s'.2 ≤ s.2 := by
  unfold sideF at h
  split at h
  · split at h
    · cases h; exact ⟨Int.le_refl _, Int.le_refl _⟩
    · cases h
  · cases h
    unfold maxI minI
    dsimp only
    constructor <;> split <;> omega
theorem side_ok {o d lo hi : Int} {s s' : Int × Int} (hs : s.1 ≤ s.2) (h : sideF o d lo hi s = some s') : sideOk d (some s') = decide (s'.1 ≤ s'.2) := by
  unfold sideOk
  by_cases hd : d = 0
  · unfold sideF at h
    rw [if_pos hd] at h
    split at h
    · cases h
      dsimp only
      rw [if_pos hd, decide_eq_true hs]
    · cases h
  · dsimp only; rw [if_neg hd]
theorem al4 (w : World) (A B C D : Obj) : ((((w.alloc A).alloc B).alloc C).alloc D).heap[w.heap.size]? = some A ∧ ((((w.alloc A).alloc B).alloc C).alloc D).heap[w.heap.size + 1]? = some B ∧ ((((w.alloc A).alloc B).alloc C).alloc D).heap[w.heap.size + 1 + 1]? = some C ∧ ((((w.alloc A).alloc B).alloc C).alloc D).heap[w.heap.size + 1 + 1 + 1]? = some D ∧ Below w.heap.size w ((((w.alloc A).alloc B).alloc C).alloc D) := by
  have hb : ∀ (w : World) (o : Obj), Below w.heap.size w (w.alloc o) := fun w o => ext_alloc w o
  have s1 := MeshQ.al_size w A
  have s2 := MeshQ.al_size (w.alloc A) B
  have s3 := MeshQ.al_size ((w.alloc A).alloc B) C
  have h0 := heap_alloc_new w A
  have h1 := heap_alloc_new (w.alloc A) B
  have h2 := heap_alloc_new ((w.alloc A).alloc B) C
  have h3 := heap_alloc_new (((w.alloc A).alloc B).alloc C) D
  rw [s1] at h1
  rw [s2, s1] at h2
  rw [s3, s2, s1] at h3
  exact ⟨vec_step (vec_step (vec_step h0 (hb _ _)) (hb _ _)) (hb _ _), vec_step (vec_step h1 (hb _ _)) (hb _ _), vec_step h2 (hb _ _), h3,
    ((((hb w A).trans ((hb _ B).mono (hb w A).size)).trans ((hb _ C).mono (by rw [s2, s1]; omega))).trans ((hb _ D).mono (by rw [s3, s2, s1]; omega)))⟩
theorem box_steps (r : Ry) (b : Bx) : boxH r b =
    if sideOk r.d.x (sideF r.o.x r.d.x b.lo.x b.hi.x (0, MOST)) = true then
      (if sideOk r.d.y (sideF r.o.y r.d.y b.lo.y b.hi.y ((sideF r.o.x r.d.x b.lo.x b.hi.x (0, MOST)).getD (0, MOST))) = true then
        (if sideOk r.d.z (sideF r.o.z r.d.z b.lo.z b.hi.z ((sideF r.o.y r.d.y b.lo.y b.hi.y ((sideF r.o.x r.d.x b.lo.x b.hi.x (0, MOST)).getD (0, MOST))).getD ((sideF r.o.x r.d.x b.lo.x b.hi.x (0, MOST)).getD (0, MOST)))) = true then
          some ((sideF r.o.z r.d.z b.lo.z b.hi.z ((sideF r.o.y r.d.y b.lo.y b.hi.y ((sideF r.o.x r.d.x b.lo.x b.hi.x (0, MOST)).getD (0, MOST))).getD ((sideF r.o.x r.d.x b.lo.x b.hi.x (0, MOST)).getD (0, MOST)))).getD ((sideF r.o.y r.d.y b.lo.y b.hi.y ((sideF r.o.x r.d.x b.lo.x b.hi.x (0, MOST)).getD (0, MOST))).getD ((sideF r.o.x r.d.x b.lo.x b.hi.x (0, MOST)).getD (0, MOST)))).1
        else none) else none) else none := by
  unfold boxH
  have m0 : ((0, MOST) : Int × Int).1 ≤ ((0, MOST) : Int × Int).2 := by unfold MOST; decide
  cases h1 : sideF r.o.x r.d.x b.lo.x b.hi.x (0, MOST) with
  | none => simp [sideOk]
  | some s1 =>
    rw [side_ok m0 h1]
    simp only [Option.getD_some, Option.bind_some]
    by_cases o1 : s1.1 ≤ s1.2
    · rw [decide_eq_true o1, if_pos rfl]
      cases h2 : sideF r.o.y r.d.y b.lo.y b.hi.y s1 with
      | none => simp [sideOk]
      | some s2 =>
        rw [side_ok o1 h2]
        simp only [Option.getD_some, Option.bind_some]
        by_cases o2 : s2.1 ≤ s2.2
        · rw [decide_eq_true o2, if_pos rfl]
          cases h3 : sideF r.o.z r.d.z b.lo.z b.hi.z s2 with
          | none => simp [sideOk]
          | some s3 =>
            rw [side_ok o2 h3]
            simp only [Option.getD_some, Option.bind_some]
            by_cases o3 : s3.1 ≤ s3.2
            · rw [decide_eq_true o3, if_pos o3, if_pos rfl]
            · rw [decide_eq_false o3, if_neg o3]; rfl
        · rw [decide_eq_false o2]
          cases h3 : sideF r.o.z r.d.z b.lo.z b.hi.z s2 with
          | none => rfl
          | some s3 =>
            have := side_less h3
            simp only [Option.bind_some]
            rw [if_neg (by omega)]; rfl
    · rw [decide_eq_false o1]
      cases h2 : sideF r.o.y r.d.y b.lo.y b.hi.y s1 with
      | none => rfl
      | some s2 =>
        have l2 := side_less h2
        simp only [Option.bind_some]
        cases h3 : sideF r.o.z r.d.z b.lo.z b.hi.z s2 with
        | none => rfl
        | some s3 =>
          have := side_less h3
          simp only [Option.bind_some]
          rw [if_neg (by omega)]; rfl

set_option maxRecDepth 100000 in
set_option maxHeartbeats 16000000 in
theorem hbox_any (r : Ry) (b : Bx) (hr : r.ok) (hb : Bx.ok b) (w : World) : Calls Try.prog 14 #[rayV r, boxV b] w (VTo (boxR (boxH r b)) w) := by
  have HE := Lib.hid (box_steps r b)
  generalize boxH r b = res at HE ⊢
  obtain ⟨⟨oX, oY, oZ⟩, ⟨dX, dY, dZ⟩⟩ := r
  obtain ⟨⟨lX, lY, lZ⟩, ⟨hX, hY, hZ⟩⟩ := b
  dsimp only [rayV, boxV] at *
  obtain ⟨⟨iox, ioy, ioz⟩, idx, idy, idz⟩ := hr
  obtain ⟨⟨ilx, ily, ilz⟩, ihx, ihy, ihz⟩ := hb
  dsimp only at iox ioy ioz idx idy idz ilx ily ilz ihx ihy ihz
  have C1 := Lib.hid (fun w g1 g2 n f h1 h2 hne => side_any w g1 g2 n f oX dX lX hX h1 h2 hne iox idx ilx ihx)
  have C2 := Lib.hid (fun w g1 g2 n f h1 h2 hne => side_any w g1 g2 n f oY dY lY hY h1 h2 hne ioy idy ily ihy)
  have C3 := Lib.hid (fun w g1 g2 n f h1 h2 hne => side_any w g1 g2 n f oZ dZ lZ hZ h1 h2 hne ioz idz ilz ihz)
  clear iox ioy ioz idx idy idz ilx ily ilz ihx ihy ihz
  have E := enters Try.func32 (by kernel_rfl) rfl
  have hmf' := hmf
  have HM : Hid (MOST = 9223372036854775807) := Lib.hid rfl
  obtain ⟨hR, hA, hN, hF, hB0⟩ := al4 w (.cells #[.int .i64 oX, .int .i64 oY, .int .i64 oZ, .int .i64 dX, .int .i64 dY, .int .i64 dZ] 25) (.cells #[.int .i64 lX, .int .i64 lY, .int .i64 lZ, .int .i64 hX, .int .i64 hY, .int .i64 hZ] 56) (.cells #[.int .i64 0] 2) (.cells #[.int .i64 9223372036854775807] 2)
  obtain ⟨W, hW⟩ : ∃ W, W = (((w.alloc (.cells #[.int .i64 oX, .int .i64 oY, .int .i64 oZ, .int .i64 dX, .int .i64 dY, .int .i64 dZ] 25)).alloc (.cells #[.int .i64 lX, .int .i64 lY, .int .i64 lZ, .int .i64 hX, .int .i64 hY, .int .i64 hZ] 56)).alloc (.cells #[.int .i64 0] 2)).alloc (.cells #[.int .i64 9223372036854775807] 2) := ⟨_, rfl⟩
  rw [← hW] at hR hA hN hF hB0
  have HR0 := Lib.hid hR
  have HA0 := Lib.hid hA
  have HN0 := Lib.hid hN
  have HF0 := Lib.hid hF
  have HB0 := Lib.hid hB0
  have HWW := Lib.hid hW
  clear hR hA hN hF hB0 hW
  go_enter Try.func14, Try.ntmps14
  go_upto_region 3 with (fail)
  rw [← HWW.out]
  clear HWW
  rw [HM.out] at HE
  obtain ⟨sd1, hsd1⟩ : ∃ zz, zz = sideF oX dX lX hX (0, 9223372036854775807) := ⟨_, rfl⟩
  obtain ⟨k1, hk1⟩ : ∃ zz, zz = sideOk dX sd1 := ⟨_, rfl⟩
  obtain ⟨⟨n1, f1⟩, hs1⟩ : ∃ zz, zz = sd1.getD (0, 9223372036854775807) := ⟨_, rfl⟩
  obtain ⟨sd2, hsd2⟩ : ∃ zz, zz = sideF oY dY lY hY (n1, f1) := ⟨_, rfl⟩
  obtain ⟨k2, hk2⟩ : ∃ zz, zz = sideOk dY sd2 := ⟨_, rfl⟩
  obtain ⟨⟨n2, f2⟩, hs2⟩ : ∃ zz, zz = sd2.getD (n1, f1) := ⟨_, rfl⟩
  obtain ⟨sd3, hsd3⟩ : ∃ zz, zz = sideF oZ dZ lZ hZ (n2, f2) := ⟨_, rfl⟩
  obtain ⟨k3, hk3⟩ : ∃ zz, zz = sideOk dZ sd3 := ⟨_, rfl⟩
  obtain ⟨⟨n3, f3⟩, hs3⟩ : ∃ zz, zz = sd3.getD (n2, f2) := ⟨_, rfl⟩
  have HE2 : Hid (res = if k1 = true then (if k2 = true then (if k3 = true then some n3 else none) else none) else none) := Lib.hid (by rw [HE.out, ← hsd1, ← hk1, ← hs1, ← hsd2, ← hk2, ← hs2, ← hsd3, ← hk3, ← hs3])
  clear HE HM
  have D1 : Hid (∀ w g1 g2, w.heap[g1]? = some (.cells #[.int .i64 0] 2) → w.heap[g2]? = some (.cells #[.int .i64 9223372036854775807] 2) → g1 ≠ g2 → Calls Try.prog 32 #[.int .i64 oX, .int .i64 dX, .int .i64 lX, .int .i64 hX, .pointer (some ⟨g1, 0, none⟩), .pointer (some ⟨g2, 0, none⟩)] w (fun e w' => e = .returned (.bool k1) ∧ Sd w w' g1 g2 (n1, f1))) := Lib.hid (fun w g1 g2 h1 h2 hne => by have := C1.out w g1 g2 _ _ h1 h2 hne; rw [← hsd1, ← hk1, ← hs1] at this; exact this)
  have D2 : Hid (∀ w g1 g2, w.heap[g1]? = some (.cells #[.int .i64 n1] 2) → w.heap[g2]? = some (.cells #[.int .i64 f1] 2) → g1 ≠ g2 → Calls Try.prog 32 #[.int .i64 oY, .int .i64 dY, .int .i64 lY, .int .i64 hY, .pointer (some ⟨g1, 0, none⟩), .pointer (some ⟨g2, 0, none⟩)] w (fun e w' => e = .returned (.bool k2) ∧ Sd w w' g1 g2 (n2, f2))) := Lib.hid (fun w g1 g2 h1 h2 hne => by have := C2.out w g1 g2 _ _ h1 h2 hne; rw [← hsd2, ← hk2, ← hs2] at this; exact this)
  have D3 : Hid (∀ w g1 g2, w.heap[g1]? = some (.cells #[.int .i64 n2] 2) → w.heap[g2]? = some (.cells #[.int .i64 f2] 2) → g1 ≠ g2 → Calls Try.prog 32 #[.int .i64 oZ, .int .i64 dZ, .int .i64 lZ, .int .i64 hZ, .pointer (some ⟨g1, 0, none⟩), .pointer (some ⟨g2, 0, none⟩)] w (fun e w' => e = .returned (.bool k3) ∧ Sd w w' g1 g2 (n3, f3))) := Lib.hid (fun w g1 g2 h1 h2 hne => by have := C3.out w g1 g2 _ _ h1 h2 hne; rw [← hsd3, ← hk3, ← hs3] at this; exact this)
  clear hsd1 hk1 hs1 hsd2 hk2 hs2 hsd3 hk3 hs3 C1 C2 C3
  have c0 := cell_row HR0.out 0 _ rfl
  have c3 := cell_row HR0.out 3 _ rfl
  have b0 := cell_row HA0.out 0 _ rfl
  have b3 := cell_row HA0.out 3 _ rfl
  go_wp2_with fail
  clear c0 c3 b0 b3
  refine (D1.out _ _ _ HN0.out HF0.out (by omega)).mono ?_
  rintro e x1 ⟨rfl, hsd⟩
  have HR1 := Lib.hid (keep_cell hsd.k HR0.out (fun e => by omega))
  have HA1 := Lib.hid (keep_cell hsd.k HA0.out (fun e => by omega))
  have HN1 := Lib.hid hsd.h1
  have HF1 := Lib.hid hsd.h2
  have HB1 := Lib.hid (HB0.out.trans (hsd.k.below w.heap.size HB0.out.size (fun j hj => by omega)))
  clear hsd HR0 HA0 HN0 HF0 HB0 D1
  cases k1
  · have hres : res = none := by rw [HE2.out]; rfl
    subst hres
    go_wp2_with fail
    go_ret2
    exact ⟨rfl, HB1.out⟩
  · have c1 := cell_row HR1.out 1 _ rfl
    have c4 := cell_row HR1.out 4 _ rfl
    have b1 := cell_row HA1.out 1 _ rfl
    have b4 := cell_row HA1.out 4 _ rfl
    go_wp2_with fail
    clear c1 c4 b1 b4
    refine (D2.out _ _ _ HN1.out HF1.out (by omega)).mono ?_
    rintro e x2 ⟨rfl, hsd⟩
    have HR2 := Lib.hid (keep_cell hsd.k HR1.out (fun e => by omega))
    have HA2 := Lib.hid (keep_cell hsd.k HA1.out (fun e => by omega))
    have HN2 := Lib.hid hsd.h1
    have HF2 := Lib.hid hsd.h2
    have HB2 := Lib.hid (HB1.out.trans (hsd.k.below w.heap.size HB1.out.size (fun j hj => by omega)))
    clear hsd HR1 HA1 HN1 HF1 HB1 D2
    cases k2
    · have hres : res = none := by rw [HE2.out]; rfl
      subst hres
      go_wp2_with fail
      go_ret2
      exact ⟨rfl, HB2.out⟩
    · have c2 := cell_row HR2.out 2 _ rfl
      have c5 := cell_row HR2.out 5 _ rfl
      have b2 := cell_row HA2.out 2 _ rfl
      have b5 := cell_row HA2.out 5 _ rfl
      go_wp2_with fail
      clear c2 c5 b2 b5
      refine (D3.out _ _ _ HN2.out HF2.out (by omega)).mono ?_
      rintro e x3 ⟨rfl, hsd⟩
      have HR3 := Lib.hid (keep_cell hsd.k HR2.out (fun e => by omega))
      have HA3 := Lib.hid (keep_cell hsd.k HA2.out (fun e => by omega))
      have HN3 := Lib.hid hsd.h1
      have HF3 := Lib.hid hsd.h2
      have HB3 := Lib.hid (HB2.out.trans (hsd.k.below w.heap.size HB2.out.size (fun j hj => by omega)))
      clear hsd HR2 HA2 HN2 HF2 HB2 D3
      cases k3
      · have hres : res = none := by rw [HE2.out]; rfl
        subst hres
        go_wp2_with fail
        go_ret2
        exact ⟨rfl, HB3.out⟩
      · have hres : res = some n3 := by rw [HE2.out]; rfl
        subst hres
        have cn := cell_row HN3.out 0 (.int .i64 n3) rfl
        go_wp2_with fail
        go_ret2
        exact ⟨rfl, HB3.out⟩

end Go.Proofs.Ytdaokkgenfpmhaa.HitX
