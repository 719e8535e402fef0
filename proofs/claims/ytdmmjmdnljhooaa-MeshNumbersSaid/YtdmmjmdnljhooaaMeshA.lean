/- A mesh in the world; the small functions of Check. -/
import Derived.Test.YtdmmjmdnljhooaaMeshM
import Derived.Test.YtdmmjmdnljhooaaRec
set_option linter.unusedVariables false
set_option linter.unusedSimpArgs false
namespace Go.Proofs.Ytdmmjmdnljhooaa.MeshA
open Go.RowKit Go.Sort FixM Base Num Qb Qt VecW VecV VecU LightQ LightC MeshM Rec

def enc3 (v : V3) : List Value := [.int .i64 v.x, .int .i64 v.y, .int .i64 v.z]
def enc4 (b : B4) : List Value := [.int .i64 b.c.x, .int .i64 b.c.y, .int .i64 b.c.z, .int .i64 b.r]
theorem len3 (v : V3) : (enc3 v).length = 3 := rfl
theorem len4 (b : B4) : (enc4 b).length = 4 := rfl
theorem one3 (v : V3) : ∀ u ∈ enc3 v, u.oneCell' = true := by intro u hu; simp [enc3] at hu; rcases hu with rfl | rfl | rfl <;> rfl
theorem one4 (v : B4) : ∀ u ∈ enc4 v, u.oneCell' = true := by intro u hu; simp [enc4] at hu; rcases hu with rfl | rfl | rfl | rfl <;> rfl
theorem at3 {w : World} {a : Option Addr} {n cap : Nat} {l : List V3} (h : Recs 3 enc3 w (.slice a n cap) l) (i : Nat) (hi : i < l.length) :
    ∃ b off, a = some ⟨b, off, none⟩ ∧ b < w.heap.size ∧ w.cell? ⟨b, off + i * 3, none⟩ = some (.int .i64 l[i].x) ∧ w.cell? ⟨b, off + i * 3 + 1, none⟩ = some (.int .i64 l[i].y) ∧ w.cell? ⟨b, off + i * 3 + 2, none⟩ = some (.int .i64 l[i].z) := by
  obtain ⟨a', cap', e, _, hc⟩ := h.open_
  simp only [Value.slice.injEq] at e
  obtain ⟨rfl, _, _⟩ := e
  obtain ⟨b, off, rfl, hb, hx⟩ := hc i hi
  exact ⟨b, off, rfl, hb, hx i hi 0 _ rfl, hx i hi 1 _ rfl, hx i hi 2 _ rfl⟩
theorem at4 {w : World} {a : Option Addr} {n cap : Nat} {l : List B4} (h : Recs 4 enc4 w (.slice a n cap) l) (i : Nat) (hi : i < l.length) :
    ∃ b off, a = some ⟨b, off, none⟩ ∧ b < w.heap.size ∧ w.cell? ⟨b, off + i * 4, none⟩ = some (.int .i64 l[i].c.x) ∧ w.cell? ⟨b, off + i * 4 + 1, none⟩ = some (.int .i64 l[i].c.y) ∧ w.cell? ⟨b, off + i * 4 + 2, none⟩ = some (.int .i64 l[i].c.z) ∧ w.cell? ⟨b, off + i * 4 + 3, none⟩ = some (.int .i64 l[i].r) := by
  obtain ⟨a', cap', e, _, hc⟩ := h.open_
  simp only [Value.slice.injEq] at e
  obtain ⟨rfl, _, _⟩ := e
  obtain ⟨b, off, rfl, hb, hx⟩ := hc i hi
  exact ⟨b, off, rfl, hb, hx i hi 0 _ rfl, hx i hi 1 _ rfl, hx i hi 2 _ rfl, hx i hi 3 _ rfl⟩
/-- a mesh that lies in the world -/
structure IsMesh (w : World) (v : Value) (m : Msh) : Prop where
  ex : ∃ v0 v1 v2, v = .agg #[v0, v1, v2] ∧ Recs 3 enc3 w v0 m.ps ∧ Recs 3 enc3 w v1 m.ts ∧ Recs 4 enc4 w v2 m.bs
theorem IsMesh.below {w w' : World} {v : Value} {m : Msh} (h : IsMesh w v m) (hb : Below w.heap.size w w') : IsMesh w' v m := by
  obtain ⟨v0, v1, v2, e, h0, h1, h2⟩ := h.ex
  exact ⟨⟨v0, v1, v2, e, h0.below hb (Nat.le_refl _), h1.below hb (Nat.le_refl _), h2.below hb (Nat.le_refl _)⟩⟩
theorem IsMesh.open_ {w : World} {v : Value} {m : Msh} (h : IsMesh w v m) : ∃ a0 c0 a1 c1 a2 c2, v = .agg #[.slice a0 m.ps.length c0, .slice a1 m.ts.length c1, .slice a2 m.bs.length c2] ∧ Recs 3 enc3 w (.slice a0 m.ps.length c0) m.ps ∧ Recs 3 enc3 w (.slice a1 m.ts.length c1) m.ts ∧ Recs 4 enc4 w (.slice a2 m.bs.length c2) m.bs ∧ m.ps.length ≤ 9223372036854775807 ∧ m.ts.length ≤ 9223372036854775807 ∧ m.bs.length ≤ 9223372036854775807 := by
  obtain ⟨v0, v1, v2, e, h0, h1, h2⟩ := h.ex
  obtain ⟨a0, c0, rfl, l0, _⟩ := h0.open_
  obtain ⟨a1, c1, rfl, l1, _⟩ := h1.open_
  obtain ⟨a2, c2, rfl, l2, _⟩ := h2.open_
  exact ⟨a0, c0, a1, c1, a2, c2, e, h0, h1, h2, l0, l1, l2⟩
theorem cell_row {W : World} {g : Nat} {T : TypeId} {row : Array Value} (h : W.heap[g]? = some (.cells row T)) (k : Nat) (v : Value) (hv : row[k]? = some v) : W.cell? ⟨g, k, none⟩ = some v := by
  rw [cell_of_row W g k _ _ _ h]; exact hv

set_option maxRecDepth 100000 in
theorem near1_any (x : Int) (w : World) : Calls Try.prog 47 #[.int .i64 x] w (fun e w' => e = .returned (.bool (nearI x)) ∧ w = w') := by
  unfold nearI
  by_cases h1 : -4503599627370496 ≤ x
  · by_cases h2 : x ≤ 4503599627370496
    · have d1 : decide (-4503599627370496 ≤ x) = true := decide_eq_true h1
      have d2 : decide (x ≤ 4503599627370496) = true := decide_eq_true h2
      rw [d1, d2]
      clear h1 h2
      go_enter Try.func47, Try.ntmps47
      go_wp2_with fail
      go_ret
      exact ⟨rfl, rfl⟩
    · have d1 : decide (-4503599627370496 ≤ x) = true := decide_eq_true h1
      have d2 : decide (x ≤ 4503599627370496) = false := decide_eq_false h2
      rw [d1, d2]
      clear h1 h2
      go_enter Try.func47, Try.ntmps47
      go_wp2_with fail
      go_ret
      exact ⟨rfl, rfl⟩
  · have d1 : decide (-4503599627370496 ≤ x) = false := decide_eq_false h1
    rw [d1]
    clear h1
    go_enter Try.func47, Try.ntmps47
    go_wp2_with fail
    go_ret
    exact ⟨rfl, rfl⟩
set_option maxRecDepth 100000 in
theorem near_any (v : V3) (w : World) : Calls Try.prog 27 #[vecV v] w (VTo (.bool (nearV v)) w) := by
  obtain ⟨x, y, z⟩ := v
  have E := enters Try.func47 (by kernel_rfl) rfl
  have C := Lib.hid near1_any
  have HB := Lib.hid (ext_alloc w (box3 ⟨x, y, z⟩))
  unfold nearV
  obtain ⟨a, ha⟩ : ∃ a, a = nearI x := ⟨_, rfl⟩
  obtain ⟨b, hb⟩ : ∃ a, a = nearI y := ⟨_, rfl⟩
  obtain ⟨c, hc⟩ : ∃ a, a = nearI z := ⟨_, rfl⟩
  rw [← ha, ← hb, ← hc]
  have HA := Lib.hid ha
  have HBB := Lib.hid hb
  have HC := Lib.hid hc
  clear ha hb hc
  go_enter Try.func27, Try.ntmps27
  go_wp2_with fail
  refine (C.out _ _).mono ?_
  rintro e w1 ⟨rfl, rfl⟩
  rw [← HA.out]
  cases a
  · go_wp2_with fail
    go_ret
    exact ⟨rfl, HB.out⟩
  · go_wp2_with fail
    refine (C.out _ _).mono ?_
    rintro e w1 ⟨rfl, rfl⟩
    rw [← HBB.out]
    cases b
    · go_wp2_with fail
      go_ret
      exact ⟨rfl, HB.out⟩
    · go_wp2_with fail
      refine (C.out _ _).mono ?_
      rintro e w1 ⟨rfl, rfl⟩
      rw [← HC.out]
      go_wp2_with fail
      go_ret
      exact ⟨by cases c <;> rfl, HB.out⟩
end Go.Proofs.Ytdmmjmdnljhooaa.MeshA
