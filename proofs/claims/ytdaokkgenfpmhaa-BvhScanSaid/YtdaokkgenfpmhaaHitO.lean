/- A ray that enters a box enters each box around it, no later: plain. -/
import Derived.Test.YtdaokkgenfpmhaaHitX
set_option linter.unusedVariables false
set_option linter.unusedSimpArgs false
namespace Go.Proofs.Ytdaokkgenfpmhaa.HitO
open Go FixM VecW VecV VecU MeshM MeshP HitM
theorem sub_le {a b c d : Int} (h1 : a ≤ b) (h2 : d ≤ c) : subF a c ≤ subF b d := clamp_mono (by omega)
theorem div_pos_mono {a b d : Int} (hd : 0 < d) (h : a ≤ b) : divF a d ≤ divF b d := by
  have h0 : ¬ d = 0 := by omega
  unfold divF
  rw [if_neg h0, if_neg h0, if_pos hd, if_pos hd]
  exact clamp_mono (Int.ediv_le_ediv hd (by omega))
theorem div_neg_mono {a b d : Int} (hd : d < 0) (h : a ≤ b) : divF b d ≤ divF a d := by
  have h0 : ¬ d = 0 := by omega
  have h1 : ¬ 0 < d := by omega
  unfold divF
  rw [if_neg h0, if_neg h0, if_neg h1, if_neg h1]
  exact clamp_mono (Int.ediv_le_ediv (by omega) (by omega))
theorem lo_mono {o d lo hi lo' hi' : Int} (hd : d ≠ 0) (h1 : lo' ≤ lo) (h2 : hi ≤ hi') : loF o d lo' hi' ≤ loF o d lo hi := by
  unfold loF
  by_cases h : d < 0
  · rw [if_pos h, if_pos h]; exact div_neg_mono h (sub_le h2 (Int.le_refl _))
  · rw [if_neg h, if_neg h]; exact div_pos_mono (by omega) (sub_le h1 (Int.le_refl _))
theorem hi_mono {o d lo hi lo' hi' : Int} (hd : d ≠ 0) (h1 : lo' ≤ lo) (h2 : hi ≤ hi') : hiF o d lo hi ≤ hiF o d lo' hi' := by
  unfold hiF
  by_cases h : d < 0
  · rw [if_pos h, if_pos h]; exact div_neg_mono h (sub_le h1 (Int.le_refl _))
  · rw [if_neg h, if_neg h]; exact div_pos_mono (by omega) (sub_le h2 (Int.le_refl _))
theorem side_mono {o d lo hi lo' hi' : Int} {s s' q : Int × Int} (h1 : lo' ≤ lo) (h2 : hi ≤ hi') (hs : s'.1 ≤ s.1 ∧ s.2 ≤ s'.2) (h : sideF o d lo hi s = some q) : ∃ q', sideF o d lo' hi' s' = some q' ∧ q'.1 ≤ q.1 ∧ q.2 ≤ q'.2 := by
  unfold sideF at *
  by_cases hd : d = 0
  · rw [if_pos hd] at h ⊢
    by_cases hh : lo ≤ o ∧ o ≤ hi
    · rw [if_pos hh] at h
      rw [if_pos ⟨by omega, by omega⟩]
      cases h
      exact ⟨s', rfl, hs⟩
    · rw [if_neg hh] at h; cases h
  · rw [if_neg hd] at h ⊢
    cases h
    refine ⟨_, rfl, ?_, ?_⟩
    · have := lo_mono (o := o) hd h1 h2
      have e := hs.1
      dsimp only
      unfold maxI
      split <;> split <;> omega
    · have := hi_mono (o := o) hd h1 h2
      have e := hs.2
      dsimp only
      unfold minI
      split <;> split <;> omega
/-- a box around one -/
def Bx.le (b b' : Bx) : Prop := (b'.lo.x ≤ b.lo.x ∧ b'.lo.y ≤ b.lo.y ∧ b'.lo.z ≤ b.lo.z) ∧ (b.hi.x ≤ b'.hi.x ∧ b.hi.y ≤ b'.hi.y ∧ b.hi.z ≤ b'.hi.z)
theorem box_mono {r : Ry} {b b' : Bx} {t : Int} (h : Bx.le b b') (e : boxH r b = some t) : ∃ u, boxH r b' = some u ∧ u ≤ t := by
  unfold boxH at *
  cases h1 : sideF r.o.x r.d.x b.lo.x b.hi.x (0, MOST) with
  | none => rw [h1] at e; cases e
  | some s1 =>
    obtain ⟨s1', k1, l1⟩ := side_mono h.1.1 h.2.1 (s' := (0, MOST)) ⟨Int.le_refl _, Int.le_refl _⟩ h1
    rw [h1, Option.bind_some] at e
    rw [k1, Option.bind_some]
    cases h2 : sideF r.o.y r.d.y b.lo.y b.hi.y s1 with
    | none => rw [h2] at e; cases e
    | some s2 =>
      obtain ⟨s2', k2, l2⟩ := side_mono h.1.2.1 h.2.2.1 l1 h2
      rw [h2, Option.bind_some] at e
      rw [k2, Option.bind_some]
      cases h3 : sideF r.o.z r.d.z b.lo.z b.hi.z s2 with
      | none => rw [h3] at e; cases e
      | some s3 =>
        obtain ⟨s3', k3, l3⟩ := side_mono h.1.2.2 h.2.2.2 l2 h3
        rw [h3, Option.bind_some] at e
        rw [k3, Option.bind_some]
        split at e
        · cases e
          rw [if_pos (by omega)]
          exact ⟨_, rfl, l3.1⟩
        · cases e
theorem box_least {r : Ry} {b : Bx} {t : Int} (e : boxH r b = some t) : 0 ≤ t := by
  unfold boxH at e
  cases h1 : sideF r.o.x r.d.x b.lo.x b.hi.x (0, MOST) with
  | none => rw [h1] at e; cases e
  | some s1 =>
    have l1 := HitX.side_less h1
    rw [h1, Option.bind_some] at e
    cases h2 : sideF r.o.y r.d.y b.lo.y b.hi.y s1 with
    | none => rw [h2] at e; cases e
    | some s2 =>
      have l2 := HitX.side_less h2
      rw [h2, Option.bind_some] at e
      cases h3 : sideF r.o.z r.d.z b.lo.z b.hi.z s2 with
      | none => rw [h3] at e; cases e
      | some s3 =>
        have l3 := HitX.side_less h3
        rw [h3, Option.bind_some] at e
        split at e
        · cases e; dsimp only at l1; omega
        · cases e
def aroundF (b : Bx) (p : V3) : Bx := ⟨⟨minI b.lo.x p.x, minI b.lo.y p.y, minI b.lo.z p.z⟩, ⟨maxI b.hi.x p.x, maxI b.hi.y p.y, maxI b.hi.z p.z⟩⟩
theorem around_le (b : Bx) (p : V3) : Bx.le b (aroundF b p) := by
  unfold Bx.le aroundF minI maxI
  dsimp only
  refine ⟨⟨?_, ?_, ?_⟩, ?_, ?_, ?_⟩ <;> split <;> omega
theorem around_ok {b : Bx} {p : V3} (hb : HitM.Bx.ok b) (hp : p.ok) : HitM.Bx.ok (aroundF b p) := by
  obtain ⟨⟨lx, ly, lz⟩, ⟨hx, hy, hz⟩⟩ := b
  obtain ⟨px, py, pz⟩ := p
  simp only [HitM.Bx.ok, V3.ok, In, aroundF, minI, maxI] at *
  refine ⟨⟨?_, ?_, ?_⟩, ?_, ?_, ?_⟩ <;> split <;> omega
end Go.Proofs.Ytdaokkgenfpmhaa.HitO
