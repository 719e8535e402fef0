/- A greater least place finds nothing nearer; no shape is hit ahead of its box. Plain. -/
import Derived.Test.YtdaokkgenfpmhaaHitP
import Derived.Test.YtdaokkgenfpmhaaHitO
set_option linter.unusedVariables false
set_option linter.unusedSimpArgs false
namespace Go.Proofs.Ytdaokkgenfpmhaa.HitU
open Go FixM VecW VecV VecU MeshM MeshP HitM HitN HitV HitP HitO
theorem sq_pos (a : Int) : 0 ≤ mulF a a := by
  unfold mulF
  have h : 0 ≤ a * a := by
    rcases Int.le_total 0 a with h | h
    · exact Int.mul_nonneg h h
    · have := Int.mul_nonneg (show 0 ≤ -a by omega) (show 0 ≤ -a by omega)
      rwa [Int.neg_mul_neg] at this
  have h2 : 0 ≤ a * a / 4294967296 := Int.ediv_nonneg h (by decide)
  unfold clamp
  split <;> (try split) <;> omega
theorem add_pos {a b : Int} (ha : 0 ≤ a) (hb : 0 ≤ b) : 0 ≤ addF a b := by
  unfold addF clamp
  split <;> (try split) <;> omega
theorem ballA_pos (r : Ry) : 0 ≤ ballA r := add_pos (add_pos (sq_pos _) (sq_pos _)) (sq_pos _)
theorem ball_le {r : Ry} {b : B4} {p : Int × Int} (e : ballH r b = some p) : p.1 ≤ p.2 := by
  unfold ballH at e
  split at e
  · cases e
  · rename_i h
    cases e
    dsimp only
    unfold ballX ballY
    have h0 := ballA_pos r
    refine div_pos_mono (by omega) (clamp_mono ?_)
    have := sqrtF_in (ballW r b) (in_sub _ _).2
    omega
theorem pick_more {i near least more x y : Int} {h : Ht} (hx : x ≤ y) (hl : least ≤ more) (e : pickF i near more x y = some h) : ∃ h', pickF i near least x y = some h' ∧ h'.t ≤ h.t := by
  unfold pickF at *
  have hm : maxI x near ≤ maxI y near := by unfold maxI; split <;> split <;> omega
  by_cases c1 : 0 ≤ x ∧ more ≤ maxI x near
  · rw [if_pos c1] at e
    rw [if_pos ⟨c1.1, by omega⟩]
    cases e
    exact ⟨_, rfl, Int.le_refl _⟩
  · rw [if_neg c1] at e
    by_cases c2 : 0 ≤ y ∧ more ≤ maxI y near
    · rw [if_pos c2] at e
      cases e
      by_cases c3 : 0 ≤ x ∧ least ≤ maxI x near
      · rw [if_pos c3]; exact ⟨_, rfl, hm⟩
      · rw [if_neg c3, if_pos ⟨c2.1, by omega⟩]; exact ⟨_, rfl, Int.le_refl _⟩
    · rw [if_neg c2] at e; cases e
theorem shape_more {m : Msh} {i : Int} {r : Ry} {least more : Int} {h : Ht} (hl : least ≤ more) (e : shapeF m i r more = some h) : ∃ h', shapeF m i r least = some h' ∧ h'.t ≤ h.t := by
  unfold shapeF at *
  split at e
  · cases e
  rename_i h0
  rw [if_neg h0]
  split at e
  · rename_i h1
    rw [if_pos h1]
    unfold ballShapeF at *
    cases h1 : boxH r (boxF m i) with
    | none => rw [h1] at e; cases e
    | some near =>
      rw [h1, Option.bind_some] at e
      cases h2 : ballH r (ballAt m i) with
      | none => rw [h2] at e; cases e
      | some p =>
        rw [h2, Option.bind_some] at e
        rw [Option.bind_some, Option.bind_some]
        exact pick_more (ball_le h2) hl e
  · rename_i h1
    rw [if_neg h1]
    unfold triShapeF at *
    cases h2 : cornersF m i with
    | none => rw [h2] at e; cases e
    | some c =>
      rw [h2, Option.bind_some] at e
      rw [Option.bind_some]
      cases h3 : boxH r (boxF m i) with
      | none => rw [h3] at e; cases e
      | some near =>
        rw [h3, Option.bind_some] at e
        rw [Option.bind_some]
        cases h4 : triH r c.1 c.2.1 c.2.2 with
        | none => rw [h4] at e; cases e
        | some x =>
          rw [h4, Option.bind_some] at e
          rw [Option.bind_some]
          split at e
          · cases e
          · rename_i h5
            rw [if_neg (by omega)]
            cases e
            exact ⟨_, rfl, Int.le_refl _⟩
/-- a shape that is hit: its box is entered, no later -/
theorem shape_near {m : Msh} {i : Int} {r : Ry} {least : Int} {h : Ht} (e : shapeF m i r least = some h) : ∃ near, boxH r (boxF m i) = some near ∧ near ≤ h.t := by
  have hm : ∀ a b : Int, b ≤ maxI a b := by intro a b; unfold maxI; split <;> omega
  unfold shapeF at e
  split at e
  · cases e
  split at e
  · unfold ballShapeF at e
    cases h1 : boxH r (boxF m i) with
    | none => rw [h1] at e; cases e
    | some near =>
      rw [h1, Option.bind_some] at e
      cases h2 : ballH r (ballAt m i) with
      | none => rw [h2] at e; cases e
      | some p =>
        rw [h2, Option.bind_some] at e
        unfold pickF at e
        split at e
        · cases e; exact ⟨near, rfl, hm _ _⟩
        · split at e
          · cases e; exact ⟨near, rfl, hm _ _⟩
          · cases e
  · unfold triShapeF at e
    cases h0 : cornersF m i with
    | none => rw [h0] at e; cases e
    | some c =>
      rw [h0, Option.bind_some] at e
      cases h1 : boxH r (boxF m i) with
      | none => rw [h1] at e; cases e
      | some near =>
        rw [h1, Option.bind_some] at e
        cases h2 : triH r c.1 c.2.1 c.2.2 with
        | none => rw [h2] at e; cases e
        | some x =>
          rw [h2, Option.bind_some] at e
          split at e
          · cases e
          · cases e; exact ⟨near, rfl, hm _ _⟩
/-- the nearest with a greater least place -/
theorem far_told (m : Msh) (r : Ry) {least more : Int} (hl : least ≤ more) : (scanF m r more).i < 0 ∨ (0 ≤ (scanF m r least).i ∧ (scanF m r least).t ≤ (scanF m r more).t) := by
  rcases scanF_best m r more with ⟨e, h⟩ | ⟨k, pk, sk, h⟩
  · left; rw [e]; decide
  · right
    obtain ⟨h', e', l'⟩ := shape_more hl sk
    rcases scanF_best m r least with ⟨e2, h2⟩ | ⟨k2, pk2, sk2, h2⟩
    · have := h2 k pk; dsimp only at this; rw [e'] at this; cases this
    · have a := shape_in m r least k2 _ sk2
      have b := h2 k h' pk e'
      exact ⟨by omega, by omega⟩
theorem best_told (m : Msh) (r : Ry) (least : Int) : -1 ≤ (scanF m r least).i ∧ (scanF m r least).i < (m.ts.length : Int) + (m.bs.length : Int) := by
  rcases scanF_best m r least with ⟨e, h⟩ | ⟨k, pk, sk, h⟩
  · rw [e]; unfold htN; dsimp only; omega
  · have := shape_in m r least k _ sk; omega
/-- a shape that is not hit is not the nearest -/
theorem none_told (m : Msh) (r : Ry) (least : Int) (k : Nat) (hk : k < m.ts.length + m.bs.length) (e : shapeF m (k : Int) r least = none) : ¬ (k : Int) = (scanF m r least).i := by
  rcases scanF_best m r least with ⟨e, h⟩ | ⟨k2, pk, sk, h⟩
  · rw [e]; unfold htN; dsimp only; omega
  · have := shape_in m r least k2 _ sk
    intro e3
    have : k = k2 := by omega
    subst this
    dsimp only at sk
    rw [e] at sk; cases sk
/-- a shape that is hit is not ahead of the nearest -/
theorem some_told (m : Msh) (r : Ry) (least : Int) (k : Nat) (hk : k < m.ts.length + m.bs.length) {h : Ht} (e : shapeF m (k : Int) r least = some h) : h.i = (k : Int) ∧ 0 ≤ (scanF m r least).i ∧ ((scanF m r least).t < h.t ∨ (scanF m r least).t = h.t ∧ (scanF m r least).i ≤ (k : Int)) ∧ ((k : Int) = (scanF m r least).i → h = scanF m r least) ∧ least ≤ h.t := by
  refine ⟨shape_in m r least k h e, ?_⟩
  rcases scanF_best m r least with ⟨e2, h2⟩ | ⟨k2, pk2, sk2, h2⟩
  · have := h2 k hk; dsimp only at this; rw [e] at this; cases this
  · have a := shape_in m r least k2 _ sk2
    have b := h2 k h hk e
    refine ⟨by omega, by omega, fun e3 => ?_, (shape_i e).2.2.2⟩
    have : k = k2 := by omega
    subst this
    dsimp only at sk2
    rw [e] at sk2
    exact Option.some.inj sk2
end Go.Proofs.Ytdaokkgenfpmhaa.HitU
