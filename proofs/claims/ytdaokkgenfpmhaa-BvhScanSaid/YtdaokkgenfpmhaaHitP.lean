/- The nearest of all, by what it is: both ways of going through the shapes find it. Plain. -/
import Derived.Test.YtdaokkgenfpmhaaHitV
set_option linter.unusedVariables false
set_option linter.unusedSimpArgs false
namespace Go.Proofs.Ytdaokkgenfpmhaa.HitP
open Go FixM VecW VecV VecU MeshM MeshP HitM HitN HitV
/-- b is the nearest hit of the shapes in P, of the same the first -/
def Best (S : Nat → Option Ht) (P : Nat → Prop) (b : Ht) : Prop :=
  (b = htN ∧ ∀ k, P k → S k = none) ∨ (∃ k, P k ∧ S k = some b ∧ ∀ k' h', P k' → S k' = some h' → b.t < h'.t ∨ (b.t = h'.t ∧ k ≤ k'))
theorem best_unique {S : Nat → Option Ht} {P : Nat → Prop} {b c : Ht} (hb : Best S P b) (hc : Best S P c) : b = c := by
  rcases hb with ⟨e, h⟩ | ⟨k, pk, sk, h⟩
  · rcases hc with ⟨e2, h2⟩ | ⟨k2, pk2, sk2, h2⟩
    · rw [e, e2]
    · rw [h k2 pk2] at sk2; cases sk2
  · rcases hc with ⟨e2, h2⟩ | ⟨k2, pk2, sk2, h2⟩
    · rw [h2 k pk] at sk; cases sk
    · have a := h k2 c pk2 sk2
      have b' := h2 k b pk sk
      have : k = k2 := by omega
      subst this
      rw [sk] at sk2
      exact Option.some.inj sk2
theorem best_none (S : Nat → Option Ht) : Best S (fun _ => False) htN := .inl ⟨rfl, fun _ h => h.elim⟩
/-- one more behind all of P, taken only if nearer -/
theorem best_up {S : Nat → Option Ht} {P : Nat → Prop} {b : Ht} {n : Nat} (hi : ∀ k h, S k = some h → h.i = (k : Int)) (hb : Best S P b) (hP : ∀ k, P k → k < n) :
    Best S (fun k => P k ∨ k = n) (match S n with | none => b | some h => if b.i < 0 ∨ h.t < b.t then h else b) := by
  cases hs : S n with
  | none =>
    dsimp only
    rcases hb with ⟨e, h⟩ | ⟨k, pk, sk, h⟩
    · exact .inl ⟨e, fun k hk => hk.elim (h k) (fun e => e ▸ hs)⟩
    · exact .inr ⟨k, .inl pk, sk, fun k' h' hp hq => hp.elim (fun p => h k' h' p hq) (fun e => by rw [e, hs] at hq; cases hq)⟩
  | some x =>
    dsimp only
    rcases hb with ⟨e, h⟩ | ⟨k, pk, sk, h⟩
    · have : b.i < 0 := by rw [e]; decide
      rw [if_pos (.inl this)]
      refine .inr ⟨n, .inr rfl, hs, fun k' h' hp hq => ?_⟩
      rcases hp with p | e2
      · rw [h k' p] at hq; cases hq
      · subst e2; rw [hs] at hq; cases hq; exact .inr ⟨rfl, Nat.le_refl _⟩
    · have bi := hi k b sk
      have kn := hP k pk
      by_cases ht : x.t < b.t
      · rw [if_pos (.inr ht)]
        refine .inr ⟨n, .inr rfl, hs, fun k' h' hp hq => ?_⟩
        rcases hp with p | e2
        · have := h k' h' p hq; exact .inl (by omega)
        · subst e2; rw [hs] at hq; cases hq; exact .inr ⟨rfl, Nat.le_refl _⟩
      · rw [if_neg (by omega)]
        refine .inr ⟨k, .inl pk, sk, fun k' h' hp hq => ?_⟩
        rcases hp with p | e2
        · exact h k' h' p hq
        · subst e2; rw [hs] at hq; cases hq; omega
/-- one more ahead of all of P, taken if no farther -/
theorem best_down {S : Nat → Option Ht} {P : Nat → Prop} {b : Ht} {n : Nat} (hi : ∀ k h, S k = some h → h.i = (k : Int)) (hb : Best S P b) (hP : ∀ k, P k → n < k) :
    Best S (fun k => P k ∨ k = n) (match S n with | none => b | some h => if b.i < 0 ∨ h.t ≤ b.t then h else b) := by
  cases hs : S n with
  | none =>
    dsimp only
    rcases hb with ⟨e, h⟩ | ⟨k, pk, sk, h⟩
    · exact .inl ⟨e, fun k hk => hk.elim (h k) (fun e => e ▸ hs)⟩
    · exact .inr ⟨k, .inl pk, sk, fun k' h' hp hq => hp.elim (fun p => h k' h' p hq) (fun e => by rw [e, hs] at hq; cases hq)⟩
  | some x =>
    dsimp only
    rcases hb with ⟨e, h⟩ | ⟨k, pk, sk, h⟩
    · have : b.i < 0 := by rw [e]; decide
      rw [if_pos (.inl this)]
      refine .inr ⟨n, .inr rfl, hs, fun k' h' hp hq => ?_⟩
      rcases hp with p | e2
      · rw [h k' p] at hq; cases hq
      · subst e2; rw [hs] at hq; cases hq; exact .inr ⟨rfl, Nat.le_refl _⟩
    · have bi := hi k b sk
      have kn := hP k pk
      by_cases ht : x.t ≤ b.t
      · rw [if_pos (.inr ht)]
        refine .inr ⟨n, .inr rfl, hs, fun k' h' hp hq => ?_⟩
        rcases hp with p | e2
        · have := h k' h' p hq; have := hP k' p; omega
        · subst e2; rw [hs] at hq; cases hq; exact .inr ⟨rfl, Nat.le_refl _⟩
      · rw [if_neg (by omega)]
        refine .inr ⟨k, .inl pk, sk, fun k' h' hp hq => ?_⟩
        rcases hp with p | e2
        · exact h k' h' p hq
        · subst e2; rw [hs] at hq; cases hq; omega
theorem best_congr {S : Nat → Option Ht} {P Q : Nat → Prop} {b : Ht} (h : ∀ k, P k ↔ Q k) (hb : Best S P b) : Best S Q b := by
  have : P = Q := funext fun k => propext (h k)
  rwa [← this]
theorem shape_in (m : Msh) (r : Ry) (least : Int) (k : Nat) (h : Ht) (e : shapeF m (k : Int) r least = some h) : h.i = (k : Int) := (shape_i e).1
theorem scan_best (m : Msh) (r : Ry) (least : Int) (n : Nat) : Best (fun k => shapeF m (k : Int) r least) (fun k => k < n) (scanTo m r least n) := by
  induction n with
  | zero => exact best_congr (fun k => ⟨fun h => h.elim, fun h => absurd h (by omega)⟩) (best_none _)
  | succ n ih =>
    rw [scanTo_next]
    exact best_congr (fun k => by omega) (best_up (shape_in m r least) ih (fun k h => h))
/-- from the last to the first -/
def rscanTo (m : Msh) (r : Ry) (least : Int) : Nat → Ht
  | 0 => htN
  | j + 1 => match shapeF m ((m.ts.length + m.bs.length - 1 - j : Nat) : Int) r least with
    | none => rscanTo m r least j
    | some h => if (rscanTo m r least j).i < 0 ∨ h.t ≤ (rscanTo m r least j).t then h else rscanTo m r least j
theorem rscan_best (m : Msh) (r : Ry) (least : Int) (j : Nat) (hj : j ≤ m.ts.length + m.bs.length) : Best (fun k => shapeF m (k : Int) r least) (fun k => m.ts.length + m.bs.length - j ≤ k ∧ k < m.ts.length + m.bs.length) (rscanTo m r least j) := by
  induction j with
  | zero => exact best_congr (fun k => ⟨fun h => h.elim, fun h => absurd h (by omega)⟩) (best_none _)
  | succ j ih =>
    have := best_down (n := m.ts.length + m.bs.length - 1 - j) (shape_in m r least) (ih (by omega)) (fun k h => by omega)
    exact best_congr (fun k => by omega) this
theorem rscan_all (m : Msh) (r : Ry) (least : Int) : rscanTo m r least (m.ts.length + m.bs.length) = scanF m r least :=
  best_unique (rscan_best m r least _ (Nat.le_refl _)) (best_congr (fun k => by omega) (scan_best m r least (m.ts.length + m.bs.length)))
theorem scanF_best (m : Msh) (r : Ry) (least : Int) : Best (fun k => shapeF m (k : Int) r least) (fun k => k < m.ts.length + m.bs.length) (scanF m r least) := scan_best m r least _
end Go.Proofs.Ytdaokkgenfpmhaa.HitP
