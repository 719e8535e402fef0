/- Steps of a script (text Qp): a call that writes; 's = append(s, x, y)' of records. No program is named here. -/
import Derived.Test.YtcchekkedgajpaaQp
import Derived.Test.YtcchekkedgajpaaRec
set_option linter.unusedVariables false
set_option linter.unusedSimpArgs false
namespace Go.Proofs.Ytcchekkedgajpaa.Qy
open Go.RowKit Go.Sort Base Qb Qt Qw Qp Rec
section
variable {P : Program} {ops : Array Oper} {md : Region.Mode} {σ : Type} {D : σ → World → Prop}
/-- a call that writes -/
theorem _root_.Go.Proofs.Ytcchekkedgajpaa.Qp.Scr.call {K : Act → σ → Prop} {k : Nat} {r : List (Bool × Nat)} {a : Act} {s : σ} {o : Oper} (f : FuncId) (args : Array Value) (Post : Value → σ → Prop) (ho : ops[k]? = some o) (hw : Region.wanted o (yielded ops a.tmps) = true)
    (hr : ∀ w, (execOp a.eval o).run P w = .ok (.enter f args) w) (hc : ∀ w, D s w → Calls P f args w (fun e w' => ∃ v s', e = .returned v ∧ Post v s' ∧ D s' w'))
    (hn : ∀ v s', Post v s' → Scr P ops D K r (a.put o.dst v) s') : Scr P ops D K ((false, k) :: r) a s := by
  refine ⟨o, ho, hw, Post, fun w hD => ?_, hn⟩
  rw [hr w]
  exact hc w hD
/-- a literal row reads as records -/
theorem recs_row {α : Type} {c : Nat} {enc : α → List Value} (hlen : ∀ x, (enc x).length = c) (E gs : Nat) (w : World) (l : List α) (row : Array Value) (hr : row.toList = l.flatMap enc) (hm : l.length ≤ maxLen) (hg : w.heap[gs]? = some (.cells row E)) : Recs c enc w (.slice (some ⟨gs, 0, none⟩) l.length l.length) l where
  shape := ⟨_, _, rfl, Nat.le_refl _, hm, fun e => by simp at e⟩
  cells := fun _ => ⟨gs, 0, _, rfl, lt_of_heap hg, fun i hi k y hy => by
    have hk : k < c := by
      rcases Nat.lt_or_ge k c with h | h
      · exact h
      · rw [List.getElem?_eq_none (by rw [hlen]; exact h)] at hy; simp at hy
    rw [cell_of_row _ gs _ row E (0, 0) hg]
    have := flat_at hlen l i k hi hk
    rw [hy, ← hr] at this
    rw [Nat.zero_add]; simpa using this⟩
inductive Fp where
  | p0
  | p1 (gs : Nat)
  | p2 (v : Value)
/-- the state: J all along -/
def FD {α : Type} (c : Nat) (enc : α → List Value) (E base base2 : Nat) (J : World → Prop) (vf : Value) (l m : List α) (row : Array Value) (s : Fp) (w : World) : Prop :=
  match s with
  | .p0 => J w ∧ RecsOwn c enc E base w vf l
  | .p1 gs => J w ∧ RecsOwn c enc E base w vf l ∧ w.heap[gs]? = some (.cells row E)
  | .p2 v => J w ∧ RecsOwn c enc E base w v (l ++ m) ∧ (v.ownBlock = vf.ownBlock ∨ ∀ b, v.ownBlock = some b → base2 ≤ b)
theorem FD.j {α : Type} {c : Nat} {enc : α → List Value} {E base base2 : Nat} {J : World → Prop} {vf : Value} {l m : List α} {row : Array Value} {s : Fp} {w : World} (h : FD c enc E base base2 J vf l m row s w) : J w := by
  cases s with
  | p0 => exact h.1
  | p1 gs => exact h.1
  | p2 v => exact h.1
theorem FD.step {α : Type} {c : Nat} {enc : α → List Value} {E base base2 : Nat} {J : World → Prop} {vf : Value} {l m : List α} {row : Array Value} (hj : ∀ w w', J w → Below w.heap.size w w' → J w') {s : Fp} {w w' : World} (h : FD c enc E base base2 J vf l m row s w) (hb : Below w.heap.size w w') : FD c enc E base base2 J vf l m row s w' := by
  cases s with
  | p0 => exact ⟨hj _ _ h.1 hb, h.2.below hb (Nat.le_refl _)⟩
  | p1 gs => exact ⟨hj _ _ h.1 hb, h.2.1.below hb (Nat.le_refl _), (hb.block gs (lt_of_heap h.2.2)).trans h.2.2⟩
  | p2 v => exact ⟨hj _ _ h.1 hb, h.2.1.below hb (Nat.le_refl _), h.2.2⟩
/-- the built slice, then the append -/
theorem _root_.Go.Proofs.Ytcchekkedgajpaa.Qp.Scr.app {α : Type} {c : Nat} {enc : α → List Value} {E base base2 T bytes kb ka : Nat} {J : World → Prop} {vf : Value} {l m : List α} {row : Array Value} {a : Act} {ob oa : Oper} {z : Value} {K : Act → Fp → Prop} {r : List (Bool × Nat)} (hT : RecSlice P T E c enc z bytes)
    (hj : ∀ w w', J w → Below w.heap.size w w' → J w') (hg : ∀ w w', J w → RecsOwn c enc E base w vf l → w.grownBy w' vf.ownBlock → J w') (hbase : ∀ w, J w → base ≤ w.heap.size) (hbase2 : ∀ w, J w → base2 ≤ w.heap.size)
    (hrow : row.toList = m.flatMap enc) (hlen : (l.length + m.length) * bytes ≤ 140737488355328) (hlen2 : l.length + m.length ≤ 140737488355328) (n : Nat) (hn : n = m.length)
    (hob : ops[kb]? = some ob) (hwb : Region.wanted ob (yielded ops a.tmps) = true) (hrb : ∀ w, (execOp a.eval ob).run P w = .ok (.value (.slice (some ⟨w.heap.size, 0, none⟩) n n)) (w.alloc (.cells row E)))
    (hoa : ops[ka]? = some oa) (hga : oa.guard = none) (s x : Operand) (hop : oa.op = .call { callee := .builtin .append, args := #[s, x], argTypes := #[T, T] })
    (hs : ∀ gs, (a.put ob.dst (.slice (some ⟨gs, 0, none⟩) n n)).eval s = vf) (hx : ∀ gs, (a.put ob.dst (.slice (some ⟨gs, 0, none⟩) n n)).eval x = .slice (some ⟨gs, 0, none⟩) n n)
    (hK : ∀ gs v, Scr P ops (FD c enc E base base2 J vf l m row) K r ((a.put ob.dst (.slice (some ⟨gs, 0, none⟩) n n)).put oa.dst v) (.p2 v)) : Scr P ops (FD c enc E base base2 J vf l m row) K ((false, kb) :: (false, ka) :: r) a .p0 := by
  subst hn
  refine Scr.write (fun u s => ∃ gs, u = .slice (some ⟨gs, 0, none⟩) m.length m.length ∧ s = .p1 gs) hob hwb (fun w hD => .inl ?_) ?_
  · obtain ⟨h1, h2⟩ := hD
    exact ⟨_, _, .p1 w.heap.size, hrb w, ⟨_, rfl, rfl⟩, hj _ _ h1 (ext_alloc w _), h2.below (ext_alloc w _) (Nat.le_refl _), heap_alloc_new _ _⟩
  · rintro u s' ⟨gs, rfl, rfl⟩
    refine Scr.write (fun v s => s = .p2 v) hoa (by simp [Region.wanted, hga]) (fun w hD => .inl ?_) (fun v s' e => by subst e; exact hK gs v)
    obtain ⟨h1, h2, h3⟩ := hD
    obtain ⟨i, hi, hz, hs1, hs2⟩ := hT.info
    have hone : ∀ y ∈ m.flatMap enc, y.oneCell' = true := by intro y hy; simp only [List.mem_flatMap] at hy; obtain ⟨n, _, hn⟩ := hy; exact hT.one n y hn
    have hml : (m.flatMap enc).length = m.length * c := flat_len hT.len m
    have hnews : ∀ j (y : Value), (m.flatMap enc)[j]? = some y → w.cell? ((⟨gs, 0, none⟩ : Addr).add j) = some y := by
      intro j y hj
      rw [add_flat, cell_of_row w gs _ row _ _ h3, ← hj, ← hrow, Nat.zero_add]; simp
    obtain ⟨v', w', hrun, r1, r2, _, r3⟩ := run_append_own_at (P := P) (w := w) base T oa.type E i z c bytes hT.und hi hz hs1 hs2 hT.zone hT.pos vf l.length (l.flatMap enc) h2.row ⟨gs, 0, none⟩ m.length m.length (m.flatMap enc) hml hnews hone (by unfold maxLen; omega) hlen (hbase w h1)
    refine ⟨v', w', .p2 v', ?_, rfl, hg _ _ h1 h2 r2, ⟨?_⟩, ?_⟩
    · simp [execOp, hop, resolve, invoke, builtin, hs gs, hx gs, hrun, Result.andThen]
    · rw [List.length_append, List.flatMap_append]; exact r1
    · rcases r3 with e | e
      · exact .inl e
      · refine .inr fun b hb => ?_
        rw [e] at hb; simp only [Option.some.injEq] at hb
        have := hbase2 w h1; omega
end
end Go.Proofs.Ytcchekkedgajpaa.Qy
