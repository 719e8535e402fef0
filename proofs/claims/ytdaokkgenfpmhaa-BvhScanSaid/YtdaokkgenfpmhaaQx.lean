/- 'm.list = append(m.list, f(..))' as a region that draws its order: the chain of the built slice and the append. No program is named here. -/
import Derived.Test.YtdaokkgenfpmhaaQw
import Derived.Test.YtdaokkgenfpmhaaMe
set_option linter.unusedVariables false
set_option linter.unusedSimpArgs false
namespace Go.Proofs.Ytdaokkgenfpmhaa.Qx
open Go.RowKit Go.Sort Base Qb Qt Qw Rec

/-- how far the region has come -/
inductive Ph where
  | pm
  | p0
  | p1 (gs : Nat)
  | p2 (v : Value)
section
variable {α : Type} {c : Nat} {enc : α → List Value} {E base base2 : Nat} {Jm J : World → Prop} {vp : Value} {lp : List α} {q : α} {row : Array Value}
/-- the state: Jm ahead of the call that writes, J behind it -/
def PhD (c : Nat) (enc : α → List Value) (E base base2 : Nat) (Jm J : World → Prop) (vp : Value) (lp : List α) (q : α) (row : Array Value) (s : Ph) (w : World) : Prop :=
  match s with
  | .pm => Jm w ∧ RecsOwn c enc E base w vp lp
  | .p0 => J w ∧ RecsOwn c enc E base w vp lp
  | .p1 gs => J w ∧ RecsOwn c enc E base w vp lp ∧ w.heap[gs]? = some (.cells row E)
  | .p2 v => J w ∧ RecsOwn c enc E base w v (lp ++ [q]) ∧ (v.ownBlock = vp.ownBlock ∨ ∀ b, v.ownBlock = some b → base2 ≤ b)
theorem PhD.step (hm : ∀ w w', Jm w → Below w.heap.size w w' → Jm w') (hj : ∀ w w', J w → Below w.heap.size w w' → J w') (s : Ph) (w w' : World) (h : PhD c enc E base base2 Jm J vp lp q row s w) (hb : Below w.heap.size w w') : PhD c enc E base base2 Jm J vp lp q row s w' := by
  cases s with
  | pm => exact ⟨hm _ _ h.1 hb, h.2.below hb (Nat.le_refl _)⟩
  | p0 => exact ⟨hj _ _ h.1 hb, h.2.below hb (Nat.le_refl _)⟩
  | p1 gs => exact ⟨hj _ _ h.1 hb, h.2.1.below hb (Nat.le_refl _), (hb.block gs (lt_of_heap h.2.2)).trans h.2.2⟩
  | p2 v => exact ⟨hj _ _ h.1 hb, h.2.1.below hb (Nat.le_refl _), h.2.2⟩
theorem Chain.app {P : Program} {ops : Array Oper} {T bytes kb ka : Nat} {a : Act} {ob oa : Oper} {z : Value} {K : Act → Ph → Prop} (hT : RecSlice P T E c enc z bytes)
    (hj : ∀ w w', J w → Below w.heap.size w w' → J w') (hg : ∀ w w', J w → RecsOwn c enc E base w vp lp → w.grownBy w' vp.ownBlock → J w') (hbase : ∀ w, J w → base ≤ w.heap.size) (hbase2 : ∀ w, J w → base2 ≤ w.heap.size)
    (hrow : row.toList = enc q) (hlen : (lp.length + 1) * bytes ≤ 140737488355328) (hlen2 : lp.length + 1 ≤ 140737488355328)
    (hob : ops[kb]? = some ob) (hwb : Region.wanted ob (yielded ops a.tmps) = true) (hrb : ∀ w, (execOp a.eval ob).run P w = .ok (.value (.slice (some ⟨w.heap.size, 0, none⟩) 1 1)) (w.alloc (.cells row E)))
    (hoa : ops[ka]? = some oa) (hga : oa.guard = none) (s x : Operand) (hop : oa.op = .call { callee := .builtin .append, args := #[s, x], argTypes := #[T, T] })
    (hs : ∀ gs, (a.put ob.dst (.slice (some ⟨gs, 0, none⟩) 1 1)).eval s = vp) (hx : ∀ gs, (a.put ob.dst (.slice (some ⟨gs, 0, none⟩) 1 1)).eval x = .slice (some ⟨gs, 0, none⟩) 1 1)
    (hK : ∀ gs v, K ((a.put ob.dst (.slice (some ⟨gs, 0, none⟩) 1 1)).put oa.dst v) (.p2 v)) : Chain P ops (PhD c enc E base base2 Jm J vp lp q row) K [kb, ka] a .p0 := by
  refine ⟨ob, hob, hwb, fun u s => ∃ gs, u = .slice (some ⟨gs, 0, none⟩) 1 1 ∧ s = .p1 gs, fun w hD => ?_, ?_⟩
  · rw [hrb w]
    obtain ⟨h1, h2⟩ := hD
    exact ⟨.p1 w.heap.size, ⟨_, rfl, rfl⟩, hj _ _ h1 (ext_alloc w _), h2.below (ext_alloc w _) (Nat.le_refl _), heap_alloc_new _ _⟩
  · rintro u s' ⟨gs, rfl, rfl⟩
    refine ⟨oa, hoa, by simp [Region.wanted, hga], fun v s => s = .p2 v, fun w hD => ?_, ?_⟩
    · obtain ⟨h1, h2, h3⟩ := hD
      obtain ⟨i, hi, hz, hs1, hs2⟩ := hT.info
      have hone : ∀ y ∈ [q].flatMap enc, y.oneCell' = true := by intro y hy; simp only [List.flatMap_cons, List.flatMap_nil, List.append_nil] at hy; exact hT.one q y hy
      have hnews : ∀ j (y : Value), ([q].flatMap enc)[j]? = some y → w.cell? ((⟨gs, 0, none⟩ : Addr).add j) = some y := by
        intro j y hj
        simp only [List.flatMap_cons, List.flatMap_nil, List.append_nil] at hj
        rw [add_flat, cell_of_row w gs _ row _ _ h3, ← hj, ← hrow, Nat.zero_add]; simp
      obtain ⟨v', w', hrun, r1, r2, _, r3⟩ := run_append_own_at (P := P) (w := w) base T oa.type E i z c bytes hT.und hi hz hs1 hs2 hT.zone hT.pos vp lp.length (lp.flatMap enc) h2.row ⟨gs, 0, none⟩ 1 1 ([q].flatMap enc) (by simp [hT.len q]) hnews hone (by unfold maxLen; omega) hlen (hbase w h1)
      have he : (execOp (a.put ob.dst (.slice (some ⟨gs, 0, none⟩) 1 1)).eval oa).run P w = .ok (.value v') w' := by
        simp [execOp, hop, resolve, invoke, builtin, hs gs, hx gs, hrun, Result.andThen]
      rw [he]
      refine ⟨.p2 v', rfl, hg _ _ h1 h2 r2, ⟨?_⟩, ?_⟩
      · rw [List.length_append, List.flatMap_append]; exact r1
      · rcases r3 with e | e
        · exact .inl e
        · refine .inr fun b hb => ?_
          rw [e] at hb; simp only [Option.some.injEq] at hb
          have := hbase2 w h1; omega
    · rintro v s' rfl
      exact hK gs v
end
end Go.Proofs.Ytdaokkgenfpmhaa.Qx
