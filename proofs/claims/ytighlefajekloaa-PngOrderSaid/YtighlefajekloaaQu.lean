import Derived.WalkKit
import Derived.Lib.QuietBelow
import Derived.BigQuiet
import Derived.StillTailTactics
import Derived.Laws.CopyOwn
import Derived.Test.YtighlefajekloaaRec
/- A region that draws its order, whose calls make memory: each contract, met in whatever world of the class 'what was there stands as it stood'. No program is named here. -/
set_option linter.unusedVariables false
set_option linter.unusedSimpArgs false
namespace Go.Proofs.Ytighlefajekloaa.Qb
open Go.RowKit Go.Sort

variable {P : Program}
theorem qb {f : FuncId} {args : Array Value} {W : World} {v : Value} (h : ∀ w, Below W.heap.size W w → Calls P f args w (fun e w' => e = .returned v ∧ Below w.heap.size w w')) (d : Nat) (os : Array Obj) :
    Calls P f args (grow (redrawn W d) os) fun e w'' => e = .returned v ∧ ∃ p : Regrown, w'' = grow (redrawn W p.d) p.os :=
  (h _ (below_regrown W d os)).mono fun _ _ h => ⟨h.1, regrown_of_below ((below_regrown W d os).trans (h.2.mono (below_regrown W d os).size))⟩
theorem qs {f : FuncId} {args : Array Value} {W : World} {v : Value} (h : ∀ w, Calls P f args w (fun e w' => e = .returned v ∧ w = w')) (d : Nat) (os : Array Obj) :
    Calls P f args (grow (redrawn W d) os) fun e w'' => e = .returned v ∧ ∃ p : Regrown, w'' = grow (redrawn W p.d) p.os :=
  (h _).mono fun _ _ h => ⟨h.1, regrown_of_below (by rw [← h.2]; exact below_regrown W d os)⟩
theorem heap_regrown {W : World} {g : Nat} {o : Obj} (h : W.heap[g]? = some o) (d : Nat) (os : Array Obj) : (grow (redrawn W d) os).heap[g]? = some o := by
  rw [(below_regrown W d os).block g (by
    rcases Nat.lt_or_ge g W.heap.size with h' | h'
    · exact h'
    · rw [Array.getElem?_eq_none h'] at h; simp at h)]; exact h
end Go.Proofs.Ytighlefajekloaa.Qb

/- A region that draws its order, whose operations but the last few only read or call quietly, and whose last few come in one order behind all others: one walk in the order of the text. (What Derived/StillTail has for calls that leave the very world, said here of a class of worlds.) No program is named here. -/
set_option linter.unusedVariables false
set_option linter.unusedSimpArgs false
namespace Go.Proofs.Ytighlefajekloaa.Qt
open Go.RowKit Go.Sort Qb

section
variable {P : Program} {ops : Array Oper} {md : Region.Mode} {C : World → Prop} {n : Nat} {L : Array Bool → Act → Prop}

/-- whatever order the first n operations come up in, L holds behind them -/
def Heads (P : Program) (ops : Array Oper) (md : Region.Mode) (C : World → Prop) (n : Nat) (L : Array Bool → Act → Prop) : Nat → Array Bool → Act → Prop
  | 0, s, a => L s a
  | f + 1, s, a => Region.ready md ops s ≠ [] ∧ ∀ k ∈ Region.ready md ops s, k < n ∧ qOp P ops C k (Heads P ops md C n L f (s.setIfInBounds k true)) a

theorem Heads.any {g : Nat} {R : Exit → Act → World → Prop} (hL : ∀ s a w, C w → L s a → wpAny P md ops R g s a w) : ∀ (f : Nat) (s : Array Bool) (a : Act) (w : World), C w → Heads P ops md C n L f s a → wpAny P md ops R (f + g) s a w := by
  intro f
  induction f with
  | zero => intro s a w hw h; rw [Nat.zero_add]; exact hL s a w hw h
  | succ f ih =>
    intro s a w hw h
    have e : f + 1 + g = (f + g) + 1 := by omega
    rw [e]
    refine ⟨fun h0 => absurd h0 h.1, fun k hk => ?_⟩
    exact wpOp_of_qOp hw (fun a' w' hw' ha' => ih _ a' w' hw' ha') (h.2 k hk).2

/-- an operation of the head that may come up, may be taken first -/
theorem Heads.first {i : Nat} {oi : Oper} {v : Value} (hi : ops[i]? = some oi) (hsel : ∀ (j : Nat) (o : Oper) cs b, ops[j]? = some o → o.op ≠ .select cs b)
    (hs : Region.sinkB md ops n = true) (hc : Region.chainB md ops n = true) (hn : n < ops.size) (hin : i < n) (hL : ∀ s a, L s a → ∀ j ∈ Region.ready md ops s, n ≤ j) :
    ∀ (f : Nat) (s : Array Bool) (a : Act), HeadInv md ops n s →
      (∀ j oj, ops[j]? = some oj → j ≠ i → s.getD j true = false → (∀ e ∈ oj.after, Region.binds md e = true → e.on ≠ i) → oi.apart ops oj = true) →
      i ∈ Region.ready md ops s → YieldsIn P ops C oi v a → Heads P ops md C n L f (s.setIfInBounds i true) (a.put oi.dst v) → Heads P ops md C n L (f + 1) s a := by
  have inHead : ∀ s : Array Bool, HeadInv md ops n s → i ∈ Region.ready md ops s → ∀ k ∈ Region.ready md ops s, k < n := by
    intro s inv hr k hk
    rcases Nat.lt_or_ge k n with h | h
    · exact h
    · exact absurd hk (tail_waits hs hc hn inv (n - i) i rfl hin (mem_ready.1 hr).1 k h)
  have notEmpty : ∀ s : Array Bool, i ∈ Region.ready md ops s → Region.ready md ops s ≠ [] := by
    intro s hr h0
    rw [h0] at hr
    cases hr
  intro f
  induction f with
  | zero =>
    intro s a inv _ hr hy h
    refine ⟨notEmpty s hr, fun k hk => ⟨inHead s inv hr k hk, ?_⟩⟩
    by_cases hki : k = i
    · subst hki; exact hy.qOp hi h
    · have h1 := hL _ _ h k (ready_mono hk hki)
      have h2 := inHead s inv hr k hk
      omega
  | succ f ih =>
    intro s a inv hap hr hy h
    refine ⟨notEmpty s hr, fun k hk => ⟨inHead s inv hr k hk, ?_⟩⟩
    by_cases hki : k = i
    · subst hki; exact hy.qOp hi h
    · obtain ⟨hkun, ok, hok, hkall⟩ := mem_ready.1 hk
      have hiun := (mem_ready.1 hr).1
      have hne : ∀ e ∈ ok.after, Region.binds md e = true → e.on ≠ i := by
        intro e he hb heq
        have h3 := hkall e he hb
        rw [heq, getD_both hiun] at h3
        cases h3
      have h4 := qOp_put hok (hap k ok hok hki hkun hne) (fun cs b => hsel i oi cs b hi) (fun cs b => hsel k ok cs b hok) hy (h.2 k (ready_mono hk hki)).2
      refine qOp_mono (fun a' h5 => ?_) h4
      refine ih (s.setIfInBounds k true) a' (inv.set hk (inHead s inv hr k hk)) ?_ (ready_mono hr (Ne.symm hki)) h5.1 ?_
      · intro j oj hj hji hjun hjn
        refine hap j oj hj hji ?_ hjn
        by_cases hkj : k = j
        · subst hkj; exact hkun
        · rw [getD_set_ne true hkj] at hjun; exact hjun
      · rw [Array.setIfInBounds_comm _ _ hki]
        exact h5.2

theorem Heads.lex {g : Nat} {K : Act → Prop} (hsel : Region.noSelect ops = true) (hs : Region.sinkB md ops n = true) (hc : Region.chainB md ops n = true) (hn : n < ops.size) :
    ∀ (l : List Oper) (k : Nat) (s : Array Bool) (a : Act), (∀ j, j < l.length → l[j]? = ops[k + j]?) → k + l.length = n → HeadInv md ops n s → Region.lexHead md ops g l.length k s = true →
      wpQuiet P ops C K l a → Heads P ops md C n (fun s' a' => Region.seqB md ops g n s' = true ∧ K a') l.length s a := by
  intro l
  induction l with
  | nil =>
    intro k s a _ hk _ hB h
    obtain rfl : k = n := by simpa using hk
    exact ⟨by simpa [Region.lexHead] using hB, h⟩
  | cons o l ih =>
    intro k s a hl hk inv hB h
    have h0 : ops[k]? = some o := by have := hl 0 (by simp); simpa using this.symm
    simp only [List.length_cons, Region.lexHead, Bool.and_eq_true] at hB
    obtain ⟨⟨hr, hf⟩, hB'⟩ := hB
    have hkn : k < n := by simp only [List.length_cons] at hk; omega
    have hr' : k ∈ Region.ready md ops s := by simpa using hr
    have hq : qOp P ops C k (wpQuiet P ops C K l) a := by unfold qOp; simp only [h0]; exact h
    obtain ⟨v, hy, hK⟩ := yieldsIn_of_qOp h0 hq
    refine Heads.first h0 (Region.noSelect_spec hsel) hs hc hn hkn (fun s' a' hL => seqB_ready hL.1) l.length s a inv (Region.free_spec h0 hf) hr' hy ?_
    refine ih (k + 1) _ _ (fun j hj => ?_) (by simp only [List.length_cons] at hk; omega) (inv.set hr' hkn) hB' hK
    have := hl (j + 1) (by simp; omega)
    simpa [Nat.add_assoc, Nat.add_comm 1 j] using this

/-- THE LAW: n operations that are quiet in the class C, then the rest in its own order, from whatever world of the class. -/
theorem wp_region_quiet_tail {id : Nat} {Q : Exit → Act → World → Prop} {a : Act} {w : World} {l : List Oper} (n : Nat) (hm : P.follows .mixedOrders = true) (hB : Region.lexTailB .any l.toArray n = true)
    (h0 : C { w with drawn := w.drawn + 1 }) (h : wpQuiet P l.toArray C (fun a' => ∀ w', C w' → wpList P l.toArray Q (l.drop n) a' w') (l.take n) a) : (Code.region id l.toArray true).wp P Q a w := by
  simp only [Region.lexTailB, Bool.and_eq_true, decide_eq_true_eq] at hB
  obtain ⟨⟨⟨⟨hsel, hn⟩, hs⟩, hc⟩, hlex⟩ := hB
  have hn' : n < l.length := by simpa using hn
  have htl : (l.take n).length = n := by simp; omega
  have hdl : (l.drop n).length = l.toArray.size - n := by simp
  have inv0 : HeadInv .any l.toArray n (Array.replicate l.toArray.size false) :=
    ⟨by simp, fun j oj _ hl => (by rw [getD_replicate_false] at hl; cases hl), fun t _ ht => getD_in (by simpa using ht) (getD_replicate_false _ _)⟩
  have H := Heads.lex (md := .any) (g := l.toArray.size - n) hsel hs hc hn (l.take n) 0 _ a (fun j hj => by
    have hj' : j < n := by rw [htl] at hj; exact hj
    simp [hj']) (by simpa using htl) inv0 (by rw [htl]; exact hlex) h
  refine wp_region_any hm ?_
  have key := Heads.any (R := Q) (g := l.toArray.size - n) (fun s a' w' hw' hL => by
    have := wpAny_of_seq (md := .any) (Q' := Q) (l.drop n) n s a' w' (fun j => by simp [List.getElem?_drop]) (by rw [hdl]; exact hL.1) (hL.2 w' hw')
    rwa [hdl] at this) _ _ _ _ h0 H
  rw [htl, show n + (l.toArray.size - n) = l.toArray.size by omega] at key
  exact key

/-- .. at the class 'what was there stands as it stood' -/
theorem wp_region_below_tail {id : Nat} {Q : Exit → Act → World → Prop} {a : Act} {w : World} {l : List Oper} (n : Nat) (hm : P.follows .mixedOrders = true) (hB : Region.lexTailB .any l.toArray n = true)
    (h : wpQuiet P l.toArray (fun w' => ∃ p : Regrown, w' = grow (redrawn w p.d) p.os) (fun a' => ∀ w', (∃ p : Regrown, w' = grow (redrawn w p.d) p.os) → wpList P l.toArray Q (l.drop n) a' w') (l.take n) a) : (Code.region id l.toArray true).wp P Q a w :=
  wp_region_quiet_tail (C := fun w' => ∃ p : Regrown, w' = grow (redrawn w p.d) p.os) n hm hB ⟨⟨w.drawn + 1, #[]⟩, by rw [grow_empty]; rfl⟩ h
end
end Go.Proofs.Ytighlefajekloaa.Qt

/- A region that draws its order and makes new blocks among its operations ('p, q := f(a), g(b)' of boxed structs): the others are quiet, so each keeps its one value whatever has been laid; the new blocks' places hang on the order, so what follows is asked for all places that differ. No program is named here. -/
set_option linter.unusedVariables false
set_option linter.unusedSimpArgs false
namespace Go.Proofs.Ytighlefajekloaa.Qa
open Go.RowKit Go.Sort Qb Qt

/-- the worlds beyond w -/
def Cls (w : World) : World → Prop := fun w' => ∃ p : Regrown, w' = grow (redrawn w p.d) p.os
theorem Cls.refl (w : World) : Cls w w := ⟨⟨w.drawn, #[]⟩, by rw [grow_empty]; rfl⟩
theorem Cls.below {w w' : World} (h : Cls w w') : Below w.heap.size w w' := by obtain ⟨p, rfl⟩ := h; exact below_regrown _ _ _
theorem Cls.of_below {w w' : World} (h : Below w.heap.size w w') : Cls w w' := regrown_of_below h
theorem Cls.trans {w w1 w2 : World} (h : Cls w w1) (h2 : Cls w1 w2) : Cls w w2 := Cls.of_below (h.below.trans (h2.below.mono h.below.size))

abbrev ptr (g : Nat) : Value := .pointer (some ⟨g, 0, none⟩)
section
variable {P : Program} {ops : Array Oper} {md : Region.Mode} {W : World} {n : Nat}

/-- one value in every world beyond W, and what is left lies beyond that very world -/
def Firm (P : Program) (W : World) (o : Oper) (v : Value) (a : Act) : Prop := ∀ w, Below W.heap.size W w → o.quietAt P a (Cls w) w v
theorem Firm.of_same {o : Oper} {v : Value} {a a' : Act} (h : Firm P W o v a) (he : execOp a'.eval o = execOp a.eval o) : Firm P W o v a' := by
  intro w hw
  have := h w hw
  unfold Oper.quietAt at *
  rw [he]; exact this
theorem upon_mono {C C' : World → Prop} (h : ∀ w, C w → C' w) {w : World} {v : Value} {r : Result Next} (hr : Oper.quietUpon P C w v r) : Oper.quietUpon P C' w v r := by
  cases r with
  | halt x w' => simp only [Oper.quietUpon] at hr
  | ok nx w' =>
    cases nx <;> simp only [Oper.quietUpon] at hr ⊢
    case value u => exact hr
    case skip => exact hr
    case enter f args => exact ⟨hr.1, hr.2.mono fun e w'' hh => ⟨hh.1, h _ hh.2⟩⟩

/-- an operation that makes a new block z and leaves its address in slot d -/
structure IsAl (P : Program) (o : Oper) (d : Tmp) (z : Obj) : Prop where
  op : ∃ ty, o.op = .alloc ty ∧ ∀ w, (Instr.alloc ty true (.tuple #[])).run P w = .ok (.pointer (some ⟨w.heap.size, 0, none⟩)) (w.alloc z)
  dst : o.dst = some d
  guard : o.guard = none
theorem IsAl.wanted {o : Oper} {d : Tmp} {z : Obj} (h : IsAl P o d z) (f : Nat → Option Bool) : Region.wanted o f = true := by simp [Region.wanted, h.guard]
theorem IsAl.run {o : Oper} {d : Tmp} {z : Obj} (h : IsAl P o d z) (e : Operand → Value) (w : World) : (execOp e o).run P w = .ok (.value (ptr w.heap.size)) (w.alloc z) := by
  obtain ⟨ty, h1, h2⟩ := h.op
  unfold execOp
  simp only [h1, Sem.run_bind, h2, Result.andThen_ok, Sem.run_pure]

/-- operation k, then K; s: the blocks made so far -/
def St (P : Program) (ops : Array Oper) (W : World) (k : Nat) (K : Act → List (Nat × Obj) → Prop) (a : Act) (s : List (Nat × Obj)) : Prop :=
  ∃ o, ops[k]? = some o ∧ ((∃ d z, IsAl P o d z ∧ ∀ g, W.heap.size ≤ g → (∀ p ∈ s, p.1 ≠ g) → K (a.put (some d) (ptr g)) ((g, z) :: s)) ∨ (Region.wanted o (yielded ops a.tmps) = true ∧ ∃ v, Firm P W o v a ∧ K (a.put o.dst v) s))
theorem St.mono {k : Nat} {K K' : Act → List (Nat × Obj) → Prop} (h : ∀ a s, K a s → K' a s) {a : Act} {s : List (Nat × Obj)} (hs : St P ops W k K a s) : St P ops W k K' a s := by
  obtain ⟨o, ho, h1⟩ := hs
  rcases h1 with ⟨d, z, h2, h3⟩ | ⟨h2, v, h3, h4⟩
  · exact ⟨o, ho, .inl ⟨d, z, h2, fun g hg hf => h _ _ (h3 g hg hf)⟩⟩
  · exact ⟨o, ho, .inr ⟨h2, v, h3, h _ _ h4⟩⟩
/-- whatever order the first n come up in -/
def Hd (P : Program) (ops : Array Oper) (md : Region.Mode) (W : World) (n : Nat) (L : Array Bool → Act → List (Nat × Obj) → Prop) : Nat → Array Bool → Act → List (Nat × Obj) → Prop
  | 0, t, a, s => L t a s
  | f + 1, t, a, s => Region.ready md ops t ≠ [] ∧ ∀ k ∈ Region.ready md ops t, k < n ∧ St P ops W k (Hd P ops md W n L f (t.setIfInBounds k true)) a s
/-- the worlds in which the blocks s stand -/
def D (W : World) (s : List (Nat × Obj)) (w : World) : Prop := Below W.heap.size W w ∧ ∀ p ∈ s, w.heap[p.1]? = some p.2

theorem St.op {k : Nat} {K : Act → List (Nat × Obj) → Prop} {K' : Act → World → Prop} {R : Exit → Act → World → Prop} {a : Act} {s : List (Nat × Obj)} {w : World} (hD : D W s w) (hst : St P ops W k K a s)
    (h : ∀ a' s' w', D W s' w' → K a' s' → K' a' w') : wpOp P ops R k K' a w := by
  obtain ⟨o, ho, h1⟩ := hst
  rcases h1 with ⟨d, z, h2, h3⟩ | ⟨h2, v, h3, h4⟩
  · unfold wpOp
    simp only [ho, h2.wanted, if_true]
    refine .inl ?_
    unfold Oper.wp
    rw [h2.run]
    show K' (a.put o.dst (ptr w.heap.size)) (w.alloc z)
    rw [h2.dst]
    have hlt : ∀ p ∈ s, p.1 < w.heap.size := by
      intro p hp
      have := hD.2 p hp
      rcases Nat.lt_or_ge p.1 w.heap.size with h' | h'
      · exact h'
      · rw [Array.getElem?_eq_none h'] at this; simp at this
    refine h _ ((w.heap.size, z) :: s) _ ⟨hD.1.alloc hD.1.size z, ?_⟩ (h3 w.heap.size hD.1.size fun p hp e => by have := hlt p hp; omega)
    intro p hp
    rcases List.mem_cons.1 hp with rfl | hp
    · exact heap_alloc_new w z
    · rw [heap_alloc_old w z (hlt p hp)]; exact hD.2 p hp
  · refine wpOp_of_qOp (C := Cls w) (K := fun a' => a' = a.put o.dst v) (Cls.refl w) (fun a' w' hw' ha' => ?_) ?_
    · subst ha'
      refine h _ s _ ⟨hD.1.trans (hw'.below.mono hD.1.size), fun p hp => ?_⟩ h4
      have := hD.2 p hp
      rw [hw'.below.block p.1 (by
        rcases Nat.lt_or_ge p.1 w.heap.size with h' | h'
        · exact h'
        · rw [Array.getElem?_eq_none h'] at this; simp at this)]
      exact this
    · unfold qOp
      simp only [ho, h2, if_true]
      exact ⟨v, fun w1 hw1 => upon_mono (fun w2 hw2 => hw1.trans hw2) (h3 w1 (hD.1.trans (hw1.below.mono hD.1.size))), rfl⟩
theorem Hd.any {g : Nat} {L : Array Bool → Act → List (Nat × Obj) → Prop} {R : Exit → Act → World → Prop} (hL : ∀ t a s w, D W s w → L t a s → wpAny P md ops R g t a w) :
    ∀ (f : Nat) (t : Array Bool) (a : Act) (s : List (Nat × Obj)) (w : World), D W s w → Hd P ops md W n L f t a s → wpAny P md ops R (f + g) t a w := by
  intro f
  induction f with
  | zero => intro t a s w hw h; rw [Nat.zero_add]; exact hL t a s w hw h
  | succ f ih =>
    intro t a s w hw h
    rw [show f + 1 + g = (f + g) + 1 by omega]
    exact ⟨fun h0 => absurd h0 h.1, fun k hk => (h.2 k hk).2.op hw fun a' s' w' hw' ha' => ih _ a' s' w' hw' ha'⟩

/-- a quiet operation that may come up, may be taken first -/
theorem Hd.first {L : Array Bool → Act → List (Nat × Obj) → Prop} {i : Nat} {oi : Oper} {v : Value} (hi : ops[i]? = some oi) (hsel : ∀ (j : Nat) (o : Oper) cs b, ops[j]? = some o → o.op ≠ .select cs b)
    (hs : Region.sinkB md ops n = true) (hc : Region.chainB md ops n = true) (hn : n < ops.size) (hin : i < n) (hL : ∀ t a s, L t a s → ∀ j ∈ Region.ready md ops t, n ≤ j) :
    ∀ (f : Nat) (t : Array Bool) (a : Act) (s : List (Nat × Obj)), HeadInv md ops n t →
      (∀ j oj, ops[j]? = some oj → j ≠ i → t.getD j true = false → (∀ e ∈ oj.after, Region.binds md e = true → e.on ≠ i) → oi.apart ops oj = true) →
      i ∈ Region.ready md ops t → Region.wanted oi (yielded ops a.tmps) = true → Firm P W oi v a → Hd P ops md W n L f (t.setIfInBounds i true) (a.put oi.dst v) s → Hd P ops md W n L (f + 1) t a s := by
  have inHead : ∀ t : Array Bool, HeadInv md ops n t → i ∈ Region.ready md ops t → ∀ k ∈ Region.ready md ops t, k < n := by
    intro t inv hr k hk
    rcases Nat.lt_or_ge k n with h | h
    · exact h
    · exact absurd hk (tail_waits hs hc hn inv (n - i) i rfl hin (mem_ready.1 hr).1 k h)
  have notEmpty : ∀ t : Array Bool, i ∈ Region.ready md ops t → Region.ready md ops t ≠ [] := by
    intro t hr h0
    rw [h0] at hr
    cases hr
  intro f
  induction f with
  | zero =>
    intro t a s inv _ hr hw hy h
    refine ⟨notEmpty t hr, fun k hk => ⟨inHead t inv hr k hk, ?_⟩⟩
    by_cases hki : k = i
    · subst hki; exact ⟨oi, hi, .inr ⟨hw, v, hy, h⟩⟩
    · have h1 := hL _ _ _ h k (ready_mono hk hki)
      have h2 := inHead t inv hr k hk
      omega
  | succ f ih =>
    intro t a s inv hap hr hw hy h
    refine ⟨notEmpty t hr, fun k hk => ⟨inHead t inv hr k hk, ?_⟩⟩
    by_cases hki : k = i
    · subst hki; exact ⟨oi, hi, .inr ⟨hw, v, hy, h⟩⟩
    · obtain ⟨hkun, ok, hok, hkall⟩ := mem_ready.1 hk
      have hiun := (mem_ready.1 hr).1
      have hne : ∀ e ∈ ok.after, Region.binds md e = true → e.on ≠ i := by
        intro e he hb heq
        have h3 := hkall e he hb
        rw [heq, getD_both hiun] at h3
        cases h3
      have hapk := hap k ok hok hki hkun hne
      obtain ⟨p1, p2, p3⟩ := Oper.apart_spec hapk
      have hseli := fun cs b => hsel i oi cs b hi
      have hselk := fun cs b => hsel k ok cs b hok
      have onward : ∀ (a' : Act) (s' : List (Nat × Obj)), Region.wanted oi (yielded ops a'.tmps) = true → Firm P W oi v a' → Hd P ops md W n L f ((t.setIfInBounds i true).setIfInBounds k true) (a'.put oi.dst v) s' →
          Hd P ops md W n L (f + 1) (t.setIfInBounds k true) a' s' := by
        intro a' s' hw' hy' h'
        refine ih (t.setIfInBounds k true) a' s' (inv.set hk (inHead t inv hr k hk)) ?_ (ready_mono hr (Ne.symm hki)) hw' hy' ?_
        · intro j oj hj hji hjun hjn
          refine hap j oj hj hji ?_ hjn
          by_cases hkj : k = j
          · subst hkj; exact hkun
          · rw [getD_set_ne true hkj] at hjun; exact hjun
        · rw [Array.setIfInBounds_comm _ _ hki]; exact h'
      obtain ⟨o', ho', h4⟩ := (h.2 k (ready_mono hk hki)).2
      obtain rfl : o' = ok := Option.some.inj (ho'.symm.trans hok)
      rcases h4 with ⟨d, z, h5, h6⟩ | ⟨h5, u, h6, h7⟩
      · refine ⟨o', hok, .inl ⟨d, z, h5, fun g hg hf => ?_⟩⟩
        have p3' : ∀ d', some d = some d' → d' ∉ oi.looksAt ops := by intro d' e; exact p3 d' (by rw [h5.dst]; exact e)
        refine onward _ _ ?_ (hy.of_same (execOp_put oi hseli a (some d) (ptr g) p3')) ?_
        · rw [wanted_put oi a (some d) (ptr g) p3']; exact hw
        · rw [Act.put_comm a (ptr g) v (fun d' e => by have := p2; intro e2; exact this d' e2 (by rw [h5.dst]; exact e))]
          exact h6 g hg hf
      · refine ⟨o', hok, .inr ⟨?_, u, ?_, ?_⟩⟩
        · rw [← wanted_put o' a oi.dst v p1]; exact h5
        · exact h6.of_same (execOp_put o' hselk a oi.dst v p1).symm
        · refine onward _ _ ?_ (hy.of_same (execOp_put oi hseli a o'.dst u p3)) ?_
          · rw [wanted_put oi a o'.dst u p3]; exact hw
          · rw [← Act.put_comm a v u p2]; exact h7

/-! ### the new blocks, in any order -/
/-- an alloc: its number, its slot, its block -/
abbrev A3 := Nat × Tmp × Obj
/-- for all places that differ -/
def All (W : World) (K : Act → List (Nat × Obj) → Prop) : List A3 → Act → List (Nat × Obj) → Prop
  | [], a, s => K a s
  | x :: r, a, s => ∀ g, W.heap.size ≤ g → (∀ p ∈ s, p.1 ≠ g) → All W K r (a.put (some x.2.1) (ptr g)) ((g, x.2.2) :: s)
theorem All.perm {K : Act → List (Nat × Obj) → Prop} (hK : ∀ a s s', s.Perm s' → K a s → K a s') : ∀ (r : List A3) (a : Act) (s s' : List (Nat × Obj)), s.Perm s' → All W K r a s → All W K r a s' := by
  intro r
  induction r with
  | nil => intro a s s' hp h; exact hK a s s' hp h
  | cons x r ih =>
    intro a s s' hp h g hg hf
    exact ih _ _ _ (hp.cons _) (h g hg fun p hp' => hf p (hp.mem_iff.1 hp'))
theorem All.pick {K : Act → List (Nat × Obj) → Prop} (hK : ∀ a s s', s.Perm s' → K a s → K a s') : ∀ (r : List A3) (x : A3) (a : Act) (s : List (Nat × Obj)), x ∈ r → (r.map fun y => y.2.1).Nodup → All W K r a s →
    ∀ g, W.heap.size ≤ g → (∀ p ∈ s, p.1 ≠ g) → All W K (r.filter fun y => !(y.1 == x.1 && y.2.1 == x.2.1)) (a.put (some x.2.1) (ptr g)) ((g, x.2.2) :: s) := by
  intro r
  induction r with
  | nil => intro x a s hx; cases hx
  | cons y r ih =>
    intro x a s hx hnd h g hg hf
    rw [List.map_cons, List.nodup_cons] at hnd
    by_cases hxy : y.2.1 = x.2.1
    · have hyx : x = y := by
        rcases List.mem_cons.1 hx with e | e
        · exact e
        · exact absurd (show y.2.1 ∈ r.map (fun y => y.2.1) from List.mem_map.2 ⟨x, e, hxy.symm⟩) hnd.1
      subst hyx
      have e1 : ((x :: r).filter fun y => !(y.1 == x.1 && y.2.1 == x.2.1)) = r := by
        rw [List.filter_cons_of_neg (by simp)]
        rw [List.filter_eq_self]
        intro z hz
        have : z.2.1 ≠ x.2.1 := fun e => hnd.1 (List.mem_map.2 ⟨z, hz, e⟩)
        simp [this]
      rw [e1]
      exact h g hg hf
    · have hxr : x ∈ r := by
        rcases List.mem_cons.1 hx with e | e
        · exact absurd (by rw [e]) hxy
        · exact e
      rw [List.filter_cons_of_pos (by simp [hxy])]
      intro g' hg' hf'
      have hgg : g ≠ g' := hf' (g, x.2.2) (by simp)
      have h1 := h g' hg' (fun p hp => hf' p (by simp [hp]))
      have h2 := ih x _ _ hxr hnd.2 h1 g hg (fun p hp => by
        rcases List.mem_cons.1 hp with e | e
        · rw [e]; exact fun e2 => hgg e2.symm
        · exact hf p e)
      rw [Act.put_comm a (ptr g') (ptr g) (fun d e e2 => hxy (by simp only [Option.some.injEq] at e e2; rw [e, e2]))] at h2
      exact All.perm hK _ _ _ _ (List.Perm.swap _ _ _) h2

/-- do the allocs, in whatever order, lead to the tail? -/
def allocB (md : Region.Mode) (ops : Array Oper) (g n : Nat) : Nat → List Nat → Array Bool → Bool
  | 0, r, t => r.isEmpty && Region.seqB md ops g n t
  | f + 1, r, t => !r.isEmpty && decide (Region.ready md ops t = r) && r.all fun j => allocB md ops g n f (r.filter fun k => !(k == j)) (t.setIfInBounds j true)
theorem Hd.allocs {g : Nat} {K : Act → List (Nat × Obj) → Prop} (hK : ∀ a s s', s.Perm s' → K a s → K a s') :
    ∀ (f : Nat) (r : List A3) (t : Array Bool) (a : Act) (s : List (Nat × Obj)), (∀ x ∈ r, x.1 < n ∧ ∃ o, ops[x.1]? = some o ∧ IsAl P o x.2.1 x.2.2) → (r.map fun y => y.2.1).Nodup → (r.map fun y => y.1).Nodup → allocB md ops g n f (r.map fun y => y.1) t = true →
      All W K r a s → Hd P ops md W n (fun t' a' s' => Region.seqB md ops g n t' = true ∧ K a' s') f t a s := by
  intro f
  induction f with
  | zero =>
    intro r t a s hr _ _ hB h
    simp only [allocB, Bool.and_eq_true, List.isEmpty_iff] at hB
    have : r = [] := by simpa using hB.1
    subst this
    exact ⟨hB.2, h⟩
  | succ f ih =>
    intro r t a s hr hnd hni hB h
    simp only [allocB, Bool.and_eq_true, Bool.not_eq_true', decide_eq_true_eq, List.all_eq_true] at hB
    obtain ⟨⟨hne, hrd⟩, hall⟩ := hB
    refine ⟨fun h0 => ?_, fun k hk => ?_⟩
    · rw [hrd] at h0; rw [h0] at hne; simp at hne
    · rw [hrd] at hk
      obtain ⟨x, hx, rfl⟩ := List.mem_map.1 hk
      obtain ⟨hlt, o, ho, hal⟩ := hr x hx
      refine ⟨hlt, o, ho, .inl ⟨x.2.1, x.2.2, hal, fun g' hg hf => ?_⟩⟩
      have h1 := All.pick hK r x a s hx hnd h g' hg hf
      have e1 : (r.filter fun y => !(y.1 == x.1 && y.2.1 == x.2.1)) = r.filter fun y => !(y.1 == x.1) := by
        apply List.filter_congr
        intro y hy
        by_cases e : y.1 = x.1
        · have : y = x := by
            have key : ∀ (l : List A3), (l.map fun y => y.1).Nodup → y ∈ l → x ∈ l → y = x := by
              intro l
              induction l with
              | nil => intro _ h; cases h
              | cons z l ihl =>
                intro hn h1 h2
                rw [List.map_cons, List.nodup_cons] at hn
                rcases List.mem_cons.1 h1 with a1 | a1 <;> rcases List.mem_cons.1 h2 with a2 | a2
                · rw [a1, a2]
                · exact absurd (List.mem_map.2 ⟨x, a2, by rw [← e, a1]⟩) hn.1
                · exact absurd (List.mem_map.2 ⟨y, a1, by rw [e, a2]⟩) hn.1
                · exact ihl hn.2 a1 a2
            exact key r hni hy hx
          rw [this]; simp
        · simp [e]
      rw [e1] at h1
      have e2 : (r.filter fun y => !(y.1 == x.1)).map (fun y => y.1) = (r.map fun y => y.1).filter fun k => !(k == x.1) := by
        rw [List.filter_map]; rfl
      refine ih _ _ _ _ (fun y hy => hr y (List.mem_filter.1 hy).1) ?_ ?_ ?_ h1
      · exact (List.filter_sublist.map _).nodup hnd
      · exact (List.filter_sublist.map _).nodup hni
      · rw [e2]; exact hall x.1 (List.mem_map.2 ⟨x, hx, rfl⟩)

/-- the quiet operations, in the order of the list -/
def Walk (P : Program) (ops : Array Oper) (W : World) (K : Act → Prop) : List Nat → Act → Prop
  | [], a => K a
  | k :: ks, a => ∃ o, ops[k]? = some o ∧ Region.wanted o (yielded ops a.tmps) = true ∧ ∃ v, Firm P W o v a ∧ Walk P ops W K ks (a.put o.dst v)
def headB (md : Region.Mode) (ops : Array Oper) (g n : Nat) (als : List Nat) : List Nat → Array Bool → Bool
  | [], t => allocB md ops g n als.length als t
  | k :: ks, t => decide (k < n) && (Region.ready md ops t).contains k && Region.free md ops t k && headB md ops g n als ks (t.setIfInBounds k true)
theorem allocB_ready {g : Nat} : ∀ (f : Nat) (r : List Nat) (t : Array Bool), f = 0 → allocB md ops g n f r t = true → ∀ j ∈ Region.ready md ops t, n ≤ j := by
  intro f r t hf h
  subst hf
  simp only [allocB, Bool.and_eq_true] at h
  exact seqB_ready h.2
theorem Hd.walk {g : Nat} {K : Act → List (Nat × Obj) → Prop} (hK : ∀ a s s', s.Perm s' → K a s → K a s') (als : List A3) (hal : ∀ x ∈ als, x.1 < n ∧ ∃ o, ops[x.1]? = some o ∧ IsAl P o x.2.1 x.2.2)
    (hnd : (als.map fun y => y.2.1).Nodup) (hni : (als.map fun y => y.1).Nodup)
    (hsel : Region.noSelect ops = true) (hs : Region.sinkB md ops n = true) (hc : Region.chainB md ops n = true) (hn : n < ops.size) :
    ∀ (ks : List Nat) (t : Array Bool) (a : Act) (s : List (Nat × Obj)), HeadInv md ops n t → headB md ops g n (als.map fun y => y.1) ks t = true → Walk P ops W (fun a' => All W K als a' s) ks a →
      Hd P ops md W n (fun t' a' s' => Region.seqB md ops g n t' = true ∧ K a' s') (ks.length + als.length) t a s := by
  intro ks
  induction ks with
  | nil =>
    intro t a s _ hB h
    rw [List.length_nil, Nat.zero_add]
    simp only [headB, List.length_map] at hB
    exact Hd.allocs hK als.length als t a s hal hnd hni hB h
  | cons k ks ih =>
    intro t a s inv hB h
    simp only [headB, Bool.and_eq_true, decide_eq_true_eq] at hB
    obtain ⟨⟨⟨hkn, hr⟩, hf⟩, hB'⟩ := hB
    have hr' : k ∈ Region.ready md ops t := by simpa using hr
    obtain ⟨o, ho, hw, v, hy, hK'⟩ := h
    rw [List.length_cons, show ks.length + 1 + als.length = (ks.length + als.length) + 1 by omega]
    exact Hd.first ho (Region.noSelect_spec hsel) hs hc hn hkn (fun t' a' s' hL => seqB_ready hL.1) _ t a s inv (Region.free_spec ho hf) hr' hw hy (ih _ _ _ (inv.set hr' hkn) hB' hK')

/-- THE LAW: quiet operations ks and allocs als among the first n, then the rest in its own order. -/
theorem wp_region_allocs {id : Nat} {Q : Exit → Act → World → Prop} {a : Act} {w : World} {l : List Oper} (n : Nat) (ks : List Nat) (als : List A3) (hm : P.follows .mixedOrders = true)
    (hB : (Region.noSelect l.toArray && decide (n < l.toArray.size) && decide (ks.length + als.length = n) && Region.sinkB .any l.toArray n && Region.chainB .any l.toArray n && headB .any l.toArray (l.toArray.size - n) n (als.map fun y => y.1) ks (Array.replicate l.toArray.size false)) = true)
    (hal : ∀ x ∈ als, x.1 < n ∧ ∃ o, l[x.1]? = some o ∧ IsAl P o x.2.1 x.2.2) (hnd : (als.map fun y => y.2.1).Nodup) (hni : (als.map fun y => y.1).Nodup)
    (h : Walk P l.toArray w (fun a' => All w (fun a s => ∀ w', D w s w' → wpList P l.toArray Q (l.drop n) a w') als a' []) ks a) : (Code.region id l.toArray true).wp P Q a w := by
  simp only [Bool.and_eq_true, decide_eq_true_eq] at hB
  obtain ⟨⟨⟨⟨⟨hsel, hn⟩, hlen⟩, hs⟩, hc⟩, hlex⟩ := hB
  have hdl : (l.drop n).length = l.toArray.size - n := by simp
  have inv0 : HeadInv .any l.toArray n (Array.replicate l.toArray.size false) :=
    ⟨by simp, fun j oj _ hl => (by rw [getD_replicate_false] at hl; cases hl), fun t _ ht => getD_in (by simpa using ht) (getD_replicate_false _ _)⟩
  have hKp : ∀ (a : Act) (s s' : List (Nat × Obj)), s.Perm s' → (∀ w', D w s w' → wpList P l.toArray Q (l.drop n) a w') → ∀ w', D w s' w' → wpList P l.toArray Q (l.drop n) a w' :=
    fun a s s' hp hh w' hD => hh w' ⟨hD.1, fun p hp' => hD.2 p (hp.mem_iff.1 hp')⟩
  have H := Hd.walk (md := .any) (g := l.toArray.size - n) (W := w) hKp als (fun x hx => by
    obtain ⟨h1, o, h2, h3⟩ := hal x hx
    exact ⟨h1, o, by simpa using h2, h3⟩) hnd hni hsel hs hc hn ks _ a [] inv0 hlex h
  refine wp_region_any hm ?_
  have key := Hd.any (W := w) (R := Q) (g := l.toArray.size - n) (L := fun t' a' s' => Region.seqB .any l.toArray (l.toArray.size - n) n t' = true ∧ ∀ w', D w s' w' → wpList P l.toArray Q (l.drop n) a' w') (fun t a' s' w' hw' hL => by
    have := wpAny_of_seq (md := .any) (Q' := Q) (l.drop n) n t a' w' (fun j => by simp [List.getElem?_drop]) (by rw [hdl]; exact hL.1) (hL.2 w' hw')
    rwa [hdl] at this) _ _ _ _ { w with drawn := w.drawn + 1 } ⟨⟨rfl, rfl, rfl, Nat.le_refl _, fun _ _ => rfl⟩, by simp⟩ H
  rw [hlen, show n + (l.toArray.size - n) = l.toArray.size by omega] at key
  exact key
/-- one quiet operation of the walk: shown over the worlds beyond whatever W1 -/
theorem Walk.step {K : Act → Prop} {k : Nat} {ks : List Nat} {a A : Act} {o : Oper} (ho : ops[k]? = some o) (hw : Region.wanted o (yielded ops a.tmps) = true) (d : Tmp) (hd : o.dst = some d) (hlt : d < a.tmps.size)
    (h : ∀ W1, Below W.heap.size W W1 → o.quiet P a (fun w' => ∃ p : Regrown, w' = grow (redrawn W1 p.d) p.os) (fun a' => a' = A)) (hn : Walk P ops W K ks A) : Walk P ops W K (k :: ks) a := by
  have hput : ∀ v, a.put o.dst v = A → v = A.tmps.getD d undef := by
    intro v e
    rw [← e, hd]
    simp [Act.put, hlt]
  obtain ⟨v0, _, e0⟩ := h W (Below.refl _ _)
  have hv0 := hput v0 e0
  refine ⟨o, ho, hw, v0, fun w hw' => ?_, by rw [e0]; exact hn⟩
  obtain ⟨v, h1, e1⟩ := h w hw'
  have hv := hput v e1
  rw [hv0, ← hv]
  exact h1 w (Cls.refl w)
end
end Go.Proofs.Ytighlefajekloaa.Qa

/- A region that draws its order, whose operations are quiet ones, allocs of new blocks and one store into each new block, in ANY order that the binding edges leave ('a, b, c := l[i], l[j], l[k]' of structs): shown by an invariant of the operations done, each new block at a place of its own. No program is named here. -/
set_option linter.unusedVariables false
set_option linter.unusedSimpArgs false
namespace Go.Proofs.Ytighlefajekloaa.Qf
open Go.RowKit Go.Sort Qb Qt Qa

/-- a new block: its alloc's number and slot, its first row, its type, its store's number, the slot of the row stored, that row -/
structure Nw where
  k : Nat
  d : Tmp
  old : Array Value
  T : TypeId
  j : Nat
  sv : Tmp
  row : Array Value

theorem lt_of_heap {w : World} {g : Nat} {o : Obj} (h : w.heap[g]? = some o) : g < w.heap.size := by
  rcases Nat.lt_or_ge g w.heap.size with h' | h'
  · exact h'
  · rw [Array.getElem?_eq_none h'] at h; cases h
theorem nodup_inj {α : Type} {f : α → Nat} : ∀ {l : List α}, (l.map f).Nodup → ∀ x ∈ l, ∀ y ∈ l, f x = f y → x = y := by
  intro l
  induction l with
  | nil => intro _ x hx; cases hx
  | cons z l ih =>
    intro hn x hx y hy e
    rw [List.map_cons, List.nodup_cons] at hn
    rcases List.mem_cons.1 hx with rfl | h1 <;> rcases List.mem_cons.1 hy with rfl | h2
    · rfl
    · exact absurd (List.mem_map.2 ⟨y, h2, e.symm⟩) hn.1
    · exact absurd (List.mem_map.2 ⟨x, h1, e⟩) hn.1
    · exact ih hn.2 x h1 y h2 e

section
variable {P : Program} {ops : Array Oper} {W : World} {md : Region.Mode}

def dstOf (ops : Array Oper) (k : Nat) : Option Tmp := (ops[k]?).bind (·.dst)
theorem dstOf_of {k : Nat} {o : Oper} (h : ops[k]? = some o) : dstOf ops k = o.dst := by simp [dstOf, h]
theorem dstOf_lt {k : Nat} {d : Tmp} (h : dstOf ops k = some d) : k < ops.size := by
  rcases Nat.lt_or_ge k ops.size with h1 | h1
  · exact h1
  · rw [dstOf, Array.getElem?_eq_none h1] at h; cases h
structure IsSt (P : Program) (o : Oper) (x : Nw) : Prop where
  op : ∃ ty, o.op = .store ty (.tmp x.d) (.tmp x.sv) ∧ (P.info? ty).map (·.size) = some x.row.size
  dst : o.dst = none
  guard : o.guard = none
  size : x.old.size = x.row.size
  one : x.row.all (·.oneCell') = true

structure Fits (md : Region.Mode) (ops : Array Oper) (N : Nat) (ks : List Nat) (als : List Nw) : Prop where
  sel : Region.noSelect ops = true
  gd : ∀ (k : Nat) (o : Oper), ops[k]? = some o → o.guard = none
  back : ∀ (k : Nat) (o : Oper), ops[k]? = some o → ∀ e ∈ o.after, Region.binds md e = true → e.on < k
  cover : ∀ k, k < ops.size → k ∈ ks ∨ ∃ x ∈ als, k = x.k ∨ k = x.j
  sorted : ks.Pairwise (· < ·)
  inn : ∀ k ∈ ks, k < ops.size
  dsts : ∀ k k' d, dstOf ops k = some d → dstOf ops k' = some d → k = k'
  fits : ∀ k d, dstOf ops k = some d → d < N
  look : ∀ k ∈ ks, ∀ (o : Oper), ops[k]? = some o → ∀ s ∈ o.looksAt ops, ∀ k', dstOf ops k' = some s → k' ∈ ks ∧ ∃ e ∈ o.after, Region.binds md e = true ∧ e.on = k'
  ak : ∀ x ∈ als, dstOf ops x.k = some x.d ∧ x.k ∉ ks ∧ x.j ∉ ks
  ajk : ∀ x ∈ als, ∀ (o : Oper), ops[x.j]? = some o → (∃ e ∈ o.after, Region.binds md e = true ∧ e.on = x.k) ∧ ∃ k' ∈ ks, dstOf ops k' = some x.sv ∧ ∃ e ∈ o.after, Region.binds md e = true ∧ e.on = k'
  ndk : (als.map (·.k)).Nodup
  ndj : (als.map (·.j)).Nodup
  nkj : ∀ x ∈ als, ∀ y ∈ als, x.k ≠ y.j

def upto (n : Nat) (f : Nat → Bool) : Bool := (List.range n).all f
theorem upto_spec {n : Nat} {f : Nat → Bool} (h : upto n f = true) (k : Nat) (hk : k < n) : f k = true := List.all_eq_true.1 h k (List.mem_range.2 hk)
def edgeB (md : Region.Mode) (o : Oper) (k : Nat) : Bool := o.after.any fun e => Region.binds md e && e.on == k
theorem edge_spec {o : Oper} {k : Nat} (h : edgeB md o k = true) : ∃ e ∈ o.after, Region.binds md e = true ∧ e.on = k := by
  unfold edgeB at h
  simp only [Array.any_eq_true', Bool.and_eq_true, beq_iff_eq] at h
  exact h
def freeB (md : Region.Mode) (ops : Array Oper) (N : Nat) (ks : List Nat) (als : List (Nat × Tmp × Nat × Tmp)) : Bool :=
  Region.noSelect ops &&
  (ops.all fun o => o.guard.isNone) &&
  (upto ops.size fun k => ((ops[k]?).map fun o => o.after.all fun e => !Region.binds md e || decide (e.on < k)).getD false) &&
  (upto ops.size fun k => ks.contains k || als.any fun x => k == x.1 || k == x.2.2.1) &&
  decide (ks.Pairwise (· < ·)) &&
  (ks.all fun k => decide (k < ops.size)) &&
  (upto ops.size fun k => upto ops.size fun k' => k == k' || (match dstOf ops k with | none => true | some d => dstOf ops k' != some d)) &&
  (upto ops.size fun k => match dstOf ops k with | none => true | some d => decide (d < N)) &&
  (ks.all fun k => ((ops[k]?).map fun o => (o.looksAt ops).all fun s => upto ops.size fun k' => dstOf ops k' != some s || (ks.contains k' && edgeB md o k')).getD true) &&
  (als.all fun x => dstOf ops x.1 == some x.2.1 && !ks.contains x.1 && !ks.contains x.2.2.1) &&
  (als.all fun x => ((ops[x.2.2.1]?).map fun o => edgeB md o x.1 && ks.any fun k' => dstOf ops k' == some x.2.2.2 && edgeB md o k').getD true) &&
  decide ((als.map (·.1)).Nodup) && decide ((als.map (·.2.2.1)).Nodup) &&
  (als.all fun x => als.all fun y => x.1 != y.2.2.1)

theorem fits_of {N : Nat} {ks : List Nat} {als : List Nw} (h : freeB md ops N ks (als.map fun x => (x.k, x.d, x.j, x.sv)) = true) : Fits md ops N ks als := by
  unfold freeB at h
  simp only [Bool.and_eq_true] at h
  obtain ⟨⟨⟨⟨⟨⟨⟨⟨⟨⟨⟨⟨⟨h1, h2⟩, h3⟩, h4⟩, h5⟩, h6⟩, h7⟩, h8⟩, h9⟩, h10⟩, h11⟩, h12⟩, h13⟩, h14⟩ := h
  refine ⟨h1, ?_, ?_, ?_, by simpa using h5, ?_, ?_, ?_, ?_, ?_, ?_, by simpa [List.map_map, Function.comp_def] using h12, by simpa [List.map_map, Function.comp_def] using h13, ?_⟩
  · intro k o ho
    have := Array.all_eq_true_iff_forall_mem.1 h2 o (Array.mem_of_getElem? ho)
    simpa using this
  · intro k o ho e he hb
    have hk : k < ops.size := (Array.getElem?_eq_some_iff.1 ho).1
    have := upto_spec h3 k hk
    rw [ho] at this
    simp only [Option.map_some, Option.getD_some] at this
    have := Array.all_eq_true_iff_forall_mem.1 this e he
    simpa [hb] using this
  · intro k hk
    have := upto_spec h4 k hk
    simp only [Bool.or_eq_true, List.any_map, List.any_eq_true, Function.comp_def, beq_iff_eq] at this
    rcases this with h | ⟨x, hx, h⟩
    · exact .inl (by simpa using h)
    · exact .inr ⟨x, hx, h⟩
  · intro k hk
    have := List.all_eq_true.1 h6 k hk
    simpa using this
  · intro k k' d hd hd'
    have := upto_spec (upto_spec h7 k (dstOf_lt hd)) k' (dstOf_lt hd')
    rw [hd, hd'] at this
    simpa using this
  · intro k d hd
    have := upto_spec h8 k (dstOf_lt hd)
    rw [hd] at this
    simpa using this
  · intro k hk o ho s hs k' hk'
    have := List.all_eq_true.1 h9 k hk
    rw [ho] at this
    simp only [Option.map_some, Option.getD_some] at this
    have := upto_spec (List.all_eq_true.1 this s hs) k' (dstOf_lt hk')
    rw [hk'] at this
    simp only [bne_self_eq_false, Bool.false_or, Bool.and_eq_true] at this
    exact ⟨by simpa using this.1, edge_spec this.2⟩
  · intro x hx
    have := List.all_eq_true.1 h10 _ (List.mem_map.2 ⟨x, hx, rfl⟩)
    simp only [Bool.and_eq_true, beq_iff_eq, Bool.not_eq_true'] at this
    exact ⟨this.1.1, by simpa using this.1.2, by simpa using this.2⟩
  · intro x hx o ho
    have := List.all_eq_true.1 h11 _ (List.mem_map.2 ⟨x, hx, rfl⟩)
    simp only [ho, Option.map_some, Option.getD_some, Bool.and_eq_true, List.any_eq_true, beq_iff_eq] at this
    obtain ⟨e1, k', hk', e2, e3⟩ := this
    exact ⟨edge_spec e1, k', hk', e2, edge_spec e3⟩
  · intro x hx y hy
    have := List.all_eq_true.1 (List.all_eq_true.1 h14 _ (List.mem_map.2 ⟨x, hx, rfl⟩)) _ (List.mem_map.2 ⟨y, hy, rfl⟩)
    simpa using this

/-! ### the quiet ones laid one after the other -/
def puts (ops : Array Oper) (V : Nat → Value) : List Nat → Act → Act
  | [], a => a
  | k :: ks, a => puts ops V ks (a.put (dstOf ops k) (V k))
theorem put_size (a : Act) (d : Option Tmp) (v : Value) : (a.put d v).tmps.size = a.tmps.size := by cases d <;> simp [Act.put]
theorem put_defers (a : Act) (d : Option Tmp) (v : Value) : (a.put d v).defers = a.defers := by cases d <;> rfl
theorem put_same (a : Act) (d : Tmp) (v : Value) (h : d < a.tmps.size) : (a.put (some d) v).tmps[d]? = some v := by simp [Act.put, h]
theorem put_ne (a : Act) (d : Option Tmp) (v : Value) (s : Tmp) (h : d ≠ some s) : (a.put d v).tmps[s]? = a.tmps[s]? := by
  cases d with
  | none => rfl
  | some d => exact Array.getElem?_setIfInBounds_ne (fun e => h (by rw [e]))
theorem puts_size (V : Nat → Value) : ∀ (ks : List Nat) (a : Act), (puts ops V ks a).tmps.size = a.tmps.size := by
  intro ks; induction ks with
  | nil => intro a; rfl
  | cons k ks ih => intro a; rw [puts, ih, put_size]
theorem puts_defers (V : Nat → Value) : ∀ (ks : List Nat) (a : Act), (puts ops V ks a).defers = a.defers := by
  intro ks; induction ks with
  | nil => intro a; rfl
  | cons k ks ih => intro a; rw [puts, ih, put_defers]
theorem puts_ne (V : Nat → Value) (s : Tmp) : ∀ (ks : List Nat) (a : Act), (∀ k ∈ ks, dstOf ops k ≠ some s) → (puts ops V ks a).tmps[s]? = a.tmps[s]? := by
  intro ks; induction ks with
  | nil => intro a _; rfl
  | cons k ks ih => intro a h; rw [puts, ih _ (fun k' hk' => h k' (List.mem_cons_of_mem _ hk')), put_ne _ _ _ _ (h k (by simp))]
theorem puts_at (V : Nat → Value) (d : Tmp) (k : Nat) (hd : dstOf ops k = some d) : ∀ (ks : List Nat) (a : Act), d < a.tmps.size → k ∈ ks → (∀ k' ∈ ks, dstOf ops k' = some d → k' = k) → (puts ops V ks a).tmps[d]? = some (V k) := by
  intro ks; induction ks with
  | nil => intro a _ h; cases h
  | cons k0 ks ih =>
    intro a hlt hk hu
    rw [puts]
    by_cases hin : k ∈ ks
    · exact ih _ (by rw [put_size]; exact hlt) hin (fun k' hk' => hu k' (List.mem_cons_of_mem _ hk'))
    · have : k = k0 := by rcases List.mem_cons.1 hk with h | h; exact h; exact absurd h hin
      subst this
      rw [puts_ne V d ks _ (fun k' hk' e => hin (hu k' (List.mem_cons_of_mem _ hk') e ▸ hk')), hd, put_same _ _ _ hlt]
theorem puts_congr (V V' : Nat → Value) : ∀ (ks : List Nat) (a : Act), (∀ k ∈ ks, V k = V' k) → puts ops V ks a = puts ops V' ks a := by
  intro ks; induction ks with
  | nil => intro a _; rfl
  | cons k ks ih => intro a h; rw [puts, puts, h k (by simp), ih _ (fun k' hk' => h k' (List.mem_cons_of_mem _ hk'))]
theorem exec_same {o : Oper} (hs : ∀ cs b, o.op ≠ .select cs b) {a b : Act} (h : ∀ s ∈ o.looksAt ops, a.tmps[s]? = b.tmps[s]?) : execOp a.eval o = execOp b.eval o :=
  execOp_congr o hs fun x hx => by
    cases x with
    | tmp t =>
      have := h t (List.mem_append_left _ (List.mem_filterMap.2 ⟨.tmp t, by simpa using hx, rfl⟩))
      simp only [Act.eval, Array.getD_eq_getD_getElem?, this]
    | const v => rfl
    | global g => rfl
    | func f => rfl

theorem Walk.puts_ {K : Act → Prop} (hsel : ∀ (j : Nat) (o : Oper) cs b, ops[j]? = some o → o.op ≠ .select cs b) :
    ∀ (ks : List Nat) (a : Act), ks.Pairwise (· < ·) → (∀ k ∈ ks, ∀ o, ops[k]? = some o → ∀ s ∈ o.looksAt ops, ∀ k', dstOf ops k' = some s → k' < k) → Walk P ops W K ks a →
      ∃ V : Nat → Value, K (puts ops V ks a) ∧ ∀ k ∈ ks, ∃ o, ops[k]? = some o ∧ Firm P W o (V k) (puts ops V ks a) := by
  intro ks
  induction ks with
  | nil => intro a _ _ h; exact ⟨fun _ => undef, h, fun k hk => by cases hk⟩
  | cons k ks ih =>
    intro a hp hl h
    rw [List.pairwise_cons] at hp
    obtain ⟨o, ho, _, v, hf, hw⟩ := h
    obtain ⟨V, hK, hV⟩ := ih _ hp.2 (fun k' hk' => hl k' (List.mem_cons_of_mem _ hk')) hw
    have hnk : k ∉ ks := fun hk => absurd (hp.1 k hk) (Nat.lt_irrefl _)
    have e1 : puts ops (fun j => if j = k then v else V j) (k :: ks) a = puts ops V ks (a.put o.dst v) := by
      rw [puts]
      simp only [if_true, dstOf_of ho]
      exact puts_congr _ _ ks _ (fun j hj => by rw [if_neg (fun e : j = k => hnk (by rw [← e]; exact hj))])
    refine ⟨fun j => if j = k then v else V j, by rw [e1]; exact hK, fun j hj => ?_⟩
    by_cases hjk : j = k
    · subst hjk
      refine ⟨o, ho, ?_⟩
      simp only [if_true]
      refine hf.of_same (exec_same (ops := ops) (fun cs b => hsel j o cs b ho) fun s hs => ?_)
      refine puts_ne _ s _ _ fun k' hk' e => ?_
      have h1 := hl j (by simp) o ho s hs k' e
      rcases List.mem_cons.1 hk' with rfl | h2
      · omega
      · have := hp.1 k' h2; omega
    · obtain ⟨o', ho', hf'⟩ := hV j (by rcases List.mem_cons.1 hj with h | h; exact absurd h hjk; exact h)
      refine ⟨o', ho', ?_⟩
      rw [e1]
      simp only [if_neg hjk]
      exact hf'

/-! ### the invariant -/
variable {N : Nat} {ks : List Nat} {als : List Nw}
structure Inv (md : Region.Mode) (ops : Array Oper) (W : World) (ks : List Nat) (als : List Nw) (a0 A : Act) (G : Nat → Nat) (t : Array Bool) (a : Act) (w : World) : Prop where
  tsz : t.size = ops.size
  defs : a.defers = a0.defers
  sz : a.tmps.size = a0.tmps.size
  keep : ∀ s, (∀ k, dstOf ops k = some s → t.getD k false = false) → a.tmps[s]? = a0.tmps[s]?
  quiet : ∀ k ∈ ks, t.getD k false = true → ∀ d, dstOf ops k = some d → a.tmps[d]? = A.tmps[d]?
  al : ∀ x ∈ als, t.getD x.k false = true → a.tmps[x.d]? = some (ptr (G x.k)) ∧ W.heap.size ≤ G x.k ∧ w.heap[G x.k]? = some (.cells (if t.getD x.j false = true then x.row else x.old) x.T)
  dist : ∀ x ∈ als, ∀ y ∈ als, x.k ≠ y.k → t.getD x.k false = true → t.getD y.k false = true → G x.k ≠ G y.k
  below : Below W.heap.size W w
  wait : ∀ (k : Nat) (o : Oper), ops[k]? = some o → t.getD k false = true → ∀ e ∈ o.after, Region.binds md e = true → t.getD e.on false = true
theorem set_at {t : Array Bool} {k : Nat} (hk : k < t.size) : (t.setIfInBounds k true).getD k false = true := by simp [Array.getD_eq_getD_getElem?, hk]
theorem set_or {t : Array Bool} {k j : Nat} (h : (t.setIfInBounds k true).getD j false = true) : j = k ∨ t.getD j false = true := by
  by_cases e : k = j
  · exact .inl e.symm
  · rw [getD_set_ne false e] at h; exact .inr h
theorem set_mono {t : Array Bool} {k j : Nat} (h : t.getD j false = true) : (t.setIfInBounds k true).getD j false = true := by
  by_cases e : k = j
  · subst e
    refine set_at ?_
    rcases Nat.lt_or_ge k t.size with h1 | h1
    · exact h1
    · rw [Array.getD_eq_getD_getElem?, Array.getElem?_eq_none h1] at h; cases h
  · rw [getD_set_ne false e]; exact h

/-- one step, whatever is ready -/
theorem Inv.step {a0 A : Act} {V : Nat → Value} {K : Act → World → Prop} {R : Exit → Act → World → Prop} (F : Fits md ops N ks als) (hN : a0.tmps.size = N) (hA : A = puts ops V ks a0)
    (hV : ∀ k ∈ ks, ∃ o, ops[k]? = some o ∧ Firm P W o (V k) A) (hal : ∀ x ∈ als, (∃ o, ops[x.k]? = some o ∧ IsAl P o x.d (.cells x.old x.T)) ∧ ∃ o, ops[x.j]? = some o ∧ IsSt P o x)
    (hsv : ∀ x ∈ als, A.tmps[x.sv]? = some (.agg x.row))
    {G : Nat → Nat} {t : Array Bool} {a : Act} {w : World} (I : Inv md ops W ks als a0 A G t a w) {k : Nat} (hk : k ∈ Region.ready md ops t)
    (h : ∀ G' a' w', Inv md ops W ks als a0 A G' (t.setIfInBounds k true) a' w' → K a' w') : wpOp P ops R k K a w := by
  obtain ⟨hkt, o, ho, hed⟩ := mem_ready.1 hk
  have hkn : k < ops.size := (Array.getElem?_eq_some_iff.1 ho).1
  have hkf : t.getD k false = false := getD_both hkt
  have hwt : ∀ f, Region.wanted o f = true := fun f => by simp [Region.wanted, F.gd k o ho]
  have hsel := fun cs b => Region.noSelect_spec F.sel k o cs b ho
  have hdk : ∀ s, dstOf ops k = some s → s < a.tmps.size := fun s hs => by rw [I.sz, hN]; exact F.fits k s hs
  have hkt' : k < t.size := by rw [I.tsz]; exact hkn
  have wait' : ∀ (k' : Nat) (o' : Oper), ops[k']? = some o' → (t.setIfInBounds k true).getD k' false = true → ∀ e ∈ o'.after, Region.binds md e = true → (t.setIfInBounds k true).getD e.on false = true := by
    intro k' o' ho' ht' e he hb
    rcases set_or ht' with rfl | ht'
    · obtain rfl : o' = o := Option.some.inj (ho'.symm.trans ho)
      exact set_mono (hed e he hb)
    · exact set_mono (I.wait k' o' ho' ht' e he hb)
  rcases F.cover k hkn with hq | ⟨x, hx, hxk | hxj⟩
  · -- a quiet one
    obtain ⟨o', ho', hfirm⟩ := hV k hq
    obtain rfl : o' = o := Option.some.inj (ho'.symm.trans ho)
    have hsame : execOp a.eval o' = execOp A.eval o' := by
      refine exec_same (ops := ops) hsel fun s hs => ?_
      by_cases hex : ∃ k', dstOf ops k' = some s
      · obtain ⟨k', hk'⟩ := hex
        obtain ⟨hks, e, he, hb, hon⟩ := F.look k hq o' ho s hs k' hk'
        have := hed e he hb
        rw [hon] at this
        exact I.quiet k' hks this s hk'
      · rw [I.keep s (fun k' hk' => absurd ⟨k', hk'⟩ hex), hA, puts_ne V s ks a0 (fun k' _ e => hex ⟨k', e⟩)]
    have hfirm' : Firm P W o' (V k) a := hfirm.of_same hsame
    refine wpOp_of_qOp (C := Cls w) (K := fun a' => a' = a.put o'.dst (V k)) (Cls.refl w) (fun a' w' hw' ha' => ?_) ?_
    · subst ha'
      have hdst := dstOf_of ho
      rw [← hdst]
      have hb := hw'.below
      refine h G _ _ ⟨by simp [I.tsz], by rw [put_defers]; exact I.defs, by rw [put_size]; exact I.sz, fun s hs => ?_, fun k' hk' ht d hd => ?_, fun x hx ht => ?_, fun x hx y hy hne h1 h2 => ?_, I.below.trans (hb.mono I.below.size), wait'⟩
      · have hne : dstOf ops k ≠ some s := fun e => by have := hs k e; rw [set_at hkt'] at this; cases this
        rw [put_ne _ _ _ _ hne]
        refine I.keep s fun k' hk' => ?_
        cases ht : t.getD k' false
        · rfl
        · have := hs k' hk'; rw [set_mono ht] at this; cases this
      · rcases set_or ht with rfl | ht2
        · rw [hd, put_same _ _ _ (hdk d hd), hA, puts_at V d k' hd ks a0 (by rw [← I.sz]; exact hdk d hd) hk' (fun k'' _ e => F.dsts _ _ _ e hd)]
        · by_cases e : k' = k
          · subst e; rw [hkf] at ht2; cases ht2
          · rw [put_ne _ _ _ _ (fun e2 => e (F.dsts _ _ _ hd e2))]; exact I.quiet k' hk' ht2 d hd
      · have hxk := F.ak x hx
        have hne : x.k ≠ k := fun e => hxk.2.1 (by rw [e]; exact hq)
        have hnj : x.j ≠ k := fun e => hxk.2.2 (by rw [e]; exact hq)
        rw [getD_set_ne false (Ne.symm hne)] at ht
        obtain ⟨h1, h2, h3⟩ := I.al x hx ht
        rw [put_ne _ _ _ _ (fun e => hne (F.dsts _ _ _ hxk.1 e)), getD_set_ne false (Ne.symm hnj), hb.block _ (lt_of_heap h3)]
        exact ⟨h1, h2, h3⟩
      · have hxk := F.ak x hx
        have hyk := F.ak y hy
        rw [getD_set_ne false (fun e => hxk.2.1 (by rw [← e]; exact hq))] at h1
        rw [getD_set_ne false (fun e => hyk.2.1 (by rw [← e]; exact hq))] at h2
        exact I.dist x hx y hy hne h1 h2
    · unfold qOp
      simp only [ho, hwt, if_true]
      exact ⟨V k, fun w1 hw1 => upon_mono (fun w2 hw2 => hw1.trans hw2) (hfirm' w1 (I.below.trans (hw1.below.mono I.below.size))), rfl⟩
  · -- a new block
    subst hxk
    obtain ⟨⟨o', ho', hIs⟩, ⟨oj, hoj, hSt⟩⟩ := hal x hx
    obtain rfl : o' = o := Option.some.inj (ho'.symm.trans ho)
    have hxk := F.ak x hx
    unfold wpOp
    simp only [ho, hwt, if_true]
    refine .inl ?_
    unfold Oper.wp
    rw [hIs.run]
    show K (a.put o'.dst (ptr w.heap.size)) (w.alloc (.cells x.old x.T))
    rw [hIs.dst]
    have hjf : t.getD x.j false = false := by
      cases ht : t.getD x.j false
      · rfl
      · obtain ⟨⟨e, he, hb, hon⟩, _⟩ := F.ajk x hx oj hoj
        have := I.wait x.j oj hoj ht e he hb
        rw [hon, hkf] at this; cases this
    have hjk : x.k ≠ x.j := F.nkj x hx x hx
    refine h (fun j => if j = x.k then w.heap.size else G j) _ _ ⟨by simp [I.tsz], by rw [put_defers]; exact I.defs, by rw [put_size]; exact I.sz, fun s hs => ?_, fun k' hk' ht d hd => ?_, fun y hy ht => ?_, fun y hy z hz hne h1 h2 => ?_, I.below.alloc I.below.size _, wait'⟩
    · have hne : x.d ≠ s := fun e => by have := hs x.k (by rw [← e]; exact hxk.1); rw [set_at hkt'] at this; cases this
      rw [put_ne _ _ _ _ (fun e => hne (Option.some.inj e))]
      refine I.keep s fun k' hk' => ?_
      cases ht : t.getD k' false
      · rfl
      · have := hs k' hk'; rw [set_mono ht] at this; cases this
    · have hne : k' ≠ x.k := fun e => hxk.2.1 (by rw [← e]; exact hk')
      rw [getD_set_ne false (Ne.symm hne)] at ht
      rw [put_ne _ _ _ _ (fun e => hne (F.dsts _ _ _ hd (by rw [← Option.some.inj e]; exact hxk.1)))]
      exact I.quiet k' hk' ht d hd
    · by_cases hyk : y.k = x.k
      · obtain rfl : y = x := nodup_inj F.ndk y hy x hx hyk
        rw [put_same _ _ _ (hdk _ hxk.1), getD_set_ne false hjk, hjf]
        simp only [if_true, Bool.false_eq_true, if_false]
        exact ⟨trivial, I.below.size, heap_alloc_new _ _⟩
      · rw [getD_set_ne false (Ne.symm hyk)] at ht
        obtain ⟨h1, h2, h3⟩ := I.al y hy ht
        rw [put_ne _ _ _ _ (fun e => hyk (F.dsts _ _ _ (F.ak y hy).1 (by rw [← Option.some.inj e]; exact hxk.1))), getD_set_ne false (F.nkj x hx y hy), if_neg hyk, heap_alloc_old _ _ (lt_of_heap h3)]
        exact ⟨h1, h2, h3⟩
    · by_cases hyk : y.k = x.k
      · have hzk : z.k ≠ x.k := fun e => hne (hyk.trans e.symm)
        rw [getD_set_ne false (Ne.symm hzk)] at h2
        have := lt_of_heap (I.al z hz h2).2.2
        simp only [if_pos hyk, if_neg hzk]; omega
      · by_cases hzk : z.k = x.k
        · rw [getD_set_ne false (Ne.symm hyk)] at h1
          have := lt_of_heap (I.al y hy h1).2.2
          simp only [if_pos hzk, if_neg hyk]; omega
        · rw [getD_set_ne false (Ne.symm hyk)] at h1
          rw [getD_set_ne false (Ne.symm hzk)] at h2
          simp only [if_neg hyk, if_neg hzk]
          exact I.dist y hy z hz hne h1 h2
  · -- a store
    subst hxj
    obtain ⟨_, ⟨o', ho', hSt⟩⟩ := hal x hx
    obtain rfl : o' = o := Option.some.inj (ho'.symm.trans ho)
    have hxk := F.ak x hx
    obtain ⟨⟨e1, he1, hb1, hon1⟩, k2, hk2, hd2, e2, he2, hb2, hon2⟩ := F.ajk x hx o' ho
    have t1 := hed e1 he1 hb1
    have t2 := hed e2 he2 hb2
    rw [hon1] at t1
    rw [hon2] at t2
    obtain ⟨g1, g2, g3⟩ := I.al x hx t1
    rw [hkf] at g3
    have hsvv := I.quiet k2 hk2 t2 x.sv hd2
    rw [hsv x hx] at hsvv
    obtain ⟨ty, hop, hinfo⟩ := hSt.op
    unfold wpOp
    simp only [ho, hwt, if_true]
    refine .inl (wp_store_row ty (.tmp x.d) (.tmp x.sv) hop (G x.k) x.row (by simp [Act.eval, Array.getD_eq_getD_getElem?, g1]) (by simp [Act.eval, Array.getD_eq_getD_getElem?, hsvv]) x.T x.old g3 hinfo hSt.size hSt.one ?_)
    rw [hSt.dst]
    show K a _
    have hdn : ∀ s, dstOf ops x.j ≠ some s := fun s e => by rw [dstOf_of ho, hSt.dst] at e; cases e
    refine h G _ _ ⟨by simp [I.tsz], I.defs, I.sz, fun s hs => ?_, fun k' hk' ht d hd => ?_, fun y hy ht => ?_, fun y hy z hz hne h1 h2 => ?_, below_setRow I.below g2 _, wait'⟩
    · refine I.keep s fun k' hk' => ?_
      cases ht : t.getD k' false
      · rfl
      · have := hs k' hk'; rw [set_mono ht] at this; cases this
    · rcases set_or ht with rfl | ht
      · exact absurd hd (hdn d)
      · exact I.quiet k' hk' ht d hd
    · have ht' : t.getD y.k false = true := by rw [getD_set_ne false (Ne.symm (F.nkj y hy x hx))] at ht; exact ht
      obtain ⟨h1, h2, h3⟩ := I.al y hy ht'
      by_cases hyk : y.k = x.k
      · obtain rfl : y = x := nodup_inj F.ndk y hy x hx hyk
        rw [set_at hkt', setRow_heap _ _ _ _ _ _ g3]
        exact ⟨h1, h2, rfl⟩
      · have hyj : x.j ≠ y.j := fun e => hyk (by rw [nodup_inj F.ndj x hx y hy e])
        rw [getD_set_ne false hyj, setRow_other _ _ _ _ (I.dist y hy x hx hyk ht' t1)]
        exact ⟨h1, h2, h3⟩
    · rw [getD_set_ne false (Ne.symm (F.nkj y hy x hx))] at h1
      rw [getD_set_ne false (Ne.symm (F.nkj z hz x hx))] at h2
      exact I.dist y hy z hz hne h1 h2

def lay (G : Nat → Nat) : List Nw → Act → Act
  | [], A => A
  | x :: r, A => lay G r (A.put (some x.d) (ptr (G x.k)))
theorem lay_size (G : Nat → Nat) : ∀ (r : List Nw) (A : Act), (lay G r A).tmps.size = A.tmps.size := by
  intro r; induction r with
  | nil => intro A; rfl
  | cons x r ih => intro A; rw [lay, ih, put_size]
theorem lay_defers (G : Nat → Nat) : ∀ (r : List Nw) (A : Act), (lay G r A).defers = A.defers := by
  intro r; induction r with
  | nil => intro A; rfl
  | cons x r ih => intro A; rw [lay, ih, put_defers]
theorem lay_ne (G : Nat → Nat) (s : Tmp) : ∀ (r : List Nw) (A : Act), (∀ x ∈ r, x.d ≠ s) → (lay G r A).tmps[s]? = A.tmps[s]? := by
  intro r; induction r with
  | nil => intro A _; rfl
  | cons x r ih => intro A h; rw [lay, ih _ (fun y hy => h y (List.mem_cons_of_mem _ hy)), put_ne _ _ _ _ (fun e => h x (by simp) (Option.some.inj e))]
theorem lay_at (G : Nat → Nat) (s : Tmp) (g : Nat) : ∀ (r : List Nw) (A : Act), s < A.tmps.size → (∃ x ∈ r, x.d = s) → (∀ x ∈ r, x.d = s → G x.k = g) → (lay G r A).tmps[s]? = some (ptr g) := by
  intro r; induction r with
  | nil => intro A _ h; obtain ⟨x, hx, _⟩ := h; cases hx
  | cons z r ih =>
    intro A hlt hx hu
    rw [lay]
    by_cases hin : ∃ y ∈ r, y.d = s
    · exact ih _ (by rw [put_size]; exact hlt) hin (fun y hy => hu y (List.mem_cons_of_mem _ hy))
    · obtain ⟨x, hx, hxs⟩ := hx
      have hz : x = z := by
        rcases List.mem_cons.1 hx with h | h
        · exact h
        · exact absurd ⟨x, h, hxs⟩ hin
      subst hz
      subst hxs
      rw [lay_ne _ _ _ _ (fun y hy e => hin ⟨y, hy, e⟩), put_same _ _ _ hlt, hu x (by simp) rfl]

theorem free_any {a0 A : Act} {V : Nat → Value} {R : Exit → Act → World → Prop} (F : Fits md ops N ks als) (hN : a0.tmps.size = N) (hA : A = puts ops V ks a0)
    (hV : ∀ k ∈ ks, ∃ o, ops[k]? = some o ∧ Firm P W o (V k) A) (hal : ∀ x ∈ als, (∃ o, ops[x.k]? = some o ∧ IsAl P o x.d (.cells x.old x.T)) ∧ ∃ o, ops[x.j]? = some o ∧ IsSt P o x)
    (hsv : ∀ x ∈ als, A.tmps[x.sv]? = some (.agg x.row))
    (hEnd : ∀ G a w, Inv md ops W ks als a0 A G (a := a) (w := w) (t := Array.replicate ops.size true) → R .normal a w) :
    ∀ (f : Nat) (r : List Nat) (G : Nat → Nat) (t : Array Bool) (a : Act) (w : World), r.length ≤ f → (∀ k, k < ops.size → t.getD k false = false → k ∈ r) → Inv md ops W ks als a0 A G t a w → wpAny P md ops R f t a w := by
  have over : ∀ (G : Nat → Nat) (t : Array Bool) (a : Act) (w : World), Region.ready md ops t = [] → Inv md ops W ks als a0 A G t a w → R .normal a w := by
    intro G t a w hr I
    have hall : ∀ k, k < ops.size → t.getD k false = true := by
      intro k
      induction k using Nat.strongRecOn with
      | ind k ih =>
        intro hk
        cases ht : t.getD k false
        · have : k ∈ Region.ready md ops t := mem_ready.2 ⟨getD_in (by rw [I.tsz]; exact hk) ht, ops[k], by simp [hk], fun e he hb => by
            have h1 := F.back k ops[k] (by simp [hk]) e he hb
            exact ih _ h1 (by omega)⟩
          rw [hr] at this; cases this
        · rfl
    have : t = Array.replicate ops.size true := by
      apply Array.ext
      · simp [I.tsz]
      · intro i h1 h2
        have := hall i (by rw [← I.tsz]; exact h1)
        simpa [Array.getD_eq_getD_getElem?, h1] using this
    subst this
    exact hEnd G a w I
  intro f
  induction f with
  | zero =>
    intro r G t a w hl hr I
    have hnil : r = [] := List.length_eq_zero_iff.1 (by omega)
    have : Region.ready md ops t = [] := by
      apply List.eq_nil_iff_forall_not_mem.2
      intro k hk
      obtain ⟨h1, o, ho, _⟩ := mem_ready.1 hk
      have := hr k (Array.getElem?_eq_some_iff.1 ho).1 (getD_both h1)
      rw [hnil] at this; cases this
    exact ⟨this, over G t a w this I⟩
  | succ f ih =>
    intro r G t a w hl hr I
    refine ⟨fun h0 => over G t a w h0 I, fun k hk => Inv.step F hN hA hV hal hsv I hk fun G' a' w' I' => ?_⟩
    obtain ⟨h1, o, ho, _⟩ := mem_ready.1 hk
    have hkr := hr k (Array.getElem?_eq_some_iff.1 ho).1 (getD_both h1)
    refine ih (r.erase k) G' _ a' w' (by rw [List.length_erase_of_mem hkr]; omega) (fun j hj ht => ?_) I'
    by_cases e : k = j
    · subst e
      rw [set_at (by rw [I.tsz]; exact hj)] at ht; cases ht
    · rw [getD_set_ne false e] at ht
      exact (List.mem_erase_of_ne (Ne.symm e)).2 (hr j hj ht)
end

/-- THE LAW -/
theorem wp_region_free {P : Program} {id : Nat} {Q : Exit → Act → World → Prop} {a : Act} {w : World} {l : List Oper} (N : Nat) (ks : List Nat) (als : List Nw) (hm : P.follows .mixedOrders = true) (hN : a.tmps.size = N)
    (hB : freeB .any l.toArray N ks (als.map fun x => (x.k, x.d, x.j, x.sv)) = true)
    (hal : ∀ x ∈ als, (∃ o, l.toArray[x.k]? = some o ∧ IsAl P o x.d (.cells x.old x.T)) ∧ ∃ o, l.toArray[x.j]? = some o ∧ IsSt P o x)
    (h : Walk P l.toArray w (fun A => (∀ x ∈ als, A.tmps[x.sv]? = some (.agg x.row)) ∧
      ∀ G : Nat → Nat, (∀ x ∈ als, w.heap.size ≤ G x.k) → (∀ x ∈ als, ∀ y ∈ als, x.k ≠ y.k → G x.k ≠ G y.k) → ∀ w', Below w.heap.size w w' → (∀ x ∈ als, w'.heap[G x.k]? = some (.cells x.row x.T)) → wpList P l.toArray Q [] (lay G als A) w') ks a) : (Code.region id l.toArray true).wp P Q a w := by
  have F := fits_of hB
  obtain ⟨V, ⟨hsv, hK⟩, hV⟩ := Walk.puts_ (fun j o cs b => Region.noSelect_spec F.sel j o cs b) ks a F.sorted (fun k hk o ho s hs k' hk' => by
    obtain ⟨_, e, he, hb, hon⟩ := F.look k hk o ho s hs k' hk'
    have := F.back k o ho e he hb
    omega) h
  refine wp_region_any hm ?_
  refine free_any (V := V) F hN rfl hV hal hsv (fun G b w' I => ?_) _ (List.range l.toArray.size) (fun _ => 0) _ _ _ (by simp) (fun k hk _ => List.mem_range.2 hk) ?inv
  case inv =>
    refine ⟨by simp, rfl, rfl, fun s _ => rfl, fun k _ ht => ?_, fun x _ ht => ?_, fun x _ y _ _ ht => ?_, ⟨rfl, rfl, rfl, Nat.le_refl _, fun _ _ => rfl⟩, fun k o _ ht => ?_⟩ <;> (rw [getD_replicate_false] at ht; cases ht)
  have tr : ∀ k, k < l.toArray.size → (Array.replicate l.toArray.size true).getD k false = true := fun k hk => by simp [Array.getD_eq_getD_getElem?, hk] at *; simp [hk]
  have hkl : ∀ x ∈ als, x.k < l.toArray.size ∧ x.j < l.toArray.size := fun x hx => by
    obtain ⟨⟨o, ho, _⟩, ⟨o', ho', _⟩⟩ := hal x hx
    exact ⟨(Array.getElem?_eq_some_iff.1 ho).1, (Array.getElem?_eq_some_iff.1 ho').1⟩
  have hb : b = lay G als (puts l.toArray V ks a) := by
    have e1 : b.tmps = (lay G als (puts l.toArray V ks a)).tmps := by
      apply Array.ext_getElem?
      intro s
      by_cases h1 : ∃ x ∈ als, x.d = s
      · obtain ⟨x, hx, rfl⟩ := h1
        have h2 := F.ak x hx
        rw [lay_at G x.d (G x.k) als _ (by rw [puts_size, hN]; exact F.fits _ _ h2.1) ⟨x, hx, rfl⟩ (fun y hy e => by rw [F.dsts _ _ _ (F.ak y hy).1 (by rw [e]; exact h2.1)])]
        exact (I.al x hx (tr _ (hkl x hx).1)).1
      · rw [lay_ne _ _ _ _ (fun x hx e => h1 ⟨x, hx, e⟩)]
        by_cases h2 : ∃ k ∈ ks, dstOf l.toArray k = some s
        · obtain ⟨k, hk, hd⟩ := h2
          exact I.quiet k hk (tr k (F.inn k hk)) s hd
        · rw [puts_ne V s ks a (fun k hk e => h2 ⟨k, hk, e⟩)]
          refine I.keep s fun k hk => ?_
          rcases F.cover k (dstOf_lt hk) with hq | ⟨x, hx, rfl | rfl⟩
          · exact absurd ⟨k, hq, hk⟩ h2
          · exact absurd ⟨x, hx, Option.some.inj ((F.ak x hx).1.symm.trans hk)⟩ h1
          · obtain ⟨_, ⟨o', ho', hSt⟩⟩ := hal x hx
            rw [dstOf_of ho', hSt.dst] at hk; cases hk
    have e2 : b.defers = (lay G als (puts l.toArray V ks a)).defers := by rw [lay_defers, puts_defers]; exact I.defs
    generalize lay G als (puts l.toArray V ks a) = c at e1 e2
    cases b; cases c; simp only at e1 e2; rw [e1, e2]
  rw [hb]
  refine hK G (fun x hx => (I.al x hx (tr _ (hkl x hx).1)).2.1) (fun x hx y hy hne => I.dist x hx y hy hne (tr _ (hkl x hx).1) (tr _ (hkl y hy).1)) w' I.below (fun x hx => ?_)
  have := (I.al x hx (tr _ (hkl x hx).1)).2.2
  rw [tr _ (hkl x hx).2] at this
  exact this
end Go.Proofs.Ytighlefajekloaa.Qf

/- A region that draws its order, each of whose operations leaves in a slot of its own a value that fits a predicate of the world (and goes on fitting it in later worlds), whatever values that fit theirs stand in the slots it looks at: so literals with slices within ('[]Mesh{{Points: []Vec{..}}, ..}'), whose values hang on where the blocks come to lie, are shown without asking in which order. No program is named here. -/
set_option linter.unusedVariables false
set_option linter.unusedSimpArgs false
namespace Go.Proofs.Ytighlefajekloaa.Qr
open Go.RowKit Go.Sort Qb Qt Qa Qf

/-- what an operation leaves -/
def relUpon (P : Program) (Φ : World → Value → Prop) (w : World) : Result Next → Prop
  | .ok (.value u) w' => Φ w' u ∧ Below w.heap.size w w'
  | .ok .skip w' => Φ w' undef ∧ Below w.heap.size w w'
  | .ok (.enter f args) w' => Calls P f args w' (fun e w'' => ∃ v, e = .returned v ∧ Φ w'' v ∧ Below w.heap.size w w'')
  | _ => False
/-- one operation: in every later world, whatever fits in its slots -/
def StepOK (P : Program) (ops : Array Oper) (Φ : Nat → World → Value → Prop) (W : World) (a : Act) (k : Nat) (o : Oper) : Prop :=
  ∀ (b : Act) (w : World), Below W.heap.size W w → (∀ s ∈ o.looksAt ops, ∀ k', dstOf ops k' = some s → Φ k' w (b.eval (.tmp s))) → (∀ s, (∀ k', dstOf ops k' ≠ some s) → b.tmps[s]? = a.tmps[s]?) → relUpon P (Φ k) w ((execOp b.eval o).run P w)
def Steps (P : Program) (ops : Array Oper) (Φ : Nat → World → Value → Prop) (W : World) (a : Act) : Nat → List Oper → Prop
  | _, [] => True
  | k, o :: r => StepOK P ops Φ W a k o ∧ Steps P ops Φ W a (k + 1) r
def putsL (V : Nat → Value) : Nat → List Oper → Act → Act
  | _, [], a => a
  | k, o :: r, a => putsL V (k + 1) r (a.put o.dst (V k))
theorem steps_at {P : Program} {ops : Array Oper} {Φ : Nat → World → Value → Prop} {W : World} {a : Act} : ∀ (l : List Oper) (k : Nat), Steps P ops Φ W a k l → ∀ i o, l[i]? = some o → StepOK P ops Φ W a (k + i) o := by
  intro l
  induction l with
  | nil => intro k _ i o h; simp at h
  | cons x l ih =>
    intro k h i o ho
    cases i with
    | zero => simp at ho; subst ho; exact h.1
    | succ i => rw [show k + (i + 1) = k + 1 + i by omega]; exact ih (k + 1) h.2 i o (by simpa using ho)
theorem putsL_size (V : Nat → Value) : ∀ (l : List Oper) (k : Nat) (a : Act), (putsL V k l a).tmps.size = a.tmps.size := by
  intro l; induction l with
  | nil => intro k a; rfl
  | cons x l ih => intro k a; rw [putsL, ih, put_size]
theorem putsL_defers (V : Nat → Value) : ∀ (l : List Oper) (k : Nat) (a : Act), (putsL V k l a).defers = a.defers := by
  intro l; induction l with
  | nil => intro k a; rfl
  | cons x l ih => intro k a; rw [putsL, ih, put_defers]
theorem putsL_ne (V : Nat → Value) (s : Tmp) : ∀ (l : List Oper) (k : Nat) (a : Act), (∀ (i : Nat) (o : Oper), l[i]? = some o → o.dst ≠ some s) → (putsL V k l a).tmps[s]? = a.tmps[s]? := by
  intro l; induction l with
  | nil => intro k a _; rfl
  | cons x l ih => intro k a h; rw [putsL, ih _ _ (fun i o ho => h (i + 1) o (by simpa using ho)), put_ne _ _ _ _ (h 0 x rfl)]
theorem putsL_at (V : Nat → Value) (d : Tmp) : ∀ (l : List Oper) (k : Nat) (a : Act) (i : Nat) (o : Oper), l[i]? = some o → o.dst = some d → d < a.tmps.size → (∀ (j : Nat) (o' : Oper), l[j]? = some o' → o'.dst = some d → j = i) → (putsL V k l a).tmps[d]? = some (V (k + i)) := by
  intro l; induction l with
  | nil => intro k a i o h; simp at h
  | cons x l ih =>
    intro k a i o ho hd hlt hu
    rw [putsL]
    cases i with
    | zero =>
      simp at ho; subst ho
      rw [putsL_ne V d l _ _ (fun j o' hj e => by have := hu (j + 1) o' (by simpa using hj) e; omega), hd, put_same _ _ _ hlt]; rfl
    | succ i =>
      rw [show k + (i + 1) = k + 1 + i by omega]
      exact ih _ _ i o (by simpa using ho) hd (by rw [put_size]; exact hlt) (fun j o' hj e => by have := hu (j + 1) o' (by simpa using hj) e; omega)

section
variable {P : Program} {ops : Array Oper} {W : World} {md : Region.Mode} {N : Nat} {Φ : Nat → World → Value → Prop}
structure FitR (md : Region.Mode) (ops : Array Oper) (N : Nat) : Prop where
  sel : Region.noSelect ops = true
  gd : ∀ (k : Nat) (o : Oper), ops[k]? = some o → o.guard = none
  back : ∀ (k : Nat) (o : Oper), ops[k]? = some o → ∀ e ∈ o.after, Region.binds md e = true → e.on < k
  dsts : ∀ k k' d, dstOf ops k = some d → dstOf ops k' = some d → k = k'
  has : ∀ k, k < ops.size → ∃ d, dstOf ops k = some d ∧ d < N
  look : ∀ (k : Nat) (o : Oper), ops[k]? = some o → ∀ s ∈ o.looksAt ops, ∀ k', dstOf ops k' = some s → ∃ e ∈ o.after, Region.binds md e = true ∧ e.on = k'
def relB (md : Region.Mode) (ops : Array Oper) (N : Nat) : Bool :=
  Region.noSelect ops &&
  (ops.all fun o => o.guard.isNone) &&
  (upto ops.size fun k => ((ops[k]?).map fun o => o.after.all fun e => !Region.binds md e || decide (e.on < k)).getD false) &&
  (upto ops.size fun k => upto ops.size fun k' => k == k' || (match dstOf ops k with | none => true | some d => dstOf ops k' != some d)) &&
  (upto ops.size fun k => match dstOf ops k with | none => false | some d => decide (d < N)) &&
  (upto ops.size fun k => ((ops[k]?).map fun o => (o.looksAt ops).all fun s => upto ops.size fun k' => dstOf ops k' != some s || edgeB md o k').getD true)
theorem fitR_of (h : relB md ops N = true) : FitR md ops N := by
  unfold relB at h
  simp only [Bool.and_eq_true] at h
  obtain ⟨⟨⟨⟨⟨h1, h2⟩, h3⟩, h4⟩, h5⟩, h6⟩ := h
  refine ⟨h1, ?_, ?_, ?_, ?_, ?_⟩
  · intro k o ho
    have := Array.all_eq_true_iff_forall_mem.1 h2 o (Array.mem_of_getElem? ho)
    simpa using this
  · intro k o ho e he hb
    have hk : k < ops.size := (Array.getElem?_eq_some_iff.1 ho).1
    have := upto_spec h3 k hk
    rw [ho] at this
    simp only [Option.map_some, Option.getD_some] at this
    have := Array.all_eq_true_iff_forall_mem.1 this e he
    simpa [hb] using this
  · intro k k' d hd hd'
    have := upto_spec (upto_spec h4 k (dstOf_lt hd)) k' (dstOf_lt hd')
    rw [hd, hd'] at this
    simpa using this
  · intro k hk
    have := upto_spec h5 k hk
    cases hd : dstOf ops k with
    | none => rw [hd] at this; simp at this
    | some d => rw [hd] at this; exact ⟨d, rfl, by simpa using this⟩
  · intro k o ho s hs k' hk'
    have := upto_spec h6 k (Array.getElem?_eq_some_iff.1 ho).1
    rw [ho] at this
    simp only [Option.map_some, Option.getD_some] at this
    have := upto_spec (List.all_eq_true.1 this s hs) k' (dstOf_lt hk')
    rw [hk'] at this
    simp only [bne_self_eq_false, Bool.false_or] at this
    exact edge_spec this

structure InvR (ops : Array Oper) (W : World) (Φ : Nat → World → Value → Prop) (a0 : Act) (t : Array Bool) (a : Act) (w : World) : Prop where
  tsz : t.size = ops.size
  defs : a.defers = a0.defers
  sz : a.tmps.size = a0.tmps.size
  keep : ∀ s, (∀ k, dstOf ops k = some s → t.getD k false = false) → a.tmps[s]? = a0.tmps[s]?
  got : ∀ k, t.getD k false = true → ∀ d, dstOf ops k = some d → ∃ v, a.tmps[d]? = some v ∧ Φ k w v
  below : Below W.heap.size W w
theorem InvR.step {a0 : Act} {K : Act → World → Prop} {R : Exit → Act → World → Prop} (F : FitR md ops N) (hN : a0.tmps.size = N) (mono : ∀ k v w1 w2, Φ k w1 v → Below w1.heap.size w1 w2 → Φ k w2 v)
    (hst : ∀ k o, ops[k]? = some o → StepOK P ops Φ W a0 k o) {t : Array Bool} {a : Act} {w : World} (I : InvR ops W Φ a0 t a w) {k : Nat} (hk : k ∈ Region.ready md ops t)
    (h : ∀ a' w', InvR ops W Φ a0 (t.setIfInBounds k true) a' w' → K a' w') : wpOp P ops R k K a w := by
  obtain ⟨hkt, o, ho, hed⟩ := mem_ready.1 hk
  have hkn : k < ops.size := (Array.getElem?_eq_some_iff.1 ho).1
  have hwt : ∀ f, Region.wanted o f = true := fun f => by simp [Region.wanted, F.gd k o ho]
  obtain ⟨d, hd, hdN⟩ := F.has k hkn
  have hod : o.dst = some d := by rw [← dstOf_of ho]; exact hd
  have hkt' : k < t.size := by rw [I.tsz]; exact hkn
  have hlt : d < a.tmps.size := by rw [I.sz, hN]; exact hdN
  have hdep : ∀ s ∈ o.looksAt ops, ∀ k', dstOf ops k' = some s → Φ k' w (a.eval (.tmp s)) := by
    intro s hs k' hk'
    obtain ⟨e, he, hb, hon⟩ := F.look k o ho s hs k' hk'
    have ht := hed e he hb
    rw [hon] at ht
    obtain ⟨v, hv, hp⟩ := I.got k' ht s hk'
    simpa [Act.eval, Array.getD_eq_getD_getElem?, hv] using hp
  have hr := hst k o ho a w I.below hdep (fun s hs => I.keep s fun k' hk' => absurd hk' (hs k'))
  have next : ∀ v w', Φ k w' v → Below w.heap.size w w' → K (a.put o.dst v) w' := by
    intro v w' hp hb
    refine h _ _ ⟨by simp [I.tsz], by rw [put_defers]; exact I.defs, by rw [put_size]; exact I.sz, fun s hs => ?_, fun k' ht d' hd' => ?_, I.below.trans (hb.mono I.below.size)⟩
    · have hne : o.dst ≠ some s := fun e => by have := hs k (by rw [dstOf_of ho]; exact e); rw [set_at hkt'] at this; cases this
      rw [put_ne _ _ _ _ hne]
      refine I.keep s fun k' hk' => ?_
      cases ht : t.getD k' false
      · rfl
      · have := hs k' hk'; rw [set_mono ht] at this; cases this
    · rcases set_or ht with rfl | ht
      · have e : d' = d := Option.some.inj (hd'.symm.trans hd)
        subst e
        exact ⟨v, by rw [hod, put_same _ _ _ hlt], hp⟩
      · by_cases e : d = d'
        · subst e
          obtain rfl := F.dsts _ _ _ hd' hd
          exact ⟨v, by rw [hod, put_same _ _ _ hlt], hp⟩
        · obtain ⟨u, hu, hup⟩ := I.got k' ht d' hd'
          exact ⟨u, by rw [hod, put_ne _ _ _ _ (fun e2 => e (Option.some.inj e2))]; exact hu, mono _ _ _ _ hup hb⟩
  unfold wpOp
  simp only [ho, hwt, if_true]
  refine .inl ?_
  unfold Oper.wp
  generalize (execOp a.eval o).run P w = r at hr
  cases r with
  | halt x w' => simp only [relUpon] at hr
  | ok nx w' =>
    cases nx <;> simp only [relUpon] at hr
    case value u => exact next u w' hr.1 hr.2
    case skip => exact next undef w' hr.1 hr.2
    case enter f args =>
      refine hr.mono ?_
      rintro e w'' ⟨v, rfl, hp, hb⟩
      exact next v w'' hp hb
end

/-- THE LAW -/
theorem wp_region_rel {P : Program} {id : Nat} {Q : Exit → Act → World → Prop} {a : Act} {w : World} {l : List Oper} (N : Nat) (Φ : Nat → World → Value → Prop) (hm : P.follows .mixedOrders = true) (hN : a.tmps.size = N)
    (hB : relB .any l.toArray N = true) (mono : ∀ k v w1 w2, Φ k w1 v → Below w1.heap.size w1 w2 → Φ k w2 v) (hst : Steps P l.toArray Φ w a 0 l)
    (h : ∀ (V : Nat → Value) (w' : World), Below w.heap.size w w' → (∀ k, k < l.length → Φ k w' (V k)) → wpList P l.toArray Q [] (putsL V 0 l a) w') : (Code.region id l.toArray true).wp P Q a w := by
  have F := fitR_of hB
  have hst' : ∀ k o, l.toArray[k]? = some o → StepOK P l.toArray Φ w a k o := fun k o ho => by
    have := steps_at l 0 hst k o (by simpa using ho)
    rwa [Nat.zero_add] at this
  refine wp_region_any hm ?_
  have over : ∀ (t : Array Bool) (b : Act) (w' : World), Region.ready .any l.toArray t = [] → InvR l.toArray w Φ a t b w' → Q .normal b w' := by
    intro t b w' hr I
    have hall : ∀ k, k < l.toArray.size → t.getD k false = true := by
      intro k
      induction k using Nat.strongRecOn with
      | ind k ih =>
        intro hk
        cases ht : t.getD k false
        · have : k ∈ Region.ready .any l.toArray t := mem_ready.2 ⟨getD_in (by rw [I.tsz]; exact hk) ht, l.toArray[k], Array.getElem?_eq_getElem hk, fun e he hb => by
            have h1 := F.back k l.toArray[k] (Array.getElem?_eq_getElem hk) e he hb
            exact ih _ h1 (by omega)⟩
          rw [hr] at this; cases this
        · rfl
    have hV : ∃ V : Nat → Value, ∀ k d, dstOf l.toArray k = some d → b.tmps[d]? = some (V k) ∧ Φ k w' (V k) := by
      refine ⟨fun k => b.tmps.getD ((dstOf l.toArray k).getD 0) undef, fun k d hd => ?_⟩
      obtain ⟨v, hv, hp⟩ := I.got k (hall k (dstOf_lt hd)) d hd
      simp only [hd, Option.getD_some, Array.getD_eq_getD_getElem?, hv]
      exact ⟨trivial, hp⟩
    obtain ⟨V, hV⟩ := hV
    have hdl : ∀ i o, l[i]? = some o → dstOf l.toArray i = o.dst := fun i o ho => dstOf_of (by simpa using ho)
    have hb : b = putsL V 0 l a := by
      have e1 : b.tmps = (putsL V 0 l a).tmps := by
        apply Array.ext_getElem?
        intro s
        by_cases h1 : ∃ k, dstOf l.toArray k = some s
        · obtain ⟨k, hk⟩ := h1
          have hkl : k < l.length := by have := dstOf_lt hk; simpa using this
          have ho : l[k]? = some l[k] := by simp [hkl]
          have e2 := putsL_at V s l 0 a k l[k] ho (by rw [← hdl k _ ho]; exact hk) (by
            obtain ⟨d', hd', hlt⟩ := F.has k (dstOf_lt hk)
            have : d' = s := Option.some.inj (hd'.symm.trans hk)
            rw [hN, ← this]; exact hlt) (fun j o' hj e => F.dsts j k s (by rw [hdl j o' hj]; exact e) hk)
          rw [e2, Nat.zero_add]
          exact (hV k s hk).1
        · rw [putsL_ne V s l 0 a (fun i o ho e => h1 ⟨i, by rw [hdl i o ho]; exact e⟩)]
          exact I.keep s fun k hk => absurd ⟨k, hk⟩ h1
      have e2 : b.defers = (putsL V 0 l a).defers := by rw [putsL_defers]; exact I.defs
      generalize putsL V 0 l a = c at e1 e2
      cases b; cases c; simp only at e1 e2; rw [e1, e2]
    rw [hb]
    refine h V w' I.below fun k hk => ?_
    obtain ⟨d, hd, _⟩ := F.has k (by simpa using hk)
    exact (hV k d hd).2
  have run : ∀ (f : Nat) (r : List Nat) (t : Array Bool) (b : Act) (w' : World), r.length ≤ f → (∀ k, k < l.toArray.size → t.getD k false = false → k ∈ r) → InvR l.toArray w Φ a t b w' → wpAny P .any l.toArray Q f t b w' := by
    intro f
    induction f with
    | zero =>
      intro r t b w' hl hr I
      have hnil : r = [] := List.length_eq_zero_iff.1 (by omega)
      have : Region.ready .any l.toArray t = [] := by
        apply List.eq_nil_iff_forall_not_mem.2
        intro k hk
        obtain ⟨h1, o, ho, _⟩ := mem_ready.1 hk
        have := hr k (Array.getElem?_eq_some_iff.1 ho).1 (getD_both h1)
        rw [hnil] at this; cases this
      exact ⟨this, over t b w' this I⟩
    | succ f ih =>
      intro r t b w' hl hr I
      refine ⟨fun h0 => over t b w' h0 I, fun k hk => InvR.step F hN mono hst' I hk fun b' w'' I' => ?_⟩
      obtain ⟨h1, o, ho, _⟩ := mem_ready.1 hk
      have hkr := hr k (Array.getElem?_eq_some_iff.1 ho).1 (getD_both h1)
      refine ih (r.erase k) _ b' w'' (by rw [List.length_erase_of_mem hkr]; omega) (fun j hj ht => ?_) I'
      by_cases e : k = j
      · subst e
        rw [set_at (by rw [I.tsz]; exact hj)] at ht; cases ht
      · rw [getD_set_ne false e] at ht
        exact (List.mem_erase_of_ne (Ne.symm e)).2 (hr j hj ht)
  refine run _ (List.range l.toArray.size) _ _ _ (by simp) (fun k hk _ => List.mem_range.2 hk) ⟨by simp, rfl, rfl, fun s _ => rfl, fun k ht => ?_, ⟨rfl, rfl, rfl, Nat.le_refl _, fun _ _ => rfl⟩⟩
  rw [getD_replicate_false] at ht; cases ht

/-! ### with one operation behind all the others ('p := &T{..make..}': the store) -/
structure FitT (md : Region.Mode) (ops : Array Oper) (N n : Nat) : Prop where
  sz : ops.size = n + 1
  sel : Region.noSelect ops = true
  gd : ∀ (k : Nat) (o : Oper), ops[k]? = some o → o.guard = none
  back : ∀ (k : Nat) (o : Oper), ops[k]? = some o → ∀ e ∈ o.after, Region.binds md e = true → e.on < k
  dsts : ∀ k k' d, dstOf ops k = some d → dstOf ops k' = some d → k = k'
  has : ∀ k, k < n → ∃ d, dstOf ops k = some d ∧ d < N
  last : dstOf ops n = none
  look : ∀ (k : Nat) (o : Oper), k < n → ops[k]? = some o → ∀ s ∈ o.looksAt ops, ∀ k', dstOf ops k' = some s → ∃ e ∈ o.after, Region.binds md e = true ∧ e.on = k'
  sink : ∀ k, k < n → ∃ k2 o, k < k2 ∧ ops[k2]? = some o ∧ ∃ e ∈ o.after, Region.binds md e = true ∧ e.on = k
def tailB (md : Region.Mode) (ops : Array Oper) (N n : Nat) : Bool :=
  decide (ops.size = n + 1) && Region.noSelect ops &&
  (ops.all fun o => o.guard.isNone) &&
  (upto ops.size fun k => ((ops[k]?).map fun o => o.after.all fun e => !Region.binds md e || decide (e.on < k)).getD false) &&
  (upto ops.size fun k => upto ops.size fun k' => k == k' || (match dstOf ops k with | none => true | some d => dstOf ops k' != some d)) &&
  (upto n fun k => match dstOf ops k with | none => false | some d => decide (d < N)) && (dstOf ops n).isNone &&
  (upto n fun k => ((ops[k]?).map fun o => (o.looksAt ops).all fun s => upto ops.size fun k' => dstOf ops k' != some s || edgeB md o k').getD true) &&
  (upto n fun k => (List.range (n + 1)).any fun k2 => decide (k < k2) && ((ops[k2]?).map fun o => edgeB md o k).getD false)
theorem fitT_of {md : Region.Mode} {ops : Array Oper} {N n : Nat} (h : tailB md ops N n = true) : FitT md ops N n := by
  unfold tailB at h
  simp only [Bool.and_eq_true] at h
  obtain ⟨⟨⟨⟨⟨⟨⟨⟨h0, h1⟩, h2⟩, h3⟩, h4⟩, h5⟩, h6⟩, h7⟩, h8⟩ := h
  refine ⟨by simpa using h0, h1, ?_, ?_, ?_, ?_, by simpa using h6, ?_, ?_⟩
  · intro k o ho
    have := Array.all_eq_true_iff_forall_mem.1 h2 o (Array.mem_of_getElem? ho)
    simpa using this
  · intro k o ho e he hb
    have hk : k < ops.size := (Array.getElem?_eq_some_iff.1 ho).1
    have := upto_spec h3 k hk
    rw [ho] at this
    simp only [Option.map_some, Option.getD_some] at this
    have := Array.all_eq_true_iff_forall_mem.1 this e he
    simpa [hb] using this
  · intro k k' d hd hd'
    have := upto_spec (upto_spec h4 k (dstOf_lt hd)) k' (dstOf_lt hd')
    rw [hd, hd'] at this
    simpa using this
  · intro k hk
    have := upto_spec h5 k hk
    cases hd : dstOf ops k with
    | none => rw [hd] at this; simp at this
    | some d => rw [hd] at this; exact ⟨d, rfl, by simpa using this⟩
  · intro k o hk ho s hs k' hk'
    have := upto_spec h7 k hk
    rw [ho] at this
    simp only [Option.map_some, Option.getD_some] at this
    have := upto_spec (List.all_eq_true.1 this s hs) k' (dstOf_lt hk')
    rw [hk'] at this
    simp only [bne_self_eq_false, Bool.false_or] at this
    exact edge_spec this
  · intro k hk
    have := upto_spec h8 k hk
    simp only [List.any_eq_true, Bool.and_eq_true, decide_eq_true_eq] at this
    obtain ⟨k2, _, h1, h2⟩ := this
    cases ho : ops[k2]? with
    | none => rw [ho] at h2; simp at h2
    | some o =>
      rw [ho] at h2
      simp only [Option.map_some, Option.getD_some] at h2
      exact ⟨k2, o, h1, ho, edge_spec h2⟩
structure InvT (md : Region.Mode) (ops : Array Oper) (n : Nat) (W : World) (Φ : Nat → World → Value → Prop) (a0 : Act) (t : Array Bool) (a : Act) (w : World) : Prop where
  r : InvR ops W Φ a0 t a w
  last : t.getD n false = false
  wait : ∀ (k : Nat) (o : Oper), ops[k]? = some o → t.getD k false = true → ∀ e ∈ o.after, Region.binds md e = true → t.getD e.on false = true
theorem wpAny_done {P : Program} {md : Region.Mode} {ops : Array Oper} {Q : Exit → Act → World → Prop} {t : Array Bool} {a : Act} {w : World} (hr : Region.ready md ops t = []) (h : Q .normal a w) : ∀ f, wpAny P md ops Q f t a w
  | 0 => ⟨hr, h⟩
  | f + 1 => ⟨fun _ => h, fun i hi => by rw [hr] at hi; cases hi⟩
theorem wpList_one {P : Program} {ops : Array Oper} {Q : Exit → Act → World → Prop} {K : Act → World → Prop} {k : Nat} {o : Oper} {a : Act} {w : World} (ho : ops[k]? = some o) (h : wpList P ops Q [o] a w) (hK : ∀ a w, Q .normal a w → K a w) : wpOp P ops Q k K a w := by
  unfold wpOp
  simp only [ho]
  unfold wpList at h
  split
  · rename_i hw
    rw [if_pos hw] at h
    rcases h with h | h
    · exact .inl (Oper.wp_mono (fun a w hq => hK a w hq) h)
    · exact .inr h
  · rename_i hw
    rw [if_neg hw] at h
    exact hK _ _ h

/-- THE LAW, with one operation behind all the others -/
theorem wp_region_rel_tail {P : Program} {id : Nat} {Q : Exit → Act → World → Prop} {a : Act} {w : World} {l : List Oper} (N n : Nat) (Φ : Nat → World → Value → Prop) (hm : P.follows .mixedOrders = true) (hN : a.tmps.size = N)
    (hB : tailB .any l.toArray N n = true) (mono : ∀ k v w1 w2, Φ k w1 v → Below w1.heap.size w1 w2 → Φ k w2 v) (hst : Steps P l.toArray Φ w a 0 (l.take n))
    (h : ∀ (V : Nat → Value) (w' : World), Below w.heap.size w w' → (∀ k, k < n → Φ k w' (V k)) → wpList P l.toArray Q (l.drop n) (putsL V 0 (l.take n) a) w') : (Code.region id l.toArray true).wp P Q a w := by
  have F := fitT_of hB
  have hsz : l.length = n + 1 := by simpa using F.sz
  have hst' : ∀ k o, k < n → l.toArray[k]? = some o → StepOK P l.toArray Φ w a k o := fun k o hk ho => by
    have := steps_at (l.take n) 0 hst k o (by rw [List.getElem?_take_of_lt hk]; simpa using ho)
    rwa [Nat.zero_add] at this
  refine wp_region_any hm ?_
  obtain ⟨ol, hol⟩ : ∃ o, l.toArray[n]? = some o := ⟨l.toArray[n]'(by rw [F.sz]; omega), by simp [hsz]⟩
  have hdrop : l.drop n = [ol] := by
    have hlt : n < l.length := by omega
    rw [List.drop_eq_getElem_cons hlt, List.drop_eq_nil_of_le (by omega)]
    have : l[n]? = some ol := by simpa using hol
    rw [List.getElem?_eq_getElem hlt] at this
    rw [Option.some.inj this]
  -- when the last is ready all else is listed
  have front : ∀ (t : Array Bool) (b : Act) (w' : World), InvT .any l.toArray n w Φ a t b w' → n ∈ Region.ready .any l.toArray t → ∀ k, k < n → t.getD k false = true := by
    intro t b w' I hn
    obtain ⟨_, o, ho, hed⟩ := mem_ready.1 hn
    have key : ∀ m k, k + m = n → 0 < m → t.getD k false = true := by
      intro m
      induction m using Nat.strongRecOn with
      | ind m ih =>
        intro k hk hm0
        obtain ⟨k2, o2, h1, ho2, e, he, hb, hon⟩ := F.sink k (by omega)
        have hk2 : k2 < n + 1 := by have := (Array.getElem?_eq_some_iff.1 ho2).1; rw [F.sz] at this; exact this
        rcases Nat.lt_or_ge k2 n with h2 | h2
        · have := I.wait k2 o2 ho2 (ih (n - k2) (by omega) k2 (by omega) (by omega)) e he hb
          rwa [hon] at this
        · obtain rfl : k2 = n := by omega
          obtain rfl : o2 = o := Option.some.inj (ho2.symm.trans ho)
          have := hed e he hb
          rwa [hon] at this
    intro k hk
    exact key (n - k) k (by omega) (by omega)
  have run : ∀ (f : Nat) (r : List Nat) (t : Array Bool) (b : Act) (w' : World), r.length ≤ f → (∀ k, k < l.toArray.size → t.getD k false = false → k ∈ r) → InvT .any l.toArray n w Φ a t b w' → wpAny P .any l.toArray Q f t b w' := by
    intro f
    induction f with
    | zero =>
      intro r t b w' hl hr I
      have hnil : r = [] := List.length_eq_zero_iff.1 (by omega)
      have := hr n (by rw [F.sz]; omega) I.last
      rw [hnil] at this; cases this
    | succ f ih =>
      intro r t b w' hl hr I
      refine ⟨fun h0 => ?_, fun k hk => ?_⟩
      · -- something is always ready
        exfalso
        have hall : ∀ k, k < l.toArray.size → t.getD k false = true := by
          intro k
          induction k using Nat.strongRecOn with
          | ind k ih =>
            intro hk
            cases ht : t.getD k false
            · have : k ∈ Region.ready .any l.toArray t := mem_ready.2 ⟨getD_in (by rw [I.r.tsz]; exact hk) ht, l.toArray[k], Array.getElem?_eq_getElem hk, fun e he hb => by
                have h1 := F.back k l.toArray[k] (Array.getElem?_eq_getElem hk) e he hb
                exact ih _ h1 (by omega)⟩
              rw [h0] at this; cases this
            · rfl
        have := hall n (by rw [F.sz]; omega)
        rw [I.last] at this; cases this
      obtain ⟨hkt, o, ho, hed⟩ := mem_ready.1 hk
      have hks : k < l.toArray.size := (Array.getElem?_eq_some_iff.1 ho).1
      have hkr := hr k hks (getD_both hkt)
      rcases Nat.lt_or_ge k n with hkn | hkn
      · -- one of the front
        obtain ⟨d, hd, hdN⟩ := F.has k hkn
        have hod : o.dst = some d := by rw [← dstOf_of ho]; exact hd
        have hkt' : k < t.size := by rw [I.r.tsz]; exact hks
        have hlt : d < b.tmps.size := by rw [I.r.sz, hN]; exact hdN
        have hwt : ∀ f, Region.wanted o f = true := fun f => by simp [Region.wanted, F.gd k o ho]
        have hdep : ∀ s ∈ o.looksAt l.toArray, ∀ k', dstOf l.toArray k' = some s → Φ k' w' (b.eval (.tmp s)) := by
          intro s hs k' hk'
          obtain ⟨e, he, hb, hon⟩ := F.look k o hkn ho s hs k' hk'
          have ht := hed e he hb
          rw [hon] at ht
          obtain ⟨v, hv, hp⟩ := I.r.got k' ht s hk'
          simpa [Act.eval, Array.getD_eq_getD_getElem?, hv] using hp
        have hr' := hst' k o hkn ho b w' I.r.below hdep (fun s hs => I.r.keep s fun k' hk' => absurd hk' (hs k'))
        have next : ∀ v w'', Φ k w'' v → Below w'.heap.size w' w'' → wpAny P .any l.toArray Q f (t.setIfInBounds k true) (b.put o.dst v) w'' := by
          intro v w'' hp hbb
          refine ih (r.erase k) _ _ _ (by rw [List.length_erase_of_mem hkr]; omega) (fun j hj ht => ?_) ⟨⟨by simp [I.r.tsz], by rw [put_defers]; exact I.r.defs, by rw [put_size]; exact I.r.sz, fun s hs => ?_, fun k' ht d' hd' => ?_, I.r.below.trans (hbb.mono I.r.below.size)⟩, ?_, ?_⟩
          · by_cases e : k = j
            · subst e; rw [set_at hkt'] at ht; cases ht
            · rw [getD_set_ne false e] at ht
              exact (List.mem_erase_of_ne (Ne.symm e)).2 (hr j hj ht)
          · have hne : o.dst ≠ some s := fun e => by have := hs k (by rw [dstOf_of ho]; exact e); rw [set_at hkt'] at this; cases this
            rw [put_ne _ _ _ _ hne]
            refine I.r.keep s fun k' hk' => ?_
            cases ht : t.getD k' false
            · rfl
            · have := hs k' hk'; rw [set_mono ht] at this; cases this
          · rcases set_or ht with rfl | ht
            · have e : d' = d := Option.some.inj (hd'.symm.trans hd)
              subst e
              exact ⟨v, by rw [hod, put_same _ _ _ hlt], hp⟩
            · by_cases e : d = d'
              · subst e
                obtain rfl := F.dsts _ _ _ hd' hd
                exact ⟨v, by rw [hod, put_same _ _ _ hlt], hp⟩
              · obtain ⟨u, hu, hup⟩ := I.r.got k' ht d' hd'
                exact ⟨u, by rw [hod, put_ne _ _ _ _ (fun e2 => e (Option.some.inj e2))]; exact hu, mono _ _ _ _ hup hbb⟩
          · rw [getD_set_ne false (by omega)]; exact I.last
          · intro k' o' ho' ht' e he hb
            rcases set_or ht' with rfl | ht'
            · obtain rfl : o' = o := Option.some.inj (ho'.symm.trans ho)
              exact set_mono (hed e he hb)
            · exact set_mono (I.wait k' o' ho' ht' e he hb)
        unfold wpOp
        simp only [ho, hwt, if_true]
        refine .inl ?_
        unfold Oper.wp
        generalize (execOp b.eval o).run P w' = res at hr'
        cases res with
        | halt x w'' => simp only [relUpon] at hr'
        | ok nx w'' =>
          cases nx <;> simp only [relUpon] at hr'
          case value u => exact next u w'' hr'.1 hr'.2
          case skip => exact next undef w'' hr'.1 hr'.2
          case enter fn args =>
            refine hr'.mono ?_
            rintro e w3 ⟨v, rfl, hp, hbb⟩
            exact next v w3 hp hbb
      · -- the last
        obtain rfl : k = n := by rw [F.sz] at hks; omega
        have hall := front t b w' I hk
        obtain rfl : o = ol := Option.some.inj (ho.symm.trans hol)
        have hV : ∃ V : Nat → Value, ∀ j d, j < k → dstOf l.toArray j = some d → b.tmps[d]? = some (V j) ∧ Φ j w' (V j) := by
          refine ⟨fun j => b.tmps.getD ((dstOf l.toArray j).getD 0) undef, fun j d hj hd => ?_⟩
          obtain ⟨v, hv, hp⟩ := I.r.got j (hall j hj) d hd
          simp only [hd, Option.getD_some, Array.getD_eq_getD_getElem?, hv]
          exact ⟨trivial, hp⟩
        obtain ⟨V, hV⟩ := hV
        have hdl : ∀ i o, (l.take k)[i]? = some o → i < k ∧ dstOf l.toArray i = o.dst := fun i o ho => by
          have hik : i < k := by have := (List.getElem?_eq_some_iff.1 ho).1; rw [List.length_take] at this; omega
          rw [List.getElem?_take_of_lt hik] at ho
          exact ⟨hik, dstOf_of (by simpa using ho)⟩
        have hb : b = putsL V 0 (l.take k) a := by
          have e1 : b.tmps = (putsL V 0 (l.take k) a).tmps := by
            apply Array.ext_getElem?
            intro s
            by_cases h1 : ∃ j, j < k ∧ dstOf l.toArray j = some s
            · obtain ⟨j, hj, hjs⟩ := h1
              have ho2 : (l.take k)[j]? = some l[j] := by rw [List.getElem?_take_of_lt hj]; simp
              have e2 := putsL_at V s (l.take k) 0 a j l[j] ho2 (by rw [← (hdl j _ ho2).2]; exact hjs) (by
                obtain ⟨d', hd', hlt⟩ := F.has j hj
                have : d' = s := Option.some.inj (hd'.symm.trans hjs)
                rw [hN, ← this]; exact hlt) (fun i o' hi e => F.dsts i j s (by rw [(hdl i o' hi).2]; exact e) hjs)
              rw [e2, Nat.zero_add]
              exact (hV j s hj hjs).1
            · rw [putsL_ne V s (l.take k) 0 a (fun i o ho e => h1 ⟨i, (hdl i o ho).1, by rw [(hdl i o ho).2]; exact e⟩)]
              refine I.r.keep s fun j hj => ?_
              have hj1 := dstOf_lt hj
              rw [F.sz] at hj1
              rcases Nat.lt_or_ge j k with h2 | h2
              · exact absurd ⟨j, h2, hj⟩ h1
              · obtain rfl : j = k := by omega
                rw [F.last] at hj; cases hj
          have e2 : b.defers = (putsL V 0 (l.take k) a).defers := by rw [putsL_defers]; exact I.r.defs
          generalize putsL V 0 (l.take k) a = c at e1 e2
          cases b; cases c; simp only at e1 e2; rw [e1, e2]
        have hfin := h V w' I.r.below (fun j hj => by
          obtain ⟨d, hd, _⟩ := F.has j hj
          exact (hV j d hj hd).2)
        rw [hdrop, ← hb] at hfin
        refine wpList_one ho hfin fun a2 w2 hq => wpAny_done ?_ hq f
        apply List.eq_nil_iff_forall_not_mem.2
        intro j hj
        obtain ⟨h1, o3, ho3, _⟩ := mem_ready.1 hj
        have hjs := (Array.getElem?_eq_some_iff.1 ho3).1
        rw [F.sz] at hjs
        by_cases e : k = j
        · subst e
          have := set_at (t := t) (k := k) (by rw [I.r.tsz, F.sz]; omega)
          rw [getD_both h1] at this; cases this
        · have h2 := set_mono (k := k) (hall j (by omega))
          rw [getD_both h1] at h2; cases h2
  refine run _ (List.range l.toArray.size) _ _ _ (by simp) (fun k hk _ => List.mem_range.2 hk) ⟨⟨by simp, rfl, rfl, fun s _ => rfl, fun k ht => ?_, ⟨rfl, rfl, rfl, Nat.le_refl _, fun _ _ => rfl⟩⟩, getD_replicate_false _ _, fun k o _ ht => ?_⟩
  · rw [getD_replicate_false] at ht; cases ht
  · rw [getD_replicate_false] at ht; cases ht
end Go.Proofs.Ytighlefajekloaa.Qr

/- A region that draws its order, whose operations each leave in a slot of their own a value that fits a predicate of the world (as in Qr), guarded ones among them (each guard known to be true), and one store of a whole row into a block that the region makes: in ANY order that the binding edges leave. No program is named here. -/
set_option linter.unusedVariables false
set_option linter.unusedSimpArgs false
namespace Go.Proofs.Ytighlefajekloaa.Qs
open Go.RowKit Go.Sort Qb Qt Qa Qf Qr

/-- the one store: its number, its pointer's slot and the operation that fills it, the row's slot and the operation that fills it, the block's type, the row -/
structure St1 where
  j : Nat
  p : Tmp
  kp : Nat
  s : Tmp
  ks : Nat
  T : TypeId
  row : Array Value
structure IsS1 (P : Program) (o : Oper) (x : St1) : Prop where
  op : ∃ ty, o.op = .store ty (.tmp x.p) (.tmp x.s) ∧ (P.info? ty).map (·.size) = some x.row.size
  dst : o.dst = none
  one : x.row.all (·.oneCell') = true
section
variable {P : Program} {ops : Array Oper} {W : World} {md : Region.Mode} {N : Nat} {Φ : Nat → World → Value → Prop} {x : St1} {gs : List Nat}
structure FitS (md : Region.Mode) (ops : Array Oper) (N : Nat) (x : St1) (gs : List Nat) : Prop where
  sel : Region.noSelect ops = true
  gd : ∀ (k : Nat) (o : Oper), ops[k]? = some o → o.guard = none ∨ ∃ g, o.guard = some (g, true) ∧ g ∈ gs ∧ (∃ d, dstOf ops g = some d) ∧ ∃ e ∈ o.after, Region.binds md e = true ∧ e.on = g
  back : ∀ (k : Nat) (o : Oper), ops[k]? = some o → ∀ e ∈ o.after, Region.binds md e = true → e.on < k
  dsts : ∀ k k' d, dstOf ops k = some d → dstOf ops k' = some d → k = k'
  has : ∀ k, k < ops.size → k ≠ x.j → ∃ d, dstOf ops k = some d ∧ d < N
  look : ∀ (k : Nat) (o : Oper), ops[k]? = some o → k ≠ x.j → ∀ s ∈ o.looksAt ops, ∀ k', dstOf ops k' = some s → ∃ e ∈ o.after, Region.binds md e = true ∧ e.on = k'
  stk : ∀ (o : Oper), ops[x.j]? = some o → (dstOf ops x.kp = some x.p ∧ ∃ e ∈ o.after, Region.binds md e = true ∧ e.on = x.kp) ∧ (dstOf ops x.ks = some x.s ∧ ∃ e ∈ o.after, Region.binds md e = true ∧ e.on = x.ks)
def fitB (md : Region.Mode) (ops : Array Oper) (N : Nat) (j : Nat) (p : Tmp) (kp : Nat) (s : Tmp) (ks : Nat) (gs : List Nat) : Bool :=
  Region.noSelect ops &&
  (upto ops.size fun k => ((ops[k]?).map fun o => match o.guard with | none => true | some (g, b) => b && gs.contains g && (dstOf ops g).isSome && edgeB md o g).getD true) &&
  (upto ops.size fun k => ((ops[k]?).map fun o => o.after.all fun e => !Region.binds md e || decide (e.on < k)).getD false) &&
  (upto ops.size fun k => upto ops.size fun k' => k == k' || (match dstOf ops k with | none => true | some d => dstOf ops k' != some d)) &&
  (upto ops.size fun k => k == j || match dstOf ops k with | none => false | some d => decide (d < N)) &&
  (upto ops.size fun k => k == j || ((ops[k]?).map fun o => (o.looksAt ops).all fun s => upto ops.size fun k' => dstOf ops k' != some s || edgeB md o k').getD true) &&
  (((ops[j]?).map fun o => dstOf ops kp == some p && edgeB md o kp && dstOf ops ks == some s && edgeB md o ks).getD true)
theorem fitS_of (h : fitB md ops N x.j x.p x.kp x.s x.ks gs = true) : FitS md ops N x gs := by
  unfold fitB at h
  simp only [Bool.and_eq_true] at h
  obtain ⟨⟨⟨⟨⟨⟨h1, h2⟩, h3⟩, h4⟩, h5⟩, h6⟩, h7⟩ := h
  refine ⟨h1, ?_, ?_, ?_, ?_, ?_, ?_⟩
  · intro k o ho
    have := upto_spec h2 k (Array.getElem?_eq_some_iff.1 ho).1
    rw [ho] at this
    simp only [Option.map_some, Option.getD_some] at this
    cases hg : o.guard with
    | none => exact .inl rfl
    | some gb =>
      obtain ⟨g, b⟩ := gb
      rw [hg] at this
      simp only [Bool.and_eq_true] at this
      obtain ⟨⟨⟨e1, e2⟩, e3⟩, e4⟩ := this
      refine .inr ⟨g, by rw [e1], by simpa using e2, Option.isSome_iff_exists.1 e3, edge_spec e4⟩
  · intro k o ho e he hb
    have hk : k < ops.size := (Array.getElem?_eq_some_iff.1 ho).1
    have := upto_spec h3 k hk
    rw [ho] at this
    simp only [Option.map_some, Option.getD_some] at this
    have := Array.all_eq_true_iff_forall_mem.1 this e he
    simpa [hb] using this
  · intro k k' d hd hd'
    have := upto_spec (upto_spec h4 k (dstOf_lt hd)) k' (dstOf_lt hd')
    rw [hd, hd'] at this
    simpa using this
  · intro k hk hne
    have := upto_spec h5 k hk
    have hf : (k == x.j) = false := by simpa using hne
    rw [hf, Bool.false_or] at this
    cases hd : dstOf ops k with
    | none => rw [hd] at this; simp at this
    | some d => rw [hd] at this; exact ⟨d, rfl, by simpa using this⟩
  · intro k o ho hne s hs k' hk'
    have := upto_spec h6 k (Array.getElem?_eq_some_iff.1 ho).1
    have hf : (k == x.j) = false := by simpa using hne
    rw [hf, Bool.false_or, ho] at this
    simp only [Option.map_some, Option.getD_some] at this
    have := upto_spec (List.all_eq_true.1 this s hs) k' (dstOf_lt hk')
    rw [hk'] at this
    simp only [bne_self_eq_false, Bool.false_or] at this
    exact edge_spec this
  · intro o ho
    rw [ho] at h7
    simp only [Option.map_some, Option.getD_some, Bool.and_eq_true, beq_iff_eq] at h7
    obtain ⟨⟨⟨e1, e2⟩, e3⟩, e4⟩ := h7
    exact ⟨⟨e1, edge_spec e2⟩, e3, edge_spec e4⟩

structure InvS (ops : Array Oper) (W : World) (Φ : Nat → World → Value → Prop) (x : St1) (a0 : Act) (t : Array Bool) (a : Act) (w : World) : Prop where
  r : InvR ops W (fun k w v => k ≠ x.j → Φ k w v) a0 t a w
  kp : x.j < ops.size → t.getD x.j false = true → t.getD x.kp false = true
  st : x.j < ops.size → t.getD x.j false = true → ∃ g, a.tmps[x.p]? = some (ptr g) ∧ w.heap[g]? = some (.cells x.row x.T)

theorem InvS.step {a0 : Act} {K : Act → World → Prop} {R : Exit → Act → World → Prop} (F : FitS md ops N x gs) (hN : a0.tmps.size = N) (mono : ∀ k v w1 w2, Φ k w1 v → Below w1.heap.size w1 w2 → Φ k w2 v)
    (stab : ∀ k v w g cur, k ≠ x.j → Φ k w v → W.heap.size ≤ g → w.heap[g]? = some (.cells cur x.T) → cur.size = x.row.size → Φ k (w.setRow g x.row) v)
    (hgs : ∀ g ∈ gs, ∀ w v, Φ g w v → v = .bool true) (hgj : ∀ g ∈ gs, g ≠ x.j)
    (hal : x.j < ops.size → ∀ w v, Φ x.kp w v → ∃ g cur, v = ptr g ∧ W.heap.size ≤ g ∧ w.heap[g]? = some (.cells cur x.T) ∧ cur.size = x.row.size) (hrow : x.j < ops.size → ∀ w v, Φ x.ks w v → v = .agg x.row)
    (hsj : ∀ o, ops[x.j]? = some o → IsS1 P o x)
    (hst : ∀ k o, k ≠ x.j → ops[k]? = some o → StepOK P ops Φ W a0 k o) {t : Array Bool} {a : Act} {w : World} (I : InvS ops W Φ x a0 t a w) {k : Nat} (hk : k ∈ Region.ready md ops t)
    (h : ∀ a' w', InvS ops W Φ x a0 (t.setIfInBounds k true) a' w' → K a' w') : wpOp P ops R k K a w := by
  obtain ⟨hkt, o, ho, hed⟩ := mem_ready.1 hk
  have hkn : k < ops.size := (Array.getElem?_eq_some_iff.1 ho).1
  have hkf : t.getD k false = false := getD_both hkt
  have hkt' : k < t.size := by rw [I.r.tsz]; exact hkn
  have hwt : Region.wanted o (yielded ops a.tmps) = true := by
    rcases F.gd k o ho with hg | ⟨g, hg, hgm, ⟨d, hd⟩, e, he, hb, hon⟩
    · simp [Region.wanted, hg]
    · have ht := hed e he hb
      rw [hon] at ht
      obtain ⟨v, hv, hp⟩ := I.r.got g ht d hd
      have := hgs g hgm w v (hp (hgj g hgm))
      subst this
      have hy : yielded ops a.tmps g = some true := by
        unfold yielded
        have : (ops[g]?).bind (·.dst) = some d := hd
        rw [this, Option.bind_some, hv]
      simp [Region.wanted, hg, hy]
  have hdep : k ≠ x.j → ∀ s ∈ o.looksAt ops, ∀ k', dstOf ops k' = some s → Φ k' w (a.eval (.tmp s)) := by
    intro hne s hs k' hk'
    obtain ⟨e, he, hb, hon⟩ := F.look k o ho hne s hs k' hk'
    have ht := hed e he hb
    rw [hon] at ht
    obtain ⟨v, hv, hp⟩ := I.r.got k' ht s hk'
    have hk'j : k' ≠ x.j := fun e => by
      subst e
      have hlt := dstOf_lt hk'
      have := (hsj (ops[x.j]'hlt) (Array.getElem?_eq_getElem hlt)).dst
      rw [dstOf_of (Array.getElem?_eq_getElem hlt), this] at hk'; cases hk'
    have hp := hp hk'j
    simpa [Act.eval, Array.getD_eq_getD_getElem?, hv] using hp
  by_cases hkj : k = x.j
  · -- the store
    subst hkj
    have hSt := hsj o ho
    obtain ⟨⟨hdp, e1, he1, hb1, hon1⟩, hds, e2, he2, hb2, hon2⟩ := F.stk o ho
    have t1 := hed e1 he1 hb1
    have t2 := hed e2 he2 hb2
    rw [hon1] at t1
    rw [hon2] at t2
    obtain ⟨vp, hvp, hpp⟩ := I.r.got x.kp t1 x.p hdp
    obtain ⟨vs, hvs, hps⟩ := I.r.got x.ks t2 x.s hds
    have hnd : ∀ s, dstOf ops x.j ≠ some s := fun s e => by rw [dstOf_of ho, hSt.dst] at e; cases e
    have hkpj : x.kp ≠ x.j := fun e => hnd _ (by rw [← e]; exact hdp)
    have hksj : x.ks ≠ x.j := fun e => hnd _ (by rw [← e]; exact hds)
    obtain ⟨g, cur, rfl, hBg, hg, hcs⟩ := hal hkn w vp (hpp hkpj)
    have hvr := hrow hkn w vs (hps hksj)
    subst hvr
    obtain ⟨ty, hop, hinfo⟩ := hSt.op
    unfold wpOp
    simp only [ho, hwt, if_true]
    refine .inl (wp_store_row ty (.tmp x.p) (.tmp x.s) hop g x.row (by simp [Act.eval, Array.getD_eq_getD_getElem?, hvp]) (by simp [Act.eval, Array.getD_eq_getD_getElem?, hvs]) x.T cur hg hinfo hcs hSt.one ?_)
    rw [hSt.dst]
    show K a _
    refine h _ _ ⟨⟨by simp [I.r.tsz], I.r.defs, I.r.sz, fun s hs => ?_, fun k' ht d hd => ?_, below_setRow I.r.below hBg _⟩, fun _ _ => set_mono t1, fun _ _ => ⟨g, hvp, setRow_heap _ _ _ _ _ _ hg⟩⟩
    · refine I.r.keep s fun k' hk' => ?_
      cases ht : t.getD k' false
      · rfl
      · have := hs k' hk'; rw [set_mono ht] at this; cases this
    · rcases set_or ht with rfl | ht
      · exact absurd hd (hnd d)
      · obtain ⟨v, hv, hp⟩ := I.r.got k' ht d hd
        exact ⟨v, hv, fun hne => stab _ _ _ _ _ hne (hp hne) hBg hg hcs⟩
  · obtain ⟨d, hd, hdN⟩ := F.has k hkn hkj
    have hod : o.dst = some d := by rw [← dstOf_of ho]; exact hd
    have hlt : d < a.tmps.size := by rw [I.r.sz, hN]; exact hdN
    have hr := hst k o hkj ho a w I.r.below (hdep hkj) (fun s hs => I.r.keep s fun k' hk' => absurd hk' (hs k'))
    have next : ∀ v w', Φ k w' v → Below w.heap.size w w' → K (a.put o.dst v) w' := by
      intro v w' hp hb
      refine h _ _ ⟨⟨by simp [I.r.tsz], by rw [put_defers]; exact I.r.defs, by rw [put_size]; exact I.r.sz, fun s hs => ?_, fun k' ht d' hd' => ?_, I.r.below.trans (hb.mono I.r.below.size)⟩, fun hj ht => (by rw [getD_set_ne false (fun e => hkj e)] at ht; exact set_mono (I.kp hj ht)), fun hj ht => ?_⟩
      · have hne : o.dst ≠ some s := fun e => by have := hs k (by rw [dstOf_of ho]; exact e); rw [set_at hkt'] at this; cases this
        rw [put_ne _ _ _ _ hne]
        refine I.r.keep s fun k' hk' => ?_
        cases ht : t.getD k' false
        · rfl
        · have := hs k' hk'; rw [set_mono ht] at this; cases this
      · rcases set_or ht with rfl | ht
        · have e : d' = d := Option.some.inj (hd'.symm.trans hd)
          subst e
          exact ⟨v, by rw [hod, put_same _ _ _ hlt], fun _ => hp⟩
        · by_cases e : d = d'
          · subst e
            obtain rfl := F.dsts _ _ _ hd' hd
            exact ⟨v, by rw [hod, put_same _ _ _ hlt], fun _ => hp⟩
          · obtain ⟨u, hu, hup⟩ := I.r.got k' ht d' hd'
            exact ⟨u, by rw [hod, put_ne _ _ _ _ (fun e2 => e (Option.some.inj e2))]; exact hu, fun hne => mono _ _ _ _ (hup hne) hb⟩
      · rw [getD_set_ne false (fun e => hkj e)] at ht
        obtain ⟨g, hg, hgr⟩ := I.st hj ht
        have hoj := Array.getElem?_eq_getElem hj
        have hdp := (F.stk _ hoj).1.1
        have hne : d ≠ x.p := fun e => by
          have := F.dsts k x.kp d hd (by rw [e]; exact hdp)
          subst this
          rw [I.kp hj ht] at hkf; cases hkf
        exact ⟨g, by rw [hod, put_ne _ _ _ _ (fun e2 => hne (Option.some.inj e2))]; exact hg, by rw [hb.block _ (Qf.lt_of_heap hgr)]; exact hgr⟩
    unfold wpOp
    simp only [ho, hwt, if_true]
    refine .inl ?_
    unfold Oper.wp
    generalize (execOp a.eval o).run P w = res at hr
    cases res with
    | halt x w' => simp only [relUpon] at hr
    | ok nx w' =>
      cases nx <;> simp only [relUpon] at hr
      case value u => exact next u w' hr.1 hr.2
      case skip => exact next undef w' hr.1 hr.2
      case enter f args =>
        refine hr.mono ?_
        rintro e w'' ⟨v, rfl, hp, hb⟩
        exact next v w'' hp hb
end

/-- THE LAW -/
theorem wp_region_one {P : Program} {id : Nat} {Q : Exit → Act → World → Prop} {a : Act} {w : World} {l : List Oper} (N : Nat) (Φ : Nat → World → Value → Prop) (x : St1) (gs : List Nat) (hm : P.follows .mixedOrders = true) (hN : a.tmps.size = N)
    (hB : fitB .any l.toArray N x.j x.p x.kp x.s x.ks gs = true) (mono : ∀ k v w1 w2, Φ k w1 v → Below w1.heap.size w1 w2 → Φ k w2 v)
    (stab : ∀ k v w' g cur, k ≠ x.j → Φ k w' v → w.heap.size ≤ g → w'.heap[g]? = some (.cells cur x.T) → cur.size = x.row.size → Φ k (w'.setRow g x.row) v)
    (hgs : ∀ g ∈ gs, ∀ w v, Φ g w v → v = .bool true) (hgj : ∀ g ∈ gs, g ≠ x.j)
    (hal : x.j < l.length → ∀ w' v, Φ x.kp w' v → ∃ g cur, v = ptr g ∧ w.heap.size ≤ g ∧ w'.heap[g]? = some (.cells cur x.T) ∧ cur.size = x.row.size) (hrow : x.j < l.length → ∀ w v, Φ x.ks w v → v = .agg x.row)
    (hsj : ∀ o, l.toArray[x.j]? = some o → IsS1 P o x)
    (hst : ∀ k o, k ≠ x.j → l.toArray[k]? = some o → StepOK P l.toArray Φ w a k o)
    (h : ∀ (V : Nat → Value) (w' : World), Below w.heap.size w w' → (∀ k, k < l.length → k ≠ x.j → Φ k w' (V k)) → (x.j < l.length → ∃ g, V x.kp = ptr g ∧ w'.heap[g]? = some (.cells x.row x.T)) → wpList P l.toArray Q [] (putsL V 0 l a) w') : (Code.region id l.toArray true).wp P Q a w := by
  have F := fitS_of hB
  have hls : l.toArray.size = l.length := by simp
  refine wp_region_any hm ?_
  have over : ∀ (t : Array Bool) (b : Act) (w' : World), Region.ready .any l.toArray t = [] → InvS l.toArray w Φ x a t b w' → Q .normal b w' := by
    intro t b w' hr I
    have hall : ∀ k, k < l.toArray.size → t.getD k false = true := by
      intro k
      induction k using Nat.strongRecOn with
      | ind k ih =>
        intro hk
        cases ht : t.getD k false
        · have : k ∈ Region.ready .any l.toArray t := mem_ready.2 ⟨getD_in (by rw [I.r.tsz]; exact hk) ht, l.toArray[k], Array.getElem?_eq_getElem hk, fun e he hb => by
            have h1 := F.back k l.toArray[k] (Array.getElem?_eq_getElem hk) e he hb
            exact ih _ h1 (by omega)⟩
          rw [hr] at this; cases this
        · rfl
    have hV : ∃ V : Nat → Value, ∀ k d, dstOf l.toArray k = some d → b.tmps[d]? = some (V k) ∧ (k ≠ x.j → Φ k w' (V k)) := by
      refine ⟨fun k => b.tmps.getD ((dstOf l.toArray k).getD 0) undef, fun k d hd => ?_⟩
      obtain ⟨v, hv, hp⟩ := I.r.got k (hall k (dstOf_lt hd)) d hd
      simp only [hd, Option.getD_some, Array.getD_eq_getD_getElem?, hv]
      exact ⟨trivial, hp⟩
    obtain ⟨V, hV⟩ := hV
    have hdl : ∀ (i : Nat) (o : Oper), l[i]? = some o → dstOf l.toArray i = o.dst := fun i o ho => dstOf_of (by simpa using ho)
    have hb : b = putsL V 0 l a := by
      have e1 : b.tmps = (putsL V 0 l a).tmps := by
        apply Array.ext_getElem?
        intro s
        by_cases h1 : ∃ k, dstOf l.toArray k = some s
        · obtain ⟨k, hk⟩ := h1
          have hkl : k < l.length := by have := dstOf_lt hk; simpa using this
          have hko : l[k]? = some l[k] := by simp [hkl]
          have hkj : k ≠ x.j := fun e => by
            subst e
            have := (hsj l[x.j] (by simp [hkl])).dst
            rw [hdl _ _ hko, this] at hk; cases hk
          have e2 := putsL_at V s l 0 a k l[k] hko (by rw [← hdl k _ hko]; exact hk) (by
            obtain ⟨d', hd', hlt⟩ := F.has k (dstOf_lt hk) hkj
            have : d' = s := Option.some.inj (hd'.symm.trans hk)
            rw [hN, ← this]; exact hlt) (fun j o' hj e => F.dsts j k s (by rw [hdl j o' hj]; exact e) hk)
          rw [e2, Nat.zero_add]
          exact (hV k s hk).1
        · rw [putsL_ne V s l 0 a (fun i o ho e => h1 ⟨i, by rw [hdl i o ho]; exact e⟩)]
          exact I.r.keep s fun k hk => absurd ⟨k, hk⟩ h1
      have e2 : b.defers = (putsL V 0 l a).defers := by rw [putsL_defers]; exact I.r.defs
      generalize putsL V 0 l a = c at e1 e2
      cases b; cases c; simp only at e1 e2; rw [e1, e2]
    rw [hb]
    refine h V w' I.r.below (fun k hk hne => ?_) (fun hj => ?_)
    · obtain ⟨d, hd, _⟩ := F.has k (by simpa using hk) hne
      exact (hV k d hd).2 hne
    · have hj' : x.j < l.toArray.size := by simpa using hj
      obtain ⟨g, hg, hgr⟩ := I.st hj' (hall _ hj')
      have hdp := (F.stk _ (Array.getElem?_eq_getElem hj')).1.1
      have := (hV _ _ hdp).1
      rw [hg] at this
      exact ⟨g, (Option.some.inj this).symm, hgr⟩
  have run : ∀ (f : Nat) (r : List Nat) (t : Array Bool) (b : Act) (w' : World), r.length ≤ f → (∀ k, k < l.toArray.size → t.getD k false = false → k ∈ r) → InvS l.toArray w Φ x a t b w' → wpAny P .any l.toArray Q f t b w' := by
    intro f
    induction f with
    | zero =>
      intro r t b w' hl hr I
      have hnil : r = [] := List.length_eq_zero_iff.1 (by omega)
      have : Region.ready .any l.toArray t = [] := by
        apply List.eq_nil_iff_forall_not_mem.2
        intro k hk
        obtain ⟨h1, o, ho, _⟩ := mem_ready.1 hk
        have := hr k (Array.getElem?_eq_some_iff.1 ho).1 (getD_both h1)
        rw [hnil] at this; cases this
      exact ⟨this, over t b w' this I⟩
    | succ f ih =>
      intro r t b w' hl hr I
      refine ⟨fun h0 => over t b w' h0 I, fun k hk => InvS.step F hN mono stab hgs hgj (fun hj => hal (by simpa using hj)) (fun hj => hrow (by simpa using hj)) hsj hst I hk fun b' w'' I' => ?_⟩
      obtain ⟨h1, o, ho, _⟩ := mem_ready.1 hk
      have hkr := hr k (Array.getElem?_eq_some_iff.1 ho).1 (getD_both h1)
      refine ih (r.erase k) _ b' w'' (by rw [List.length_erase_of_mem hkr]; omega) (fun j hj ht => ?_) I'
      by_cases e : k = j
      · subst e
        rw [set_at (by rw [I.r.tsz]; exact hj)] at ht; cases ht
      · rw [getD_set_ne false e] at ht
        exact (List.mem_erase_of_ne (Ne.symm e)).2 (hr j hj ht)
  refine run _ (List.range l.toArray.size) _ _ _ (by simp) (fun k hk _ => List.mem_range.2 hk) ⟨⟨by simp, rfl, rfl, fun s _ => rfl, fun k ht => ?_, ⟨rfl, rfl, rfl, Nat.le_refl _, fun _ _ => rfl⟩⟩, fun _ ht => ?_, fun _ ht => ?_⟩ <;> (rw [getD_replicate_false] at ht; cases ht)
end Go.Proofs.Ytighlefajekloaa.Qs

/- Tools for regions walked by predicates (Qr, Qs): an operation whose value is one, shown in a literal act by the tactics; a call; a load. No program is named here. -/
set_option linter.unusedVariables false
set_option linter.unusedSimpArgs false
namespace Go.Proofs.Ytighlefajekloaa.Qz
open Go.RowKit Go.Sort Qb Qt Qa Qf Qr Qs

section
variable {P : Program} {ops : Array Oper} {Φ : Nat → World → Value → Prop} {W : World} {a : Act} {k : Nat} {o : Oper}
theorem nodst {s : Tmp} (h : (upto ops.size fun k => dstOf ops k != some s) = true) : ∀ k', dstOf ops k' ≠ some s := fun k' hk => by
  have := upto_spec h k' (dstOf_lt hk)
  rw [hk] at this
  simp at this
/-- a slot that the act A and whatever act fits agree upon -/
def Agrees (ops : Array Oper) (Φ : Nat → World → Value → Prop) (a A : Act) (s : Tmp) : Prop :=
  (∃ k' u, dstOf ops k' = some s ∧ (∀ w v, Φ k' w v → v = u) ∧ A.tmps[s]? = some u) ∨ ((∀ k', dstOf ops k' ≠ some s) ∧ A.tmps[s]? = a.tmps[s]?)
theorem eval_of {b A : Act} (hb : ∀ s ∈ o.looksAt ops, b.eval (.tmp s) = A.eval (.tmp s)) (hs : ∀ cs b, o.op ≠ .select cs b) : execOp b.eval o = execOp A.eval o :=
  execOp_congr o hs fun x hx => by
    cases x with
    | tmp t => exact hb t (List.mem_append_left _ (List.mem_filterMap.2 ⟨.tmp t, by simpa using hx, rfl⟩))
    | const v => rfl
    | global g => rfl
    | func f => rfl
theorem st_one {A : Act} {d : Tmp} {v : Value} (hd : o.dst = some d) (hlt : d < A.tmps.size) (hsel : ∀ cs b, o.op ≠ .select cs b) (hl : ∀ s ∈ o.looksAt ops, Agrees ops Φ a A s) (hΦ : ∀ w, Φ k w v)
    (hq : ∀ W1, Below W.heap.size W W1 → o.quiet P A (fun w' => ∃ p : Regrown, w' = grow (redrawn W1 p.d) p.os) (fun a' => a' = A.put o.dst v)) : StepOK P ops Φ W a k o := by
  intro b w hb hdp hk
  have he : execOp b.eval o = execOp A.eval o := by
    refine eval_of (ops := ops) (fun s hs => ?_) hsel
    rcases hl s hs with ⟨k', u, hk', hu, hA⟩ | ⟨hn, hA⟩
    · rw [hu _ _ (hdp s hs k' hk')]
      simp [Act.eval, Array.getD_eq_getD_getElem?, hA]
    · simp [Act.eval, Array.getD_eq_getD_getElem?, hA, hk s hn]
  obtain ⟨v0, h1, h2⟩ := hq w hb
  have hv : v0 = v := by
    rw [hd] at h2
    have : (A.put (some d) v0).tmps[d]? = (A.put (some d) v).tmps[d]? := by rw [h2]
    rw [put_same _ _ _ hlt, put_same _ _ _ hlt] at this
    exact Option.some.inj this
  subst hv
  have h3 := h1 w ⟨⟨w.drawn, #[]⟩, by rw [grow_empty]; rfl⟩
  unfold Oper.quietAt at h3
  rw [he]
  generalize (execOp A.eval o).run P w = r at h3
  cases r with
  | halt x w' => simp only [Oper.quietUpon] at h3
  | ok nx w' =>
    cases nx <;> simp only [Oper.quietUpon] at h3
    case value u => obtain ⟨rfl, rfl⟩ := h3; exact ⟨hΦ _, Below.refl _ _⟩
    case skip => obtain ⟨rfl, rfl⟩ := h3; exact ⟨hΦ _, Below.refl _ _⟩
    case enter f args =>
      obtain ⟨rfl, h3⟩ := h3
      exact h3.mono fun e w'' hh => ⟨v0, hh.1, hΦ _, by obtain ⟨p, rfl⟩ := hh.2; exact below_regrown _ _ _⟩
/-- the steps of a region, the store left out -/
def StepsX (P : Program) (ops : Array Oper) (Φ : Nat → World → Value → Prop) (W : World) (a : Act) (j : Nat) : Nat → List Oper → Prop
  | _, [] => True
  | k, o :: r => (k = j ∨ StepOK P ops Φ W a k o) ∧ StepsX P ops Φ W a j (k + 1) r
theorem stepsX_at {j : Nat} : ∀ (l : List Oper) (k : Nat), StepsX P ops Φ W a j k l → ∀ (i : Nat) (o : Oper), l[i]? = some o → k + i ≠ j → StepOK P ops Φ W a (k + i) o := by
  intro l
  induction l with
  | nil => intro k _ i o h; simp at h
  | cons x l ih =>
    intro k h i o ho hne
    cases i with
    | zero => simp at ho; subst ho; exact h.1.resolve_left hne
    | succ i => rw [show k + (i + 1) = k + 1 + i by omega] at hne ⊢; exact ih (k + 1) h.2 i o (by simpa using ho) hne
theorem st_val {l : List Oper} {VS : Nat → Value} {N : Nat} {x : St1} {gs : List Nat} (F : FitS .any l.toArray N x gs) (hN : a.tmps.size = N) {d : Tmp} {v : Value} (hd : o.dst = some d) (hlt : d < N) (hsel : ∀ cs b, o.op ≠ .select cs b)
    (hl : ∀ s ∈ o.looksAt l.toArray, (∃ k', dstOf l.toArray k' = some s ∧ s < N ∧ ∀ w v, Φ k' w v → v = VS k') ∨ ∀ k', dstOf l.toArray k' ≠ some s) (hΦ : ∀ w, Φ k w v)
    (hq : ∀ W1, Below W.heap.size W W1 → o.quiet P (putsL VS 0 l a) (fun w' => ∃ p : Regrown, w' = grow (redrawn W1 p.d) p.os) (fun a' => a' = (putsL VS 0 l a).put o.dst v)) : StepOK P l.toArray Φ W a k o := by
  refine st_one (A := putsL VS 0 l a) hd (by rw [putsL_size, hN]; exact hlt) hsel (fun s hs => ?_) hΦ hq
  rcases hl s hs with ⟨k', hk', hsN, hu⟩ | hn
  · refine .inl ⟨k', VS k', hk', hu, ?_⟩
    have hkl : k' < l.length := by have := dstOf_lt hk'; simpa using this
    have hko : l[k']? = some l[k'] := by simp [hkl]
    have := putsL_at VS s l 0 a k' l[k'] hko (by rw [← dstOf_of (show l.toArray[k']? = some l[k'] by simp [hkl])]; exact hk') (by rw [hN]; exact hsN) (fun j o' hj e => F.dsts j k' s (by rw [dstOf_of (show l.toArray[j]? = some o' by simpa using hj)]; exact e) hk')
    rw [this, Nat.zero_add]
  · exact .inr ⟨hn, putsL_ne VS s l 0 a (fun i o' hi e => hn i (by rw [dstOf_of (show l.toArray[i]? = some o' by simpa using hi)]; exact e))⟩
/-- THE LAW, its steps laid one by one -/
theorem wp_region_mixed {id : Nat} {Q : Exit → Act → World → Prop} {l : List Oper} {w : World} (N : Nat) (Φ : Nat → World → Value → Prop) (x : St1) (gs : List Nat) (hm : P.follows .mixedOrders = true) (hN : a.tmps.size = N)
    (hB : fitB .any l.toArray N x.j x.p x.kp x.s x.ks gs = true) (mono : ∀ k v w1 w2, Φ k w1 v → Below w1.heap.size w1 w2 → Φ k w2 v)
    (stab : ∀ k v w' g cur, k ≠ x.j → Φ k w' v → w.heap.size ≤ g → w'.heap[g]? = some (.cells cur x.T) → cur.size = x.row.size → Φ k (w'.setRow g x.row) v)
    (hgs : ∀ g ∈ gs, ∀ w v, Φ g w v → v = .bool true) (hgj : ∀ g ∈ gs, g ≠ x.j)
    (hal : x.j < l.length → ∀ w' v, Φ x.kp w' v → ∃ g cur, v = ptr g ∧ w.heap.size ≤ g ∧ w'.heap[g]? = some (.cells cur x.T) ∧ cur.size = x.row.size) (hrow : x.j < l.length → ∀ w v, Φ x.ks w v → v = .agg x.row)
    (hsj : ∀ o, l.toArray[x.j]? = some o → IsS1 P o x)
    (hst : FitS .any l.toArray N x gs → StepsX P l.toArray Φ w a x.j 0 l)
    (h : ∀ (V : Nat → Value) (w' : World), Below w.heap.size w w' → (∀ k, k < l.length → k ≠ x.j → Φ k w' (V k)) → (x.j < l.length → ∃ g, V x.kp = ptr g ∧ w'.heap[g]? = some (.cells x.row x.T)) → wpList P l.toArray Q [] (putsL V 0 l a) w') : (Code.region id l.toArray true).wp P Q a w :=
  wp_region_one N Φ x gs hm hN hB mono stab hgs hgj hal hrow hsj (fun k o hne ho => by
    have := stepsX_at l 0 (hst (fitS_of hB)) k o (by simpa using ho) (by rw [Nat.zero_add]; exact hne)
    rwa [Nat.zero_add] at this) h
theorem call_run {e : Operand → Value} {f : FuncId} {fn : Func} {c : Code} {args : Array Operand} {argTypes : Array TypeId} (ho : o.op = .call { callee := .value (.func f), args := args, argTypes := argTypes }) (he : e (.func f) = .func (.func f) #[] #[])
    (hf : P.funcs[f]? = some fn) (hname : (fn.name == "runtime.NumGoroutine") = false) (hb : fn.body = some c) (w : World) : (execOp e o).run P w = .ok (.enter f (args.map e)) w := by
  have h1 : fn.name ≠ "runtime.NumGoroutine" := by simpa using hname
  unfold execOp
  simp [ho, resolve, he, callFunc, hf, h1, hb, mark, invoke, Deferred.ofValue, go_sem]
end

/-- as st_val, the act named -/
theorem st_valA {P : Program} {Φ : Nat → World → Value → Prop} {W : World} {a A : Act} {k : Nat} {o : Oper} {l : List Oper} {VS : Nat → Value} {N : Nat} {x : St1} {gs : List Nat} (hA : putsL VS 0 l a = A) (F : FitS .any l.toArray N x gs) (hN : a.tmps.size = N) {d : Tmp} {v : Value} (hd : o.dst = some d) (hlt : d < N) (hsel : ∀ cs b, o.op ≠ .select cs b)
    (hl : ∀ s ∈ o.looksAt l.toArray, (∃ k', dstOf l.toArray k' = some s ∧ s < N ∧ ∀ w v, Φ k' w v → v = VS k') ∨ ∀ k', dstOf l.toArray k' ≠ some s) (hΦ : ∀ w, Φ k w v)
    (hq : ∀ W1, Below W.heap.size W W1 → o.quiet P A (fun w' => ∃ p : Regrown, w' = grow (redrawn W1 p.d) p.os) (fun a' => a' = A.put o.dst v)) : StepOK P l.toArray Φ W a k o := by
  subst hA
  exact st_val F hN hd hlt hsel hl hΦ hq
/-- THE LAW, its steps laid one by one, the act of the known values named -/
theorem wp_region_mixedA {P : Program} {a : Act} {id : Nat} {Q : Exit → Act → World → Prop} {l : List Oper} {w : World} (N : Nat) (Φ : Nat → World → Value → Prop) (x : St1) (gs : List Nat) (VS : Nat → Value) (hm : P.follows .mixedOrders = true) (hN : a.tmps.size = N)
    (hB : fitB .any l.toArray N x.j x.p x.kp x.s x.ks gs = true) (mono : ∀ k v w1 w2, Φ k w1 v → Below w1.heap.size w1 w2 → Φ k w2 v)
    (stab : ∀ k v w' g cur, k ≠ x.j → Φ k w' v → w.heap.size ≤ g → w'.heap[g]? = some (.cells cur x.T) → cur.size = x.row.size → Φ k (w'.setRow g x.row) v)
    (hgs : ∀ g ∈ gs, ∀ w v, Φ g w v → v = .bool true) (hgj : ∀ g ∈ gs, g ≠ x.j)
    (hal : x.j < l.length → ∀ w' v, Φ x.kp w' v → ∃ g cur, v = ptr g ∧ w.heap.size ≤ g ∧ w'.heap[g]? = some (.cells cur x.T) ∧ cur.size = x.row.size) (hrow : x.j < l.length → ∀ w v, Φ x.ks w v → v = .agg x.row)
    (hsj : ∀ o, l.toArray[x.j]? = some o → IsS1 P o x)
    (hst : ∀ A, putsL VS 0 l a = A → FitS .any l.toArray N x gs → StepsX P l.toArray Φ w a x.j 0 l)
    (h : ∀ (V : Nat → Value) (w' : World), Below w.heap.size w w' → (∀ k, k < l.length → k ≠ x.j → Φ k w' (V k)) → (x.j < l.length → ∃ g, V x.kp = ptr g ∧ w'.heap[g]? = some (.cells x.row x.T)) → wpList P l.toArray Q [] (putsL V 0 l a) w') : (Code.region id l.toArray true).wp P Q a w :=
  wp_region_mixed N Φ x gs hm hN hB mono stab hgs hgj hal hrow hsj (fun F => hst _ rfl F) h
end Go.Proofs.Ytighlefajekloaa.Qz

/- As Qs, but the row that is stored need not be one row: it is what stands in its slot (a call's result that depends on the world). No program is named here. -/
set_option linter.unusedVariables false
set_option linter.unusedSimpArgs false
namespace Go.Proofs.Ytighlefajekloaa.Qv
open Go.RowKit Go.Sort Qb Qt Qa Qf Qr Qs
structure IsV (P : Program) (o : Oper) (x : St1) (n : Nat) : Prop where
  op : ∃ ty, o.op = .store ty (.tmp x.p) (.tmp x.s) ∧ (P.info? ty).map (·.size) = some n
  dst : o.dst = none
section
variable {P : Program} {ops : Array Oper} {W : World} {md : Region.Mode} {N : Nat} {Φ : Nat → World → Value → Prop} {x : St1} {gs : List Nat}
structure InvV (ops : Array Oper) (W : World) (Φ : Nat → World → Value → Prop) (x : St1) (a0 : Act) (t : Array Bool) (a : Act) (w : World) : Prop where
  r : InvR ops W (fun k w v => k ≠ x.j → Φ k w v) a0 t a w
  kp : x.j < ops.size → t.getD x.j false = true → t.getD x.kp false = true ∧ t.getD x.ks false = true
  st : x.j < ops.size → t.getD x.j false = true → ∃ g row, a.tmps[x.p]? = some (ptr g) ∧ a.tmps[x.s]? = some (.agg row) ∧ w.heap[g]? = some (.cells row x.T)

theorem InvV.step {n : Nat} {a0 : Act} {K : Act → World → Prop} {R : Exit → Act → World → Prop} (F : FitS md ops N x gs) (hN : a0.tmps.size = N) (mono : ∀ k v w1 w2, Φ k w1 v → Below w1.heap.size w1 w2 → Φ k w2 v)
    (stab : ∀ k v w g cur row, k ≠ x.j → Φ k w v → W.heap.size ≤ g → w.heap[g]? = some (.cells cur x.T) → cur.size = n → row.size = n → Φ k (w.setRow g row) v)
    (hgs : ∀ g ∈ gs, ∀ w v, Φ g w v → v = .bool true) (hgj : ∀ g ∈ gs, g ≠ x.j)
    (hal : x.j < ops.size → ∀ w v, Φ x.kp w v → ∃ g cur, v = ptr g ∧ W.heap.size ≤ g ∧ w.heap[g]? = some (.cells cur x.T) ∧ cur.size = n) (hrow : x.j < ops.size → ∀ w v, Φ x.ks w v → ∃ row, v = .agg row ∧ row.size = n ∧ row.all (·.oneCell') = true)
    (hsj : ∀ o, ops[x.j]? = some o → IsV P o x n)
    (hst : ∀ k o, k ≠ x.j → ops[k]? = some o → StepOK P ops Φ W a0 k o) {t : Array Bool} {a : Act} {w : World} (I : InvV ops W Φ x a0 t a w) {k : Nat} (hk : k ∈ Region.ready md ops t)
    (h : ∀ a' w', InvV ops W Φ x a0 (t.setIfInBounds k true) a' w' → K a' w') : wpOp P ops R k K a w := by
  obtain ⟨hkt, o, ho, hed⟩ := mem_ready.1 hk
  have hkn : k < ops.size := (Array.getElem?_eq_some_iff.1 ho).1
  have hkf : t.getD k false = false := getD_both hkt
  have hkt' : k < t.size := by rw [I.r.tsz]; exact hkn
  have hwt : Region.wanted o (yielded ops a.tmps) = true := by
    rcases F.gd k o ho with hg | ⟨g, hg, hgm, ⟨d, hd⟩, e, he, hb, hon⟩
    · simp [Region.wanted, hg]
    · have ht := hed e he hb
      rw [hon] at ht
      obtain ⟨v, hv, hp⟩ := I.r.got g ht d hd
      have := hgs g hgm w v (hp (hgj g hgm))
      subst this
      have hy : yielded ops a.tmps g = some true := by
        unfold yielded
        have : (ops[g]?).bind (·.dst) = some d := hd
        rw [this, Option.bind_some, hv]
      simp [Region.wanted, hg, hy]
  have hdep : k ≠ x.j → ∀ s ∈ o.looksAt ops, ∀ k', dstOf ops k' = some s → Φ k' w (a.eval (.tmp s)) := by
    intro hne s hs k' hk'
    obtain ⟨e, he, hb, hon⟩ := F.look k o ho hne s hs k' hk'
    have ht := hed e he hb
    rw [hon] at ht
    obtain ⟨v, hv, hp⟩ := I.r.got k' ht s hk'
    have hk'j : k' ≠ x.j := fun e => by
      subst e
      have hlt := dstOf_lt hk'
      have := (hsj (ops[x.j]'hlt) (Array.getElem?_eq_getElem hlt)).dst
      rw [dstOf_of (Array.getElem?_eq_getElem hlt), this] at hk'; cases hk'
    have hp := hp hk'j
    simpa [Act.eval, Array.getD_eq_getD_getElem?, hv] using hp
  by_cases hkj : k = x.j
  · -- the store
    subst hkj
    have hSt := hsj o ho
    obtain ⟨⟨hdp, e1, he1, hb1, hon1⟩, hds, e2, he2, hb2, hon2⟩ := F.stk o ho
    have t1 := hed e1 he1 hb1
    have t2 := hed e2 he2 hb2
    rw [hon1] at t1
    rw [hon2] at t2
    obtain ⟨vp, hvp, hpp⟩ := I.r.got x.kp t1 x.p hdp
    obtain ⟨vs, hvs, hps⟩ := I.r.got x.ks t2 x.s hds
    have hnd : ∀ s, dstOf ops x.j ≠ some s := fun s e => by rw [dstOf_of ho, hSt.dst] at e; cases e
    have hkpj : x.kp ≠ x.j := fun e => hnd _ (by rw [← e]; exact hdp)
    have hksj : x.ks ≠ x.j := fun e => hnd _ (by rw [← e]; exact hds)
    obtain ⟨g, cur, rfl, hBg, hg, hcs⟩ := hal hkn w vp (hpp hkpj)
    obtain ⟨row, rfl, hrn, hr1⟩ := hrow hkn w vs (hps hksj)
    obtain ⟨ty, hop, hinfo⟩ := hSt.op
    unfold wpOp
    simp only [ho, hwt, if_true]
    refine .inl (wp_store_row ty (.tmp x.p) (.tmp x.s) hop g row (by simp [Act.eval, Array.getD_eq_getD_getElem?, hvp]) (by simp [Act.eval, Array.getD_eq_getD_getElem?, hvs]) x.T cur hg (by rw [hrn]; exact hinfo) (by rw [hrn]; exact hcs) hr1 ?_)
    rw [hSt.dst]
    show K a _
    refine h _ _ ⟨⟨by simp [I.r.tsz], I.r.defs, I.r.sz, fun s hs => ?_, fun k' ht d hd => ?_, below_setRow I.r.below hBg _⟩, fun _ _ => ⟨set_mono t1, set_mono t2⟩, fun _ _ => ⟨g, row, hvp, hvs, setRow_heap _ _ _ _ _ _ hg⟩⟩
    · refine I.r.keep s fun k' hk' => ?_
      cases ht : t.getD k' false
      · rfl
      · have := hs k' hk'; rw [set_mono ht] at this; cases this
    · rcases set_or ht with rfl | ht
      · exact absurd hd (hnd d)
      · obtain ⟨v, hv, hp⟩ := I.r.got k' ht d hd
        exact ⟨v, hv, fun hne => stab _ _ _ _ _ _ hne (hp hne) hBg hg hcs hrn⟩
  · obtain ⟨d, hd, hdN⟩ := F.has k hkn hkj
    have hod : o.dst = some d := by rw [← dstOf_of ho]; exact hd
    have hlt : d < a.tmps.size := by rw [I.r.sz, hN]; exact hdN
    have hr := hst k o hkj ho a w I.r.below (hdep hkj) (fun s hs => I.r.keep s fun k' hk' => absurd hk' (hs k'))
    have next : ∀ v w', Φ k w' v → Below w.heap.size w w' → K (a.put o.dst v) w' := by
      intro v w' hp hb
      refine h _ _ ⟨⟨by simp [I.r.tsz], by rw [put_defers]; exact I.r.defs, by rw [put_size]; exact I.r.sz, fun s hs => ?_, fun k' ht d' hd' => ?_, I.r.below.trans (hb.mono I.r.below.size)⟩, fun hj ht => (by rw [getD_set_ne false (fun e => hkj e)] at ht; exact ⟨set_mono (I.kp hj ht).1, set_mono (I.kp hj ht).2⟩), fun hj ht => ?_⟩
      · have hne : o.dst ≠ some s := fun e => by have := hs k (by rw [dstOf_of ho]; exact e); rw [set_at hkt'] at this; cases this
        rw [put_ne _ _ _ _ hne]
        refine I.r.keep s fun k' hk' => ?_
        cases ht : t.getD k' false
        · rfl
        · have := hs k' hk'; rw [set_mono ht] at this; cases this
      · rcases set_or ht with rfl | ht
        · have e : d' = d := Option.some.inj (hd'.symm.trans hd)
          subst e
          exact ⟨v, by rw [hod, put_same _ _ _ hlt], fun _ => hp⟩
        · by_cases e : d = d'
          · subst e
            obtain rfl := F.dsts _ _ _ hd' hd
            exact ⟨v, by rw [hod, put_same _ _ _ hlt], fun _ => hp⟩
          · obtain ⟨u, hu, hup⟩ := I.r.got k' ht d' hd'
            exact ⟨u, by rw [hod, put_ne _ _ _ _ (fun e2 => e (Option.some.inj e2))]; exact hu, fun hne => mono _ _ _ _ (hup hne) hb⟩
      · rw [getD_set_ne false (fun e => hkj e)] at ht
        obtain ⟨g, row, hg, hgs', hgr⟩ := I.st hj ht
        have hoj := Array.getElem?_eq_getElem hj
        have hdp := (F.stk _ hoj).1.1
        have hne : d ≠ x.p := fun e => by
          have := F.dsts k x.kp d hd (by rw [e]; exact hdp)
          subst this
          rw [(I.kp hj ht).1] at hkf; cases hkf
        have hdp2 := (F.stk _ hoj).2.1
        have hne2 : d ≠ x.s := fun e => by
          have := F.dsts k x.ks d hd (by rw [e]; exact hdp2)
          subst this
          rw [(I.kp hj ht).2] at hkf; cases hkf
        exact ⟨g, row, by rw [hod, put_ne _ _ _ _ (fun e2 => hne (Option.some.inj e2))]; exact hg, by rw [hod, put_ne _ _ _ _ (fun e2 => hne2 (Option.some.inj e2))]; exact hgs', by rw [hb.block _ (Qf.lt_of_heap hgr)]; exact hgr⟩
    unfold wpOp
    simp only [ho, hwt, if_true]
    refine .inl ?_
    unfold Oper.wp
    generalize (execOp a.eval o).run P w = res at hr
    cases res with
    | halt x w' => simp only [relUpon] at hr
    | ok nx w' =>
      cases nx <;> simp only [relUpon] at hr
      case value u => exact next u w' hr.1 hr.2
      case skip => exact next undef w' hr.1 hr.2
      case enter f args =>
        refine hr.mono ?_
        rintro e w'' ⟨v, rfl, hp, hb⟩
        exact next v w'' hp hb
end

/-- THE LAW -/
theorem wp_region_onev {n : Nat} {P : Program} {id : Nat} {Q : Exit → Act → World → Prop} {a : Act} {w : World} {l : List Oper} (N : Nat) (Φ : Nat → World → Value → Prop) (x : St1) (gs : List Nat) (hm : P.follows .mixedOrders = true) (hN : a.tmps.size = N)
    (hB : fitB .any l.toArray N x.j x.p x.kp x.s x.ks gs = true) (mono : ∀ k v w1 w2, Φ k w1 v → Below w1.heap.size w1 w2 → Φ k w2 v)
    (stab : ∀ k v w' g cur row, k ≠ x.j → Φ k w' v → w.heap.size ≤ g → w'.heap[g]? = some (.cells cur x.T) → cur.size = n → row.size = n → Φ k (w'.setRow g row) v)
    (hgs : ∀ g ∈ gs, ∀ w v, Φ g w v → v = .bool true) (hgj : ∀ g ∈ gs, g ≠ x.j)
    (hal : x.j < l.length → ∀ w' v, Φ x.kp w' v → ∃ g cur, v = ptr g ∧ w.heap.size ≤ g ∧ w'.heap[g]? = some (.cells cur x.T) ∧ cur.size = n) (hrow : x.j < l.length → ∀ w v, Φ x.ks w v → ∃ row, v = .agg row ∧ row.size = n ∧ row.all (·.oneCell') = true)
    (hsj : ∀ o, l.toArray[x.j]? = some o → IsV P o x n)
    (hst : ∀ k o, k ≠ x.j → l.toArray[k]? = some o → StepOK P l.toArray Φ w a k o)
    (h : ∀ (V : Nat → Value) (w' : World), Below w.heap.size w w' → (∀ k, k < l.length → k ≠ x.j → Φ k w' (V k)) → (x.j < l.length → ∃ g row, V x.kp = ptr g ∧ V x.ks = .agg row ∧ w'.heap[g]? = some (.cells row x.T)) → wpList P l.toArray Q [] (putsL V 0 l a) w') : (Code.region id l.toArray true).wp P Q a w := by
  have F := fitS_of hB
  have hls : l.toArray.size = l.length := by simp
  refine wp_region_any hm ?_
  have over : ∀ (t : Array Bool) (b : Act) (w' : World), Region.ready .any l.toArray t = [] → InvV l.toArray w Φ x a t b w' → Q .normal b w' := by
    intro t b w' hr I
    have hall : ∀ k, k < l.toArray.size → t.getD k false = true := by
      intro k
      induction k using Nat.strongRecOn with
      | ind k ih =>
        intro hk
        cases ht : t.getD k false
        · have : k ∈ Region.ready .any l.toArray t := mem_ready.2 ⟨getD_in (by rw [I.r.tsz]; exact hk) ht, l.toArray[k], Array.getElem?_eq_getElem hk, fun e he hb => by
            have h1 := F.back k l.toArray[k] (Array.getElem?_eq_getElem hk) e he hb
            exact ih _ h1 (by omega)⟩
          rw [hr] at this; cases this
        · rfl
    have hV : ∃ V : Nat → Value, ∀ k d, dstOf l.toArray k = some d → b.tmps[d]? = some (V k) ∧ (k ≠ x.j → Φ k w' (V k)) := by
      refine ⟨fun k => b.tmps.getD ((dstOf l.toArray k).getD 0) undef, fun k d hd => ?_⟩
      obtain ⟨v, hv, hp⟩ := I.r.got k (hall k (dstOf_lt hd)) d hd
      simp only [hd, Option.getD_some, Array.getD_eq_getD_getElem?, hv]
      exact ⟨trivial, hp⟩
    obtain ⟨V, hV⟩ := hV
    have hdl : ∀ (i : Nat) (o : Oper), l[i]? = some o → dstOf l.toArray i = o.dst := fun i o ho => dstOf_of (by simpa using ho)
    have hb : b = putsL V 0 l a := by
      have e1 : b.tmps = (putsL V 0 l a).tmps := by
        apply Array.ext_getElem?
        intro s
        by_cases h1 : ∃ k, dstOf l.toArray k = some s
        · obtain ⟨k, hk⟩ := h1
          have hkl : k < l.length := by have := dstOf_lt hk; simpa using this
          have hko : l[k]? = some l[k] := by simp [hkl]
          have hkj : k ≠ x.j := fun e => by
            subst e
            have := (hsj l[x.j] (by simp [hkl])).dst
            rw [hdl _ _ hko, this] at hk; cases hk
          have e2 := putsL_at V s l 0 a k l[k] hko (by rw [← hdl k _ hko]; exact hk) (by
            obtain ⟨d', hd', hlt⟩ := F.has k (dstOf_lt hk) hkj
            have : d' = s := Option.some.inj (hd'.symm.trans hk)
            rw [hN, ← this]; exact hlt) (fun j o' hj e => F.dsts j k s (by rw [hdl j o' hj]; exact e) hk)
          rw [e2, Nat.zero_add]
          exact (hV k s hk).1
        · rw [putsL_ne V s l 0 a (fun i o ho e => h1 ⟨i, by rw [hdl i o ho]; exact e⟩)]
          exact I.r.keep s fun k hk => absurd ⟨k, hk⟩ h1
      have e2 : b.defers = (putsL V 0 l a).defers := by rw [putsL_defers]; exact I.r.defs
      generalize putsL V 0 l a = c at e1 e2
      cases b; cases c; simp only at e1 e2; rw [e1, e2]
    rw [hb]
    refine h V w' I.r.below (fun k hk hne => ?_) (fun hj => ?_)
    · obtain ⟨d, hd, _⟩ := F.has k (by simpa using hk) hne
      exact (hV k d hd).2 hne
    · have hj' : x.j < l.toArray.size := by simpa using hj
      obtain ⟨g, row, hg, hgs', hgr⟩ := I.st hj' (hall _ hj')
      have hds := (F.stk _ (Array.getElem?_eq_getElem hj')).2.1
      have th2 := (hV _ _ hds).1
      rw [hgs'] at th2
      have hdp := (F.stk _ (Array.getElem?_eq_getElem hj')).1.1
      have := (hV _ _ hdp).1
      rw [hg] at this
      exact ⟨g, row, (Option.some.inj this).symm, (Option.some.inj th2).symm, hgr⟩
  have run : ∀ (f : Nat) (r : List Nat) (t : Array Bool) (b : Act) (w' : World), r.length ≤ f → (∀ k, k < l.toArray.size → t.getD k false = false → k ∈ r) → InvV l.toArray w Φ x a t b w' → wpAny P .any l.toArray Q f t b w' := by
    intro f
    induction f with
    | zero =>
      intro r t b w' hl hr I
      have hnil : r = [] := List.length_eq_zero_iff.1 (by omega)
      have : Region.ready .any l.toArray t = [] := by
        apply List.eq_nil_iff_forall_not_mem.2
        intro k hk
        obtain ⟨h1, o, ho, _⟩ := mem_ready.1 hk
        have := hr k (Array.getElem?_eq_some_iff.1 ho).1 (getD_both h1)
        rw [hnil] at this; cases this
      exact ⟨this, over t b w' this I⟩
    | succ f ih =>
      intro r t b w' hl hr I
      refine ⟨fun h0 => over t b w' h0 I, fun k hk => InvV.step F hN mono stab hgs hgj (fun hj => hal (by simpa using hj)) (fun hj => hrow (by simpa using hj)) hsj hst I hk fun b' w'' I' => ?_⟩
      obtain ⟨h1, o, ho, _⟩ := mem_ready.1 hk
      have hkr := hr k (Array.getElem?_eq_some_iff.1 ho).1 (getD_both h1)
      refine ih (r.erase k) _ b' w'' (by rw [List.length_erase_of_mem hkr]; omega) (fun j hj ht => ?_) I'
      by_cases e : k = j
      · subst e
        rw [set_at (by rw [I.r.tsz]; exact hj)] at ht; cases ht
      · rw [getD_set_ne false e] at ht
        exact (List.mem_erase_of_ne (Ne.symm e)).2 (hr j hj ht)
  refine run _ (List.range l.toArray.size) _ _ _ (by simp) (fun k hk _ => List.mem_range.2 hk) ⟨⟨by simp, rfl, rfl, fun s _ => rfl, fun k ht => ?_, ⟨rfl, rfl, rfl, Nat.le_refl _, fun _ _ => rfl⟩⟩, fun _ ht => ?_, fun _ ht => ?_⟩ <;> (rw [getD_replicate_false] at ht; cases ht)
end Go.Proofs.Ytighlefajekloaa.Qv

/- Regions walked by predicates (Qv), by kinds: in each slot one value, or what fits a predicate of the world. No program is named here. -/
set_option linter.unusedVariables false
set_option linter.unusedSimpArgs false
namespace Go.Proofs.Ytighlefajekloaa.Qk
open Go.RowKit Go.Sort Qb Qt Qa Qf Qr Qs Qz Qv
inductive K3 where
  | val (v : Value)
  | pr (p : World → Value → Prop)
def K3.sat : K3 → World → Value → Prop
  | .val u, _, v => v = u
  | .pr p, w, v => p w v
def K3.out : K3 → Value
  | .val u => u
  | .pr _ => undef
def K3.isVal : K3 → Bool
  | .val _ => true
  | .pr _ => false
def phi3 (ks : List K3) (k : Nat) (w : World) (v : Value) : Prop := (ks.getD k (.val undef)).sat w v
def outs3 (ks : List K3) (k : Nat) : Value := (ks.getD k (.val undef)).out
def look3B (ks : List K3) (ops : Array Oper) (N : Nat) (o : Oper) : Bool := (o.looksAt ops).all fun s => upto ops.size fun k' => dstOf ops k' != some s || ((ks.getD k' (.val undef)).isVal && decide (s < N))
theorem look3 {ks : List K3} {ops : Array Oper} {N : Nat} {o : Oper} (h : look3B ks ops N o = true) : ∀ s ∈ o.looksAt ops, (∃ k', dstOf ops k' = some s ∧ s < N ∧ ∀ w v, phi3 ks k' w v → v = outs3 ks k') ∨ ∀ k', dstOf ops k' ≠ some s := by
  intro s hs
  by_cases he : ∃ k', dstOf ops k' = some s
  · obtain ⟨k', hk'⟩ := he
    unfold look3B at h
    have := upto_spec (List.all_eq_true.1 h s hs) k' (dstOf_lt hk')
    rw [hk'] at this
    simp only [bne_self_eq_false, Bool.false_or, Bool.and_eq_true, decide_eq_true_eq] at this
    refine .inl ⟨k', rfl.trans hk', this.2, fun w v hv => ?_⟩
    unfold phi3 at hv
    unfold outs3
    have h1 := this.1
    revert h1 hv
    generalize ks.getD k' (.val undef) = K
    intro hv h1
    cases K <;> first | exact hv | (simp [K3.isVal] at h1)
  · exact .inr fun k' hk' => he ⟨k', hk'⟩
def K3.mono : K3 → Prop
  | .val _ => True
  | .pr p => ∀ v w1 w2, p w1 v → Below w1.heap.size w1 w2 → p w2 v
def K3.stab (T : TypeId) (B n : Nat) : K3 → Prop
  | .val _ => True
  | .pr p => ∀ v w g cur row, p w v → B ≤ g → w.heap[g]? = some (.cells cur T) → cur.size = n → row.size = n → p (w.setRow g row) v
def All3 (q : K3 → Prop) : List K3 → Prop
  | [] => True
  | k :: ks => q k ∧ All3 q ks
theorem all3_getD {q : K3 → Prop} (hq : q (.val undef)) : ∀ ks, All3 q ks → ∀ k, q (ks.getD k (.val undef))
  | [], _, k => by simpa using hq
  | x :: ks, h, 0 => by simpa using h.1
  | x :: ks, h, k + 1 => by simpa using all3_getD hq ks h.2 k
theorem phi3_mono {ks : List K3} (h : All3 K3.mono ks) (k : Nat) (v : Value) (w1 w2 : World) (hv : phi3 ks k w1 v) (hb : Below w1.heap.size w1 w2) : phi3 ks k w2 v := by
  have h1 := all3_getD (q := K3.mono) trivial ks h k
  unfold phi3 at *
  revert h1 hv
  generalize ks.getD k (.val undef) = K
  intro hv h1
  cases K with
  | val u => exact hv
  | pr p => exact h1 v w1 w2 hv hb
theorem phi3_stab {ks : List K3} {T : TypeId} {B n : Nat} (h : All3 (K3.stab T B n) ks) (k : Nat) (v : Value) (w : World) (g : Nat) (cur row : Array Value) (hv : phi3 ks k w v) (hg : B ≤ g) (h2 : w.heap[g]? = some (.cells cur T)) (h3 : cur.size = n) (h4 : row.size = n) : phi3 ks k (w.setRow g row) v := by
  have h1 := all3_getD (q := K3.stab T B n) trivial ks h k
  unfold phi3 at *
  revert h1 hv
  generalize ks.getD k (.val undef) = K
  intro hv h1
  cases K with
  | val u => exact hv
  | pr p => exact h1 v w g cur row hv hg h2 h3 h4
/-- a fresh block that the region makes -/
def alK (T : TypeId) (n B : Nat) (w : World) (v : Value) : Prop := ∃ g cur, v = ptr g ∧ B ≤ g ∧ w.heap[g]? = some (.cells cur T) ∧ cur.size = n
theorem alK_mono (T : TypeId) (n B : Nat) : K3.mono (.pr (alK T n B)) := by
  rintro v w1 w2 ⟨g, cur, e, hB, hg, hc⟩ hb
  exact ⟨g, cur, e, hB, by rw [hb.block _ (Qf.lt_of_heap hg)]; exact hg, hc⟩
theorem alK_stab (T : TypeId) (n B B' : Nat) : K3.stab T B' n (.pr (alK T n B)) := by
  rintro v w g cur row ⟨b, c2, e, hB, hb, hc⟩ _ hg _ hr
  by_cases e2 : b = g
  · subst e2
    exact ⟨b, row, e, hB, setRow_heap _ _ _ _ _ _ hg, hr⟩
  · exact ⟨b, c2, e, hB, (setRow_other _ _ _ _ e2).trans hb, hc⟩
/-- THE LAW by kinds -/
theorem wp_region_k3 {n : Nat} {P : Program} {id : Nat} {Q : Exit → Act → World → Prop} {a : Act} {w : World} {l : List Oper} (N : Nat) (ks : List K3) (x : St1) (hm : P.follows .mixedOrders = true) (hN : a.tmps.size = N)
    (hB : fitB .any l.toArray N x.j x.p x.kp x.s x.ks [] = true) (mono : All3 K3.mono ks) (stab : All3 (K3.stab x.T w.heap.size n) ks)
    (hal : ∀ w' v, phi3 ks x.kp w' v → ∃ g cur, v = ptr g ∧ w.heap.size ≤ g ∧ w'.heap[g]? = some (.cells cur x.T) ∧ cur.size = n) (hrow : ∀ w v, phi3 ks x.ks w v → ∃ row, v = .agg row ∧ row.size = n ∧ row.all (·.oneCell') = true)
    (hsj : ∀ o, l.toArray[x.j]? = some o → IsV P o x n)
    (hst : ∀ A, putsL (outs3 ks) 0 l a = A → FitS .any l.toArray N x [] → StepsX P l.toArray (phi3 ks) w a x.j 0 l)
    (h : ∀ (V : Nat → Value) (w' : World), Below w.heap.size w w' → (∀ k, k < l.length → k ≠ x.j → phi3 ks k w' (V k)) → (x.j < l.length → ∃ g row, V x.kp = ptr g ∧ V x.ks = .agg row ∧ w'.heap[g]? = some (.cells row x.T)) → wpList P l.toArray Q [] (putsL V 0 l a) w') : (Code.region id l.toArray true).wp P Q a w :=
  wp_region_onev (n := n) N (phi3 ks) x [] hm hN hB (phi3_mono mono) (fun k v w' g cur row _ hv hg h2 h3 h4 => phi3_stab stab k v w' g cur row hv hg h2 h3 h4) (fun g hg => nomatch hg) (fun g hg => nomatch hg) (fun _ => hal) (fun _ => hrow) hsj (fun k o hne ho => by
    have := stepsX_at l 0 (hst _ rfl (fitS_of hB)) k o (by simpa using ho) (by rw [Nat.zero_add]; exact hne)
    rwa [Nat.zero_add] at this) h
theorem move_run {P : Program} {e : Operand → Value} {o : Oper} {x : Operand} (ho : o.op = .move x) (w : World) : (execOp e o).run P w = .ok (.value (e x)) w := by
  simp [execOp, ho, go_sem]
theorem extract_run {P : Program} {e : Operand → Value} {o : Oper} {x : Operand} {i : Nat} {vs : Array Value} {v : Value} (ho : o.op = .extract x i) (hx : e x = .tuple vs) (hv : vs[i]? = some v) (w : World) : (execOp e o).run P w = .ok (.value v) w := by
  simp [execOp, ho, hx, hv, go_sem]
theorem assign_run {P : Program} {e : Operand → Value} {o : Oper} {x : Operand} (ho : o.op = .assign x) (w : World) : (execOp e o).run P w = .ok (.value (e x)) w := by
  simp [execOp, ho, go_sem]
theorem alloc_run {P : Program} {e : Operand → Value} {o : Oper} {ty : TypeId} (ho : o.op = .alloc ty) {u : Value} {w w' : World} (h : (Instr.alloc ty true (.tuple #[])).run P w = .ok u w') : (execOp e o).run P w = .ok (.value u) w' := by
  unfold execOp
  simp only [ho, Sem.run_bind, h, Result.andThen_ok, Sem.run_pure]
theorem ev_const (b : Act) (v : Value) : b.eval (.const v) = v := rfl
end Go.Proofs.Ytighlefajekloaa.Qk

/- A region that draws its order, with calls that write among its operations, each waiting for the one before it ('put(put(put(out, a), b), c)'): the others are quiet (each yields one value whatever has been written by then). No program is named here. -/
set_option linter.unusedVariables false
set_option linter.unusedSimpArgs false
namespace Go.Proofs.Ytighlefajekloaa.Qw
open Go.RowKit Go.Sort Qb Qt

section
variable {P : Program} {ops : Array Oper} {md : Region.Mode} {n : Nat} {σ : Type} {D : σ → World → Prop}

/-- what a writing operation leaves: a value and a state that go together -/
def wrUpon (P : Program) (D : σ → World → Prop) (Post : Value → σ → Prop) : Result Next → Prop
  | .ok (.value u) w' => ∃ s', Post u s' ∧ D s' w'
  | .ok (.enter f args) w' => Calls P f args w' (fun e w'' => ∃ v s', e = .returned v ∧ Post v s' ∧ D s' w'')
  | _ => False
def Wr (P : Program) (D : σ → World → Prop) (s : σ) (o : Oper) (a : Act) (Post : Value → σ → Prop) : Prop := ∀ w, D s w → wrUpon P D Post ((execOp a.eval o).run P w)
theorem Wr.of_same {s : σ} {o : Oper} {a a' : Act} {Post : Value → σ → Prop} (h : Wr P D s o a Post) (he : execOp a'.eval o = execOp a.eval o) : Wr P D s o a' Post := by
  intro w hw; rw [he]; exact h w hw
/-- one value in every world of every state, and the state stays -/
def Firm (P : Program) (D : σ → World → Prop) (o : Oper) (v : Value) (a : Act) : Prop := ∀ s w, D s w → o.quietAt P a (D s) w v
theorem Firm.of_same {o : Oper} {v : Value} {a a' : Act} (h : Firm P D o v a) (he : execOp a'.eval o = execOp a.eval o) : Firm P D o v a' := by
  intro s w hw
  have := h s w hw
  unfold Oper.quietAt at *
  rw [he]; exact this

/-- operation k, then K -/
def St (P : Program) (ops : Array Oper) (D : σ → World → Prop) (k : Nat) (K : Act → σ → Prop) (a : Act) (s : σ) : Prop :=
  ∃ o, ops[k]? = some o ∧ Region.wanted o (yielded ops a.tmps) = true ∧ ((∃ Post, Wr P D s o a Post ∧ ∀ v s', Post v s' → K (a.put o.dst v) s') ∨ ∃ v, Firm P D o v a ∧ K (a.put o.dst v) s)
theorem St.mono {k : Nat} {K K' : Act → σ → Prop} (h : ∀ a s, K a s → K' a s) {a : Act} {s : σ} (hs : St P ops D k K a s) : St P ops D k K' a s := by
  obtain ⟨o, ho, hw, h1⟩ := hs
  rcases h1 with ⟨Post, h2, h3⟩ | ⟨v, h3, h4⟩
  · exact ⟨o, ho, hw, .inl ⟨Post, h2, fun v s' hp => h _ _ (h3 v s' hp)⟩⟩
  · exact ⟨o, ho, hw, .inr ⟨v, h3, h _ _ h4⟩⟩
/-- whatever order the first n come up in -/
def Hd (P : Program) (ops : Array Oper) (md : Region.Mode) (D : σ → World → Prop) (n : Nat) (L : Array Bool → Act → σ → Prop) : Nat → Array Bool → Act → σ → Prop
  | 0, t, a, s => L t a s
  | f + 1, t, a, s => Region.ready md ops t ≠ [] ∧ ∀ k ∈ Region.ready md ops t, k < n ∧ St P ops D k (Hd P ops md D n L f (t.setIfInBounds k true)) a s

theorem St.op {k : Nat} {K : Act → σ → Prop} {K' : Act → World → Prop} {R : Exit → Act → World → Prop} {a : Act} {s : σ} {w : World} (hD : D s w) (hst : St P ops D k K a s)
    (h : ∀ a' s' w', D s' w' → K a' s' → K' a' w') : wpOp P ops R k K' a w := by
  obtain ⟨o, ho, hwt, h1⟩ := hst
  rcases h1 with ⟨Post, h2, h3⟩ | ⟨v, h3, h4⟩
  · unfold wpOp
    simp only [ho, hwt, if_true]
    refine .inl ?_
    unfold Oper.wp
    have hr := h2 w hD
    generalize (execOp a.eval o).run P w = r at hr
    cases r with
    | halt x w' => simp only [wrUpon] at hr
    | ok nx w' =>
      cases nx <;> simp only [wrUpon] at hr
      case value u =>
        obtain ⟨s', hp, hd⟩ := hr
        exact h _ s' _ hd (h3 u s' hp)
      case enter f args =>
        refine hr.mono ?_
        rintro e w'' ⟨v, s', rfl, hp, hd⟩
        exact h _ s' _ hd (h3 v s' hp)
  · refine wpOp_of_qOp (C := D s) (K := fun a' => a' = a.put o.dst v) hD (fun a' w' hw' ha' => ?_) ?_
    · subst ha'
      exact h _ s _ hw' h4
    · unfold qOp
      simp only [ho, hwt, if_true]
      exact ⟨v, fun w1 hw1 => h3 s w1 hw1, rfl⟩
theorem Hd.any {g : Nat} {L : Array Bool → Act → σ → Prop} {R : Exit → Act → World → Prop} (hL : ∀ t a s w, D s w → L t a s → wpAny P md ops R g t a w) :
    ∀ (f : Nat) (t : Array Bool) (a : Act) (s : σ) (w : World), D s w → Hd P ops md D n L f t a s → wpAny P md ops R (f + g) t a w := by
  intro f
  induction f with
  | zero => intro t a s w hw h; rw [Nat.zero_add]; exact hL t a s w hw h
  | succ f ih =>
    intro t a s w hw h
    rw [show f + 1 + g = (f + g) + 1 by omega]
    exact ⟨fun h0 => absurd h0 h.1, fun k hk => (h.2 k hk).2.op hw fun a' s' w' hw' ha' => ih _ a' s' w' hw' ha'⟩

/-- a quiet operation that may come up, may be taken first -/
theorem Hd.first {L : Array Bool → Act → σ → Prop} {i : Nat} {oi : Oper} {v : Value} (hi : ops[i]? = some oi) (hsel : ∀ (j : Nat) (o : Oper) cs b, ops[j]? = some o → o.op ≠ .select cs b)
    (hs : Region.sinkB md ops n = true) (hc : Region.chainB md ops n = true) (hn : n < ops.size) (hin : i < n) (hL : ∀ t a s, L t a s → ∀ j ∈ Region.ready md ops t, n ≤ j) :
    ∀ (f : Nat) (t : Array Bool) (a : Act) (s : σ), HeadInv md ops n t →
      (∀ j oj, ops[j]? = some oj → j ≠ i → t.getD j true = false → (∀ e ∈ oj.after, Region.binds md e = true → e.on ≠ i) → oi.apart ops oj = true) →
      i ∈ Region.ready md ops t → Region.wanted oi (yielded ops a.tmps) = true → Firm P D oi v a → Hd P ops md D n L f (t.setIfInBounds i true) (a.put oi.dst v) s → Hd P ops md D n L (f + 1) t a s := by
  have inHead : ∀ t : Array Bool, HeadInv md ops n t → i ∈ Region.ready md ops t → ∀ k ∈ Region.ready md ops t, k < n := by
    intro t inv hr k hk
    rcases Nat.lt_or_ge k n with h | h
    · exact h
    · exact absurd hk (tail_waits hs hc hn inv (n - i) i rfl hin (mem_ready.1 hr).1 k h)
  have notEmpty : ∀ t : Array Bool, i ∈ Region.ready md ops t → Region.ready md ops t ≠ [] := by
    intro t hr h0
    rw [h0] at hr
    cases hr
  intro f
  induction f with
  | zero =>
    intro t a s inv _ hr hw hy h
    refine ⟨notEmpty t hr, fun k hk => ⟨inHead t inv hr k hk, ?_⟩⟩
    by_cases hki : k = i
    · subst hki; exact ⟨oi, hi, hw, .inr ⟨v, hy, h⟩⟩
    · have h1 := hL _ _ _ h k (ready_mono hk hki)
      have h2 := inHead t inv hr k hk
      omega
  | succ f ih =>
    intro t a s inv hap hr hw hy h
    refine ⟨notEmpty t hr, fun k hk => ⟨inHead t inv hr k hk, ?_⟩⟩
    by_cases hki : k = i
    · subst hki; exact ⟨oi, hi, hw, .inr ⟨v, hy, h⟩⟩
    · obtain ⟨hkun, ok, hok, hkall⟩ := mem_ready.1 hk
      have hiun := (mem_ready.1 hr).1
      have hne : ∀ e ∈ ok.after, Region.binds md e = true → e.on ≠ i := by
        intro e he hb heq
        have h3 := hkall e he hb
        rw [heq, getD_both hiun] at h3
        cases h3
      have hapk := hap k ok hok hki hkun hne
      obtain ⟨p1, p2, p3⟩ := Oper.apart_spec hapk
      have hseli := fun cs b => hsel i oi cs b hi
      have hselk := fun cs b => hsel k ok cs b hok
      have onward : ∀ (a' : Act) (s' : σ), Region.wanted oi (yielded ops a'.tmps) = true → Firm P D oi v a' → Hd P ops md D n L f ((t.setIfInBounds i true).setIfInBounds k true) (a'.put oi.dst v) s' →
          Hd P ops md D n L (f + 1) (t.setIfInBounds k true) a' s' := by
        intro a' s' hw' hy' h'
        refine ih (t.setIfInBounds k true) a' s' (inv.set hk (inHead t inv hr k hk)) ?_ (ready_mono hr (Ne.symm hki)) hw' hy' ?_
        · intro j oj hj hji hjun hjn
          refine hap j oj hj hji ?_ hjn
          by_cases hkj : k = j
          · subst hkj; exact hkun
          · rw [getD_set_ne true hkj] at hjun; exact hjun
        · rw [Array.setIfInBounds_comm _ _ hki]; exact h'
      obtain ⟨o', ho', hw', h4⟩ := (h.2 k (ready_mono hk hki)).2
      obtain rfl : o' = ok := Option.some.inj (ho'.symm.trans hok)
      have hwk : Region.wanted o' (yielded ops a.tmps) = true := by rw [← wanted_put o' a oi.dst v p1]; exact hw'
      have after : ∀ (u : Value) (s' : σ), Hd P ops md D n L f ((t.setIfInBounds i true).setIfInBounds k true) ((a.put oi.dst v).put o'.dst u) s' → Hd P ops md D n L (f + 1) (t.setIfInBounds k true) (a.put o'.dst u) s' := by
        intro u s' h'
        refine onward _ _ ?_ (hy.of_same (execOp_put oi hseli a o'.dst u p3)) ?_
        · rw [wanted_put oi a o'.dst u p3]; exact hw
        · rw [← Act.put_comm a v u p2]; exact h'
      rcases h4 with ⟨Post, h5, h6⟩ | ⟨u, h6, h7⟩
      · exact ⟨o', hok, hwk, .inl ⟨Post, h5.of_same (execOp_put o' hselk a oi.dst v p1).symm, fun u s' hp => after u s' (h6 u s' hp)⟩⟩
      · exact ⟨o', hok, hwk, .inr ⟨u, h6.of_same (execOp_put o' hselk a oi.dst v p1).symm, after u s h7⟩⟩

/-- the writing operations, one behind another -/
def Chain (P : Program) (ops : Array Oper) (D : σ → World → Prop) (K : Act → σ → Prop) : List Nat → Act → σ → Prop
  | [], a, s => K a s
  | k :: ks, a, s => ∃ o, ops[k]? = some o ∧ Region.wanted o (yielded ops a.tmps) = true ∧ ∃ Post, Wr P D s o a Post ∧ ∀ v s', Post v s' → Chain P ops D K ks (a.put o.dst v) s'
def lineB (md : Region.Mode) (ops : Array Oper) (g n : Nat) : List Nat → Array Bool → Bool
  | [], t => Region.seqB md ops g n t
  | k :: ks, t => decide (k < n) && decide (Region.ready md ops t = [k]) && lineB md ops g n ks (t.setIfInBounds k true)
theorem Hd.line {g : Nat} {K : Act → σ → Prop} : ∀ (ks : List Nat) (t : Array Bool) (a : Act) (s : σ), lineB md ops g n ks t = true → Chain P ops D K ks a s →
    Hd P ops md D n (fun t' a' s' => Region.seqB md ops g n t' = true ∧ K a' s') ks.length t a s := by
  intro ks
  induction ks with
  | nil => intro t a s hB h; exact ⟨hB, h⟩
  | cons k ks ih =>
    intro t a s hB h
    simp only [lineB, Bool.and_eq_true, decide_eq_true_eq] at hB
    obtain ⟨⟨hkn, hrd⟩, hB'⟩ := hB
    obtain ⟨o, ho, hw, Post, h1, h2⟩ := h
    refine ⟨by rw [hrd]; simp, fun j hj => ?_⟩
    rw [hrd] at hj
    obtain rfl : j = k := by simpa using hj
    exact ⟨hkn, o, ho, hw, .inl ⟨Post, h1, fun v s' hp => ih _ _ _ hB' (h2 v s' hp)⟩⟩

/-- the quiet operations, in the order of the list -/
def Walk (P : Program) (ops : Array Oper) (D : σ → World → Prop) (K : Act → Prop) : List Nat → Act → Prop
  | [], a => K a
  | k :: ks, a => ∃ o, ops[k]? = some o ∧ Region.wanted o (yielded ops a.tmps) = true ∧ ∃ v, Firm P D o v a ∧ Walk P ops D K ks (a.put o.dst v)
def headB (md : Region.Mode) (ops : Array Oper) (g n : Nat) (cs : List Nat) : List Nat → Array Bool → Bool
  | [], t => lineB md ops g n cs t
  | k :: ks, t => decide (k < n) && (Region.ready md ops t).contains k && Region.free md ops t k && headB md ops g n cs ks (t.setIfInBounds k true)
theorem Hd.walk {g : Nat} {K : Act → σ → Prop} (cs : List Nat)
    (hsel : Region.noSelect ops = true) (hs : Region.sinkB md ops n = true) (hc : Region.chainB md ops n = true) (hn : n < ops.size) :
    ∀ (ks : List Nat) (t : Array Bool) (a : Act) (s : σ), HeadInv md ops n t → headB md ops g n cs ks t = true → Walk P ops D (fun a' => Chain P ops D K cs a' s) ks a →
      Hd P ops md D n (fun t' a' s' => Region.seqB md ops g n t' = true ∧ K a' s') (ks.length + cs.length) t a s := by
  intro ks
  induction ks with
  | nil =>
    intro t a s _ hB h
    rw [List.length_nil, Nat.zero_add]
    exact Hd.line cs t a s hB h
  | cons k ks ih =>
    intro t a s inv hB h
    simp only [headB, Bool.and_eq_true, decide_eq_true_eq] at hB
    obtain ⟨⟨⟨hkn, hr⟩, hf⟩, hB'⟩ := hB
    have hr' : k ∈ Region.ready md ops t := by simpa using hr
    obtain ⟨o, ho, hw, v, hy, hK'⟩ := h
    rw [List.length_cons, show ks.length + 1 + cs.length = (ks.length + cs.length) + 1 by omega]
    exact Hd.first ho (Region.noSelect_spec hsel) hs hc hn hkn (fun t' a' s' hL => seqB_ready hL.1) _ t a s inv (Region.free_spec ho hf) hr' hw hy (ih _ _ _ (inv.set hr' hkn) hB' hK')

/-- THE LAW: quiet operations ks and the writing ones cs among the first n, then the rest in its own order. -/
theorem wp_region_writes {id : Nat} {Q : Exit → Act → World → Prop} {a : Act} {w : World} {l : List Oper} (n : Nat) (ks cs : List Nat) (D : σ → World → Prop) (s0 : σ) (hm : P.follows .mixedOrders = true)
    (hB : (Region.noSelect l.toArray && decide (n < l.toArray.size) && decide (ks.length + cs.length = n) && Region.sinkB .any l.toArray n && Region.chainB .any l.toArray n && headB .any l.toArray (l.toArray.size - n) n cs ks (Array.replicate l.toArray.size false)) = true)
    (h0 : D s0 { w with drawn := w.drawn + 1 })
    (h : Walk P l.toArray D (fun a' => Chain P l.toArray D (fun a s => ∀ w', D s w' → wpList P l.toArray Q (l.drop n) a w') cs a' s0) ks a) : (Code.region id l.toArray true).wp P Q a w := by
  simp only [Bool.and_eq_true, decide_eq_true_eq] at hB
  obtain ⟨⟨⟨⟨⟨hsel, hn⟩, hlen⟩, hs⟩, hc⟩, hlex⟩ := hB
  have hdl : (l.drop n).length = l.toArray.size - n := by simp
  have inv0 : HeadInv .any l.toArray n (Array.replicate l.toArray.size false) :=
    ⟨by simp, fun j oj _ hl => (by rw [getD_replicate_false] at hl; cases hl), fun t _ ht => getD_in (by simpa using ht) (getD_replicate_false _ _)⟩
  have H := Hd.walk (md := .any) (g := l.toArray.size - n) cs hsel hs hc hn ks _ a s0 inv0 hlex h
  refine wp_region_any hm ?_
  have key := Hd.any (R := Q) (g := l.toArray.size - n) (L := fun t' a' s' => Region.seqB .any l.toArray (l.toArray.size - n) n t' = true ∧ ∀ w', D s' w' → wpList P l.toArray Q (l.drop n) a' w') (fun t' a' s' w' hw' hL => by
    have := wpAny_of_seq (md := .any) (Q' := Q) (l.drop n) n t' a' w' (fun j => by simp [List.getElem?_drop]) (by rw [hdl]; exact hL.1) (hL.2 w' hw')
    rwa [hdl] at this) _ _ _ s0 { w with drawn := w.drawn + 1 } h0 H
  rw [hlen, show n + (l.toArray.size - n) = l.toArray.size by omega] at key
  exact key
theorem upon_mono {C C' : World → Prop} (h : ∀ w, C w → C' w) {w : World} {v : Value} {r : Result Next} (hr : Oper.quietUpon P C w v r) : Oper.quietUpon P C' w v r := by
  cases r with
  | halt x w' => simp only [Oper.quietUpon] at hr
  | ok nx w' =>
    cases nx <;> simp only [Oper.quietUpon] at hr ⊢
    case value u => exact hr
    case skip => exact hr
    case enter f args => exact ⟨hr.1, hr.2.mono fun e w'' hh => ⟨hh.1, h _ hh.2⟩⟩
/-- one quiet operation of the walk: shown over the worlds beyond whatever world of a state -/
theorem Walk.step {K : Act → Prop} {k : Nat} {ks : List Nat} {a A : Act} {o : Oper} (hcl : ∀ s w w', D s w → Below w.heap.size w w' → D s w') (s1 : σ) (w1 : World) (hs1 : D s1 w1) (ho : ops[k]? = some o) (hw : Region.wanted o (yielded ops a.tmps) = true) (d : Tmp) (hd : o.dst = some d) (hlt : d < a.tmps.size)
    (h : ∀ s w2, D s w2 → o.quiet P a (fun w' => ∃ p : Regrown, w' = grow (redrawn w2 p.d) p.os) (fun a' => a' = A)) (hn : Walk P ops D K ks A) : Walk P ops D K (k :: ks) a := by
  have hput : ∀ v, a.put o.dst v = A → v = A.tmps.getD d undef := by
    intro v e
    rw [← e, hd]
    simp [Act.put, hlt]
  obtain ⟨v0, _, e0⟩ := h s1 w1 hs1
  have hv0 := hput v0 e0
  refine ⟨o, ho, hw, v0, fun s w hw' => ?_, by rw [e0]; exact hn⟩
  obtain ⟨v, h1, e1⟩ := h s w hw'
  have hv := hput v e1
  rw [hv0, ← hv]
  have hself : ∃ p : Regrown, w = grow (redrawn w p.d) p.os := ⟨⟨w.drawn, #[]⟩, by rw [grow_empty]; rfl⟩
  exact upon_mono (fun w' hw2 => by obtain ⟨p, rfl⟩ := hw2; exact hcl s w _ hw' (below_regrown w p.d p.os)) (h1 w hself)
/-- one writing call of the chain -/
theorem Chain.call {K : Act → σ → Prop} {k : Nat} {ks : List Nat} {a : Act} {s : σ} {o : Oper} (f : FuncId) (args : Array Value) (Post : Value → σ → Prop) (ho : ops[k]? = some o) (hw : Region.wanted o (yielded ops a.tmps) = true)
    (hr : ∀ w, (execOp a.eval o).run P w = .ok (.enter f args) w) (hc : ∀ w, D s w → Calls P f args w (fun e w' => ∃ v s', e = .returned v ∧ Post v s' ∧ D s' w'))
    (hn : ∀ v s', Post v s' → Chain P ops D K ks (a.put o.dst v) s') : Chain P ops D K (k :: ks) a s := by
  refine ⟨o, ho, hw, Post, fun w hD => ?_, hn⟩
  rw [hr w]
  exact hc w hD
end
end Go.Proofs.Ytighlefajekloaa.Qw

/- A region that draws its order, told as a script: quiet operations (each yields one value whatever has been written by then) and writing ones (each the only one that may come up at its place), in any mixture, to the region's end. No program is named here. -/
set_option linter.unusedVariables false
set_option linter.unusedSimpArgs false
namespace Go.Proofs.Ytighlefajekloaa.Qp
open Go.RowKit Go.Sort Qb Qt Qw

section
variable {P : Program} {ops : Array Oper} {md : Region.Mode} {σ : Type} {D : σ → World → Prop}

/-- what a writing operation leaves: a value and a state that go together -/
def wqUpon (P : Program) (D : σ → World → Prop) (Post : Value → σ → Prop) : Result Next → Prop
  | .ok (.value u) w' => ∃ s', Post u s' ∧ D s' w'
  | .ok .skip w' => ∃ s', Post undef s' ∧ D s' w'
  | .ok (.enter f args) w' => Calls P f args w' (fun e w'' => ∃ v s', e = .returned v ∧ Post v s' ∧ D s' w'')
  | _ => False
def Wq (P : Program) (D : σ → World → Prop) (s : σ) (o : Oper) (a : Act) (Post : Value → σ → Prop) : Prop := ∀ w, D s w → wqUpon P D Post ((execOp a.eval o).run P w)
theorem Wq.of_same {s : σ} {o : Oper} {a a' : Act} {Post : Value → σ → Prop} (h : Wq P D s o a Post) (he : execOp a'.eval o = execOp a.eval o) : Wq P D s o a' Post := by
  intro w hw; rw [he]; exact h w hw
/-- operation k, then K -/
def Sp (P : Program) (ops : Array Oper) (D : σ → World → Prop) (k : Nat) (K : Act → σ → Prop) (a : Act) (s : σ) : Prop :=
  ∃ o, ops[k]? = some o ∧ Region.wanted o (yielded ops a.tmps) = true ∧ ((∃ Post, Wq P D s o a Post ∧ ∀ v s', Post v s' → K (a.put o.dst v) s') ∨ ∃ v, Firm P D o v a ∧ K (a.put o.dst v) s)
theorem Sp.mono {k : Nat} {K K' : Act → σ → Prop} (h : ∀ a s, K a s → K' a s) {a : Act} {s : σ} (hs : Sp P ops D k K a s) : Sp P ops D k K' a s := by
  obtain ⟨o, ho, hw, h1⟩ := hs
  rcases h1 with ⟨Post, h2, h3⟩ | ⟨v, h3, h4⟩
  · exact ⟨o, ho, hw, .inl ⟨Post, h2, fun v s' hp => h _ _ (h3 v s' hp)⟩⟩
  · exact ⟨o, ho, hw, .inr ⟨v, h3, h _ _ h4⟩⟩
theorem Sp.op {k : Nat} {K : Act → σ → Prop} {K' : Act → World → Prop} {R : Exit → Act → World → Prop} {a : Act} {s : σ} {w : World} (hD : D s w) (hst : Sp P ops D k K a s)
    (h : ∀ a' s' w', D s' w' → K a' s' → K' a' w') : wpOp P ops R k K' a w := by
  obtain ⟨o, ho, hwt, h1⟩ := hst
  rcases h1 with ⟨Post, h2, h3⟩ | ⟨v, h3, h4⟩
  · unfold wpOp
    simp only [ho, hwt, if_true]
    refine .inl ?_
    unfold Oper.wp
    have hr := h2 w hD
    generalize (execOp a.eval o).run P w = r at hr
    cases r with
    | halt x w' => simp only [wqUpon] at hr
    | ok nx w' =>
      cases nx <;> simp only [wqUpon] at hr
      case value u =>
        obtain ⟨s', hp, hd⟩ := hr
        exact h _ s' _ hd (h3 u s' hp)
      case skip =>
        obtain ⟨s', hp, hd⟩ := hr
        exact h _ s' _ hd (h3 undef s' hp)
      case enter f args =>
        refine hr.mono ?_
        rintro e w'' ⟨v, s', rfl, hp, hd⟩
        exact h _ s' _ hd (h3 v s' hp)
  · refine wpOp_of_qOp (C := D s) (K := fun a' => a' = a.put o.dst v) hD (fun a' w' hw' ha' => ?_) ?_
    · subst ha'
      exact h _ s _ hw' h4
    · unfold qOp
      simp only [ho, hwt, if_true]
      exact ⟨v, fun w1 hw1 => h3 s w1 hw1, rfl⟩
/-- whatever order the operations come up in -/
def Tr (P : Program) (ops : Array Oper) (md : Region.Mode) (D : σ → World → Prop) (L : Array Bool → Act → σ → Prop) : Nat → Array Bool → Act → σ → Prop
  | 0, t, a, s => L t a s
  | f + 1, t, a, s => Region.ready md ops t ≠ [] ∧ ∀ k ∈ Region.ready md ops t, Sp P ops D k (Tr P ops md D L f (t.setIfInBounds k true)) a s
theorem Tr.any {L : Array Bool → Act → σ → Prop} {R : Exit → Act → World → Prop} (hL : ∀ t a s w, D s w → L t a s → wpAny P md ops R 0 t a w) :
    ∀ (f : Nat) (t : Array Bool) (a : Act) (s : σ) (w : World), D s w → Tr P ops md D L f t a s → wpAny P md ops R f t a w := by
  intro f
  induction f with
  | zero => intro t a s w hw h; exact hL t a s w hw h
  | succ f ih =>
    intro t a s w hw h
    exact ⟨fun h0 => absurd h0 h.1, fun k hk => (h.2 k hk).op hw fun a' s' w' hw' ha' => ih _ a' s' w' hw' ha'⟩

/-- a quiet operation that may come up, may be taken first -/
theorem Tr.first {L : Array Bool → Act → σ → Prop} {i : Nat} {oi : Oper} {v : Value} (hi : ops[i]? = some oi) (hsel : ∀ (j : Nat) (o : Oper) cs b, ops[j]? = some o → o.op ≠ .select cs b)
    (hL : ∀ t a s, L t a s → Region.ready md ops t = []) :
    ∀ (f : Nat) (t : Array Bool) (a : Act) (s : σ),
      (∀ j oj, ops[j]? = some oj → j ≠ i → t.getD j true = false → (∀ e ∈ oj.after, Region.binds md e = true → e.on ≠ i) → oi.apart ops oj = true) →
      i ∈ Region.ready md ops t → Region.wanted oi (yielded ops a.tmps) = true → Firm P D oi v a → Tr P ops md D L f (t.setIfInBounds i true) (a.put oi.dst v) s → Tr P ops md D L (f + 1) t a s := by
  have notEmpty : ∀ t : Array Bool, i ∈ Region.ready md ops t → Region.ready md ops t ≠ [] := by
    intro t hr h0
    rw [h0] at hr
    cases hr
  intro f
  induction f with
  | zero =>
    intro t a s _ hr hw hy h
    refine ⟨notEmpty t hr, fun k hk => ?_⟩
    by_cases hki : k = i
    · subst hki; exact ⟨oi, hi, hw, .inr ⟨v, hy, h⟩⟩
    · have h1 := hL _ _ _ h
      have h2 := ready_mono hk hki
      rw [h1] at h2; cases h2
  | succ f ih =>
    intro t a s hap hr hw hy h
    refine ⟨notEmpty t hr, fun k hk => ?_⟩
    by_cases hki : k = i
    · subst hki; exact ⟨oi, hi, hw, .inr ⟨v, hy, h⟩⟩
    · obtain ⟨hkun, ok, hok, hkall⟩ := mem_ready.1 hk
      have hiun := (mem_ready.1 hr).1
      have hne : ∀ e ∈ ok.after, Region.binds md e = true → e.on ≠ i := by
        intro e he hb heq
        have h3 := hkall e he hb
        rw [heq, getD_both hiun] at h3
        cases h3
      have hapk := hap k ok hok hki hkun hne
      obtain ⟨p1, p2, p3⟩ := Oper.apart_spec hapk
      have hseli := fun cs b => hsel i oi cs b hi
      have hselk := fun cs b => hsel k ok cs b hok
      have onward : ∀ (a' : Act) (s' : σ), Region.wanted oi (yielded ops a'.tmps) = true → Firm P D oi v a' → Tr P ops md D L f ((t.setIfInBounds i true).setIfInBounds k true) (a'.put oi.dst v) s' →
          Tr P ops md D L (f + 1) (t.setIfInBounds k true) a' s' := by
        intro a' s' hw' hy' h'
        refine ih (t.setIfInBounds k true) a' s' ?_ (ready_mono hr (Ne.symm hki)) hw' hy' ?_
        · intro j oj hj hji hjun hjn
          refine hap j oj hj hji ?_ hjn
          by_cases hkj : k = j
          · subst hkj; exact hkun
          · rw [getD_set_ne true hkj] at hjun; exact hjun
        · rw [Array.setIfInBounds_comm _ _ hki]; exact h'
      obtain ⟨o', ho', hw', h4⟩ := h.2 k (ready_mono hk hki)
      obtain rfl : o' = ok := Option.some.inj (ho'.symm.trans hok)
      have hwk : Region.wanted o' (yielded ops a.tmps) = true := by rw [← wanted_put o' a oi.dst v p1]; exact hw'
      have after : ∀ (u : Value) (s' : σ), Tr P ops md D L f ((t.setIfInBounds i true).setIfInBounds k true) ((a.put oi.dst v).put o'.dst u) s' → Tr P ops md D L (f + 1) (t.setIfInBounds k true) (a.put o'.dst u) s' := by
        intro u s' h'
        refine onward _ _ ?_ (hy.of_same (execOp_put oi hseli a o'.dst u p3)) ?_
        · rw [wanted_put oi a o'.dst u p3]; exact hw
        · rw [← Act.put_comm a v u p2]; exact h'
      rcases h4 with ⟨Post, h5, h6⟩ | ⟨u, h6, h7⟩
      · exact ⟨o', hok, hwk, .inl ⟨Post, h5.of_same (execOp_put o' hselk a oi.dst v p1).symm, fun u s' hp => after u s' (h6 u s' hp)⟩⟩
      · exact ⟨o', hok, hwk, .inr ⟨u, h6.of_same (execOp_put o' hselk a oi.dst v p1).symm, after u s h7⟩⟩


/-- the script: (true, k): a quiet operation; (false, k): a writing one -/
def Scr (P : Program) (ops : Array Oper) (D : σ → World → Prop) (K : Act → σ → Prop) : List (Bool × Nat) → Act → σ → Prop
  | [], a, s => K a s
  | (true, k) :: r, a, s => ∃ o, ops[k]? = some o ∧ Region.wanted o (yielded ops a.tmps) = true ∧ ∃ v, Firm P D o v a ∧ Scr P ops D K r (a.put o.dst v) s
  | (false, k) :: r, a, s => ∃ o, ops[k]? = some o ∧ Region.wanted o (yielded ops a.tmps) = true ∧ ∃ Post, Wq P D s o a Post ∧ ∀ v s', Post v s' → Scr P ops D K r (a.put o.dst v) s'
def scrB (md : Region.Mode) (ops : Array Oper) : List (Bool × Nat) → Array Bool → Bool
  | [], t => decide (Region.ready md ops t = [])
  | (true, k) :: r, t => (Region.ready md ops t).contains k && Region.free md ops t k && scrB md ops r (t.setIfInBounds k true)
  | (false, k) :: r, t => decide (Region.ready md ops t = [k]) && scrB md ops r (t.setIfInBounds k true)
theorem Tr.script {K : Act → σ → Prop} (hsel : Region.noSelect ops = true) : ∀ (r : List (Bool × Nat)) (t : Array Bool) (a : Act) (s : σ), scrB md ops r t = true → Scr P ops D K r a s →
    Tr P ops md D (fun t' a' s' => Region.ready md ops t' = [] ∧ K a' s') r.length t a s := by
  intro r
  induction r with
  | nil =>
    intro t a s hB h
    simp only [scrB, decide_eq_true_eq] at hB
    exact ⟨hB, h⟩
  | cons x r ih =>
    obtain ⟨q, k⟩ := x
    intro t a s hB h
    cases q with
    | true =>
      simp only [scrB, Bool.and_eq_true] at hB
      obtain ⟨⟨hr, hf⟩, hB'⟩ := hB
      obtain ⟨o, ho, hw, v, hy, h'⟩ := h
      exact Tr.first ho (Region.noSelect_spec hsel) (fun t' a' s' hL => hL.1) _ t a s (Region.free_spec ho hf) (by simpa using hr) hw hy (ih _ _ _ hB' h')
    | false =>
      simp only [scrB, Bool.and_eq_true, decide_eq_true_eq] at hB
      obtain ⟨hrd, hB'⟩ := hB
      obtain ⟨o, ho, hw, Post, h1, h2⟩ := h
      refine ⟨by rw [hrd]; simp, fun j hj => ?_⟩
      rw [hrd] at hj
      obtain rfl : j = k := by simpa using hj
      exact ⟨o, ho, hw, .inl ⟨Post, h1, fun v s' hp => ih _ _ _ hB' (h2 v s' hp)⟩⟩
/-- THE LAW -/
theorem wp_region_script {id : Nat} {Q : Exit → Act → World → Prop} {a : Act} {w : World} {l : List Oper} (r : List (Bool × Nat)) (D : σ → World → Prop) (s0 : σ) (hm : P.follows .mixedOrders = true)
    (hB : (Region.noSelect l.toArray && decide (r.length = l.toArray.size) && scrB .any l.toArray r (Array.replicate l.toArray.size false)) = true)
    (h0 : D s0 { w with drawn := w.drawn + 1 }) (h : Scr P l.toArray D (fun a s => ∀ w', D s w' → Q .normal a w') r a s0) : (Code.region id l.toArray true).wp P Q a w := by
  simp only [Bool.and_eq_true, decide_eq_true_eq] at hB
  obtain ⟨⟨hsel, hlen⟩, hlex⟩ := hB
  have H := Tr.script (md := .any) hsel r _ a s0 hlex h
  refine wp_region_any hm ?_
  have key := Tr.any (R := Q) (L := fun t' a' s' => Region.ready .any l.toArray t' = [] ∧ ∀ w', D s' w' → Q .normal a' w') (fun t' a' s' w' hw' hL => ⟨hL.1, hL.2 w' hw'⟩) _ _ _ s0 { w with drawn := w.drawn + 1 } h0 H
  rw [hlen] at key
  exact key
/-- one quiet operation: shown over the worlds beyond whatever world of a state -/
theorem Scr.quiet {K : Act → σ → Prop} {k : Nat} {r : List (Bool × Nat)} {a A : Act} {s0 : σ} {o : Oper} (hcl : ∀ s w w', D s w → Below w.heap.size w w' → D s w') (s1 : σ) (w1 : World) (hs1 : D s1 w1) (ho : ops[k]? = some o) (hw : Region.wanted o (yielded ops a.tmps) = true) (d : Tmp) (hd : o.dst = some d) (hlt : d < a.tmps.size)
    (h : ∀ s w2, D s w2 → o.quiet P a (fun w' => ∃ p : Regrown, w' = grow (redrawn w2 p.d) p.os) (fun a' => a' = A)) (hn : Scr P ops D K r A s0) : Scr P ops D K ((true, k) :: r) a s0 := by
  have hput : ∀ v, a.put o.dst v = A → v = A.tmps.getD d undef := by
    intro v e
    rw [← e, hd]
    simp [Act.put, hlt]
  obtain ⟨v0, _, e0⟩ := h s1 w1 hs1
  have hv0 := hput v0 e0
  refine ⟨o, ho, hw, v0, fun s w hw' => ?_, by rw [e0]; exact hn⟩
  obtain ⟨v, h1, e1⟩ := h s w hw'
  have hv := hput v e1
  rw [hv0, ← hv]
  have hself : ∃ p : Regrown, w = grow (redrawn w p.d) p.os := ⟨⟨w.drawn, #[]⟩, by rw [grow_empty]; rfl⟩
  exact upon_mono (fun w' hw2 => by obtain ⟨p, rfl⟩ := hw2; exact hcl s w _ hw' (below_regrown w p.d p.os)) (h1 w hself)
/-- one writing operation, by the law of a list -/
theorem Scr.write {K : Act → σ → Prop} {k : Nat} {r : List (Bool × Nat)} {a : Act} {s : σ} {o : Oper} (Post : Value → σ → Prop) (ho : ops[k]? = some o) (hw : Region.wanted o (yielded ops a.tmps) = true)
    (hr : ∀ w, D s w → (∃ u w' s', (execOp a.eval o).run P w = .ok (.value u) w' ∧ Post u s' ∧ D s' w') ∨ (∃ w' s', (execOp a.eval o).run P w = .ok .skip w' ∧ Post undef s' ∧ D s' w'))
    (hn : ∀ v s', Post v s' → Scr P ops D K r (a.put o.dst v) s') : Scr P ops D K ((false, k) :: r) a s := by
  refine ⟨o, ho, hw, Post, fun w hD => ?_, hn⟩
  rcases hr w hD with ⟨u, w', s', h1, h2, h3⟩ | ⟨w', s', h1, h2, h3⟩ <;> rw [h1] <;> exact ⟨s', h2, h3⟩
end
end Go.Proofs.Ytighlefajekloaa.Qp

/- Steps of a script (text Qp): a call that writes; 's = append(s, x, y)' of records. No program is named here. -/
set_option linter.unusedVariables false
set_option linter.unusedSimpArgs false
namespace Go.Proofs.Ytighlefajekloaa.Qy
open Go.RowKit Go.Sort Base Qb Qt Qw Qp Rec
section
variable {P : Program} {ops : Array Oper} {md : Region.Mode} {σ : Type} {D : σ → World → Prop}
/-- a call that writes -/
theorem _root_.Go.Proofs.Ytighlefajekloaa.Qp.Scr.call {K : Act → σ → Prop} {k : Nat} {r : List (Bool × Nat)} {a : Act} {s : σ} {o : Oper} (f : FuncId) (args : Array Value) (Post : Value → σ → Prop) (ho : ops[k]? = some o) (hw : Region.wanted o (yielded ops a.tmps) = true)
    (hr : ∀ w, (execOp a.eval o).run P w = .ok (.enter f args) w) (hc : ∀ w, D s w → Calls P f args w (fun e w' => ∃ v s', e = .returned v ∧ Post v s' ∧ D s' w'))
    (hn : ∀ v s', Post v s' → Scr P ops D K r (a.put o.dst v) s') : Scr P ops D K ((false, k) :: r) a s := by
  refine ⟨o, ho, hw, Post, fun w hD => ?_, hn⟩
  rw [hr w]
  exact hc w hD
/-- a literal row reads as records -/
theorem recs_row {α : Type} {c : Nat} {enc : α → List Value} (hlen : ∀ x, (enc x).length = c) (E gs : Nat) (w : World) (l : List α) (row : Array Value) (hr : row.toList = l.flatMap enc) (hm : l.length ≤ maxLen) (hg : w.heap[gs]? = some (.cells row E)) : Recs c enc w (.slice (some ⟨gs, 0, none⟩) l.length l.length) l where
  shape := ⟨_, _, rfl, Nat.le_refl _, hm, fun e => by simp at e⟩
  cells := fun _ => ⟨gs, 0, _, rfl, lt_of_heap hg, fun i hi k y hy => by
    have hk : k < c := by
      rcases Nat.lt_or_ge k c with h | h
      · exact h
      · rw [List.getElem?_eq_none (by rw [hlen]; exact h)] at hy; simp at hy
    rw [cell_of_row _ gs _ row E (0, 0) hg]
    have := flat_at hlen l i k hi hk
    rw [hy, ← hr] at this
    rw [Nat.zero_add]; simpa using this⟩
inductive Fp where
  | p0
  | p1 (gs : Nat)
  | p2 (v : Value)
/-- the state: J all along -/
def FD {α : Type} (c : Nat) (enc : α → List Value) (E base base2 : Nat) (J : World → Prop) (vf : Value) (l m : List α) (row : Array Value) (s : Fp) (w : World) : Prop :=
  match s with
  | .p0 => J w ∧ RecsOwn c enc E base w vf l
  | .p1 gs => J w ∧ RecsOwn c enc E base w vf l ∧ w.heap[gs]? = some (.cells row E)
  | .p2 v => J w ∧ RecsOwn c enc E base w v (l ++ m) ∧ (v.ownBlock = vf.ownBlock ∨ ∀ b, v.ownBlock = some b → base2 ≤ b)
theorem FD.j {α : Type} {c : Nat} {enc : α → List Value} {E base base2 : Nat} {J : World → Prop} {vf : Value} {l m : List α} {row : Array Value} {s : Fp} {w : World} (h : FD c enc E base base2 J vf l m row s w) : J w := by
  cases s with
  | p0 => exact h.1
  | p1 gs => exact h.1
  | p2 v => exact h.1
theorem FD.step {α : Type} {c : Nat} {enc : α → List Value} {E base base2 : Nat} {J : World → Prop} {vf : Value} {l m : List α} {row : Array Value} (hj : ∀ w w', J w → Below w.heap.size w w' → J w') {s : Fp} {w w' : World} (h : FD c enc E base base2 J vf l m row s w) (hb : Below w.heap.size w w') : FD c enc E base base2 J vf l m row s w' := by
  cases s with
  | p0 => exact ⟨hj _ _ h.1 hb, h.2.below hb (Nat.le_refl _)⟩
  | p1 gs => exact ⟨hj _ _ h.1 hb, h.2.1.below hb (Nat.le_refl _), (hb.block gs (lt_of_heap h.2.2)).trans h.2.2⟩
  | p2 v => exact ⟨hj _ _ h.1 hb, h.2.1.below hb (Nat.le_refl _), h.2.2⟩
/-- the built slice, then the append -/
theorem _root_.Go.Proofs.Ytighlefajekloaa.Qp.Scr.app {α : Type} {c : Nat} {enc : α → List Value} {E base base2 T bytes kb ka : Nat} {J : World → Prop} {vf : Value} {l m : List α} {row : Array Value} {a : Act} {ob oa : Oper} {z : Value} {K : Act → Fp → Prop} {r : List (Bool × Nat)} (hT : RecSlice P T E c enc z bytes)
    (hj : ∀ w w', J w → Below w.heap.size w w' → J w') (hg : ∀ w w', J w → RecsOwn c enc E base w vf l → w.grownBy w' vf.ownBlock → J w') (hbase : ∀ w, J w → base ≤ w.heap.size) (hbase2 : ∀ w, J w → base2 ≤ w.heap.size)
    (hrow : row.toList = m.flatMap enc) (hlen : (l.length + m.length) * bytes ≤ 140737488355328) (hlen2 : l.length + m.length ≤ 140737488355328) (n : Nat) (hn : n = m.length)
    (hob : ops[kb]? = some ob) (hwb : Region.wanted ob (yielded ops a.tmps) = true) (hrb : ∀ w, (execOp a.eval ob).run P w = .ok (.value (.slice (some ⟨w.heap.size, 0, none⟩) n n)) (w.alloc (.cells row E)))
    (hoa : ops[ka]? = some oa) (hga : oa.guard = none) (s x : Operand) (hop : oa.op = .call { callee := .builtin .append, args := #[s, x], argTypes := #[T, T] })
    (hs : ∀ gs, (a.put ob.dst (.slice (some ⟨gs, 0, none⟩) n n)).eval s = vf) (hx : ∀ gs, (a.put ob.dst (.slice (some ⟨gs, 0, none⟩) n n)).eval x = .slice (some ⟨gs, 0, none⟩) n n)
    (hK : ∀ gs v, Scr P ops (FD c enc E base base2 J vf l m row) K r ((a.put ob.dst (.slice (some ⟨gs, 0, none⟩) n n)).put oa.dst v) (.p2 v)) : Scr P ops (FD c enc E base base2 J vf l m row) K ((false, kb) :: (false, ka) :: r) a .p0 := by
  subst hn
  refine Scr.write (fun u s => ∃ gs, u = .slice (some ⟨gs, 0, none⟩) m.length m.length ∧ s = .p1 gs) hob hwb (fun w hD => .inl ?_) ?_
  · obtain ⟨h1, h2⟩ := hD
    exact ⟨_, _, .p1 w.heap.size, hrb w, ⟨_, rfl, rfl⟩, hj _ _ h1 (ext_alloc w _), h2.below (ext_alloc w _) (Nat.le_refl _), heap_alloc_new _ _⟩
  · rintro u s' ⟨gs, rfl, rfl⟩
    refine Scr.write (fun v s => s = .p2 v) hoa (by simp [Region.wanted, hga]) (fun w hD => .inl ?_) (fun v s' e => by subst e; exact hK gs v)
    obtain ⟨h1, h2, h3⟩ := hD
    obtain ⟨i, hi, hz, hs1, hs2⟩ := hT.info
    have hone : ∀ y ∈ m.flatMap enc, y.oneCell' = true := by intro y hy; simp only [List.mem_flatMap] at hy; obtain ⟨n, _, hn⟩ := hy; exact hT.one n y hn
    have hml : (m.flatMap enc).length = m.length * c := flat_len hT.len m
    have hnews : ∀ j (y : Value), (m.flatMap enc)[j]? = some y → w.cell? ((⟨gs, 0, none⟩ : Addr).add j) = some y := by
      intro j y hj
      rw [add_flat, cell_of_row w gs _ row _ _ h3, ← hj, ← hrow, Nat.zero_add]; simp
    obtain ⟨v', w', hrun, r1, r2, _, r3⟩ := run_append_own_at (P := P) (w := w) base T oa.type E i z c bytes hT.und hi hz hs1 hs2 hT.zone hT.pos vf l.length (l.flatMap enc) h2.row ⟨gs, 0, none⟩ m.length m.length (m.flatMap enc) hml hnews hone (by unfold maxLen; omega) hlen (hbase w h1)
    refine ⟨v', w', .p2 v', ?_, rfl, hg _ _ h1 h2 r2, ⟨?_⟩, ?_⟩
    · simp [execOp, hop, resolve, invoke, builtin, hs gs, hx gs, hrun, Result.andThen]
    · rw [List.length_append, List.flatMap_append]; exact r1
    · rcases r3 with e | e
      · exact .inl e
      · refine .inr fun b hb => ?_
        rw [e] at hb; simp only [Option.some.injEq] at hb
        have := hbase2 w h1; omega
end
end Go.Proofs.Ytighlefajekloaa.Qy
