/- A region that draws its order, told as a script: quiet operations (each yields one value whatever has been written by then) and writing ones (each the only one that may come up at its place), in any mixture, to the region's end. No program is named here. -/
import Derived.Test.YtcchekkedgajpaaQw
set_option linter.unusedVariables false
set_option linter.unusedSimpArgs false
namespace Go.Proofs.Ytcchekkedgajpaa.Qp
open Go.RowKit Go.Sort Qb Qt Qw

section
variable {P : Program} {ops : Array Oper} {md : Region.Mode} {σ : Type} {D : σ → World → Prop}

/-- what a writing operation leaves: a value and a state that go together -/
def wqUpon (P : Program) (D : σ → World → Prop) (Post : Value → σ → Prop) : Result Next → Prop
  | .ok (.value u) w' => ∃ s', Post u s' ∧ D s' w'
  | .ok .skip w' => ∃ s', Post undef s' ∧ D s' w'
  | .ok (.enter f args) w' => Calls P f args w' (fun e w'' => ∃ v s', e = .returned v ∧ Post v s' ∧ D s' w'')
  | _ => False
def Wq (P : Program) (D : σ → World → Prop) (s : σ) (o : Oper) (a : Act) (Post : Value → σ → Prop) : Prop := ∀ w, D s w → wqUpon P D Post ((execOp a.eval o).run P w)
theorem Wq.of_same {s : σ} {o : Oper} {a a' : Act} {Post : Value → σ → Prop} (h : Wq P D s o a Post) (he : execOp a'.eval o = execOp a.eval o) : Wq P D s o a' Post := by
  intro w hw; rw [he]; exact h w hw
/-- operation k, then K -/
def Sp (P : Program) (ops : Array Oper) (D : σ → World → Prop) (k : Nat) (K : Act → σ → Prop) (a : Act) (s : σ) : Prop :=
  ∃ o, ops[k]? = some o ∧ Region.wanted o (yielded ops a.tmps) = true ∧ ((∃ Post, Wq P D s o a Post ∧ ∀ v s', Post v s' → K (a.put o.dst v) s') ∨ ∃ v, Firm P D o v a ∧ K (a.put o.dst v) s)
theorem Sp.mono {k : Nat} {K K' : Act → σ → Prop} (h : ∀ a s, K a s → K' a s) {a : Act} {s : σ} (hs : Sp P ops D k K a s) : Sp P ops D k K' a s := by
  obtain ⟨o, ho, hw, h1⟩ := hs
  rcases h1 with ⟨Post, h2, h3⟩ | ⟨v, h3, h4⟩
  · exact ⟨o, ho, hw, .inl ⟨Post, h2, fun v s' hp => h _ _ (h3 v s' hp)⟩⟩
  · exact ⟨o, ho, hw, .inr ⟨v, h3, h _ _ h4⟩⟩
theorem Sp.op {k : Nat} {K : Act → σ → Prop} {K' : Act → World → Prop} {R : Exit → Act → World → Prop} {a : Act} {s : σ} {w : World} (hD : D s w) (hst : Sp P ops D k K a s)
    (h : ∀ a' s' w', D s' w' → K a' s' → K' a' w') : wpOp P ops R k K' a w := by
  obtain ⟨o, ho, hwt, h1⟩ := hst
  rcases h1 with ⟨Post, h2, h3⟩ | ⟨v, h3, h4⟩
  · unfold wpOp
    simp only [ho, hwt, if_true]
    refine .inl ?_
    unfold Oper.wp
    have hr := h2 w hD
    generalize (execOp a.eval o).run P w = r at hr
    cases r with
    | halt x w' => simp only [wqUpon] at hr
    | ok nx w' =>
      cases nx <;> simp only [wqUpon] at hr
      case value u =>
        obtain ⟨s', hp, hd⟩ := hr
        exact h _ s' _ hd (h3 u s' hp)
      case skip =>
        obtain ⟨s', hp, hd⟩ := hr
        exact h _ s' _ hd (h3 undef s' hp)
      case enter f args =>
        refine hr.mono ?_
        rintro e w'' ⟨v, s', rfl, hp, hd⟩
        exact h _ s' _ hd (h3 v s' hp)
  · refine wpOp_of_qOp (C := D s) (K := fun a' => a' = a.put o.dst v) hD (fun a' w' hw' ha' => ?_) ?_
    · subst ha'
      exact h _ s _ hw' h4
    · unfold qOp
      simp only [ho, hwt, if_true]
      exact ⟨v, fun w1 hw1 => h3 s w1 hw1, rfl⟩
/-- whatever order the operations come up in -/
def Tr (P : Program) (ops : Array Oper) (md : Region.Mode) (D : σ → World → Prop) (L : Array Bool → Act → σ → Prop) : Nat → Array Bool → Act → σ → Prop
  | 0, t, a, s => L t a s
  | f + 1, t, a, s => Region.ready md ops t ≠ [] ∧ ∀ k ∈ Region.ready md ops t, Sp P ops D k (Tr P ops md D L f (t.setIfInBounds k true)) a s
theorem Tr.any {L : Array Bool → Act → σ → Prop} {R : Exit → Act → World → Prop} (hL : ∀ t a s w, D s w → L t a s → wpAny P md ops R 0 t a w) :
    ∀ (f : Nat) (t : Array Bool) (a : Act) (s : σ) (w : World), D s w → Tr P ops md D L f t a s → wpAny P md ops R f t a w := by
  intro f
  induction f with
  | zero => intro t a s w hw h; exact hL t a s w hw h
  | succ f ih =>
    intro t a s w hw h
    exact ⟨fun h0 => absurd h0 h.1, fun k hk => (h.2 k hk).op hw fun a' s' w' hw' ha' => ih _ a' s' w' hw' ha'⟩

/-- a quiet operation that may come up, may be taken first -/
theorem Tr.first {L : Array Bool → Act → σ → Prop} {i : Nat} {oi : Oper} {v : Value} (hi : ops[i]? = some oi) (hsel : ∀ (j : Nat) (o : Oper) cs b, ops[j]? = some o → o.op ≠ .select cs b)
    (hL : ∀ t a s, L t a s → Region.ready md ops t = []) :
    ∀ (f : Nat) (t : Array Bool) (a : Act) (s : σ),
      (∀ j oj, ops[j]? = some oj → j ≠ i → t.getD j true = false → (∀ e ∈ oj.after, Region.binds md e = true → e.on ≠ i) → oi.apart ops oj = true) →
      i ∈ Region.ready md ops t → Region.wanted oi (yielded ops a.tmps) = true → Firm P D oi v a → Tr P ops md D L f (t.setIfInBounds i true) (a.put oi.dst v) s → Tr P ops md D L (f + 1) t a s := by
  have notEmpty : ∀ t : Array Bool, i ∈ Region.ready md ops t → Region.ready md ops t ≠ [] := by
    intro t hr h0
    rw [h0] at hr
    cases hr
  intro f
  induction f with
  | zero =>
    intro t a s _ hr hw hy h
    refine ⟨notEmpty t hr, fun k hk => ?_⟩
    by_cases hki : k = i
    · subst hki; exact ⟨oi, hi, hw, .inr ⟨v, hy, h⟩⟩
    · have h1 := hL _ _ _ h
      have h2 := ready_mono hk hki
      rw [h1] at h2; cases h2
  | succ f ih =>
    intro t a s hap hr hw hy h
    refine ⟨notEmpty t hr, fun k hk => ?_⟩
    by_cases hki : k = i
    · subst hki; exact ⟨oi, hi, hw, .inr ⟨v, hy, h⟩⟩
    · obtain ⟨hkun, ok, hok, hkall⟩ := mem_ready.1 hk
      have hiun := (mem_ready.1 hr).1
      have hne : ∀ e ∈ ok.after, Region.binds md e = true → e.on ≠ i := by
        intro e he hb heq
        have h3 := hkall e he hb
        rw [heq, getD_both hiun] at h3
        cases h3
      have hapk := hap k ok hok hki hkun hne
      obtain ⟨p1, p2, p3⟩ := Oper.apart_spec hapk
      have hseli := fun cs b => hsel i oi cs b hi
      have hselk := fun cs b => hsel k ok cs b hok
      have onward : ∀ (a' : Act) (s' : σ), Region.wanted oi (yielded ops a'.tmps) = true → Firm P D oi v a' → Tr P ops md D L f ((t.setIfInBounds i true).setIfInBounds k true) (a'.put oi.dst v) s' →
          Tr P ops md D L (f + 1) (t.setIfInBounds k true) a' s' := by
        intro a' s' hw' hy' h'
        refine ih (t.setIfInBounds k true) a' s' ?_ (ready_mono hr (Ne.symm hki)) hw' hy' ?_
        · intro j oj hj hji hjun hjn
          refine hap j oj hj hji ?_ hjn
          by_cases hkj : k = j
          · subst hkj; exact hkun
          · rw [getD_set_ne true hkj] at hjun; exact hjun
        · rw [Array.setIfInBounds_comm _ _ hki]; exact h'
      obtain ⟨o', ho', hw', h4⟩ := h.2 k (ready_mono hk hki)
      obtain rfl : o' = ok := Option.some.inj (ho'.symm.trans hok)
      have hwk : Region.wanted o' (yielded ops a.tmps) = true := by rw [← wanted_put o' a oi.dst v p1]; exact hw'
      have after : ∀ (u : Value) (s' : σ), Tr P ops md D L f ((t.setIfInBounds i true).setIfInBounds k true) ((a.put oi.dst v).put o'.dst u) s' → Tr P ops md D L (f + 1) (t.setIfInBounds k true) (a.put o'.dst u) s' := by
        intro u s' h'
        refine onward _ _ ?_ (hy.of_same (execOp_put oi hseli a o'.dst u p3)) ?_
        · rw [wanted_put oi a o'.dst u p3]; exact hw
        · rw [← Act.put_comm a v u p2]; exact h'
      rcases h4 with ⟨Post, h5, h6⟩ | ⟨u, h6, h7⟩
      · exact ⟨o', hok, hwk, .inl ⟨Post, h5.of_same (execOp_put o' hselk a oi.dst v p1).symm, fun u s' hp => after u s' (h6 u s' hp)⟩⟩
      · exact ⟨o', hok, hwk, .inr ⟨u, h6.of_same (execOp_put o' hselk a oi.dst v p1).symm, after u s h7⟩⟩


/-- the script: (true, k): a quiet operation; (false, k): a writing one -/
def Scr (P : Program) (ops : Array Oper) (D : σ → World → Prop) (K : Act → σ → Prop) : List (Bool × Nat) → Act → σ → Prop
  | [], a, s => K a s
  | (true, k) :: r, a, s => ∃ o, ops[k]? = some o ∧ Region.wanted o (yielded ops a.tmps) = true ∧ ∃ v, Firm P D o v a ∧ Scr P ops D K r (a.put o.dst v) s
  | (false, k) :: r, a, s => ∃ o, ops[k]? = some o ∧ Region.wanted o (yielded ops a.tmps) = true ∧ ∃ Post, Wq P D s o a Post ∧ ∀ v s', Post v s' → Scr P ops D K r (a.put o.dst v) s'
def scrB (md : Region.Mode) (ops : Array Oper) : List (Bool × Nat) → Array Bool → Bool
  | [], t => decide (Region.ready md ops t = [])
  | (true, k) :: r, t => (Region.ready md ops t).contains k && Region.free md ops t k && scrB md ops r (t.setIfInBounds k true)
  | (false, k) :: r, t => decide (Region.ready md ops t = [k]) && scrB md ops r (t.setIfInBounds k true)
theorem Tr.script {K : Act → σ → Prop} (hsel : Region.noSelect ops = true) : ∀ (r : List (Bool × Nat)) (t : Array Bool) (a : Act) (s : σ), scrB md ops r t = true → Scr P ops D K r a s →
    Tr P ops md D (fun t' a' s' => Region.ready md ops t' = [] ∧ K a' s') r.length t a s := by
  intro r
  induction r with
  | nil =>
    intro t a s hB h
    simp only [scrB, decide_eq_true_eq] at hB
    exact ⟨hB, h⟩
  | cons x r ih =>
    obtain ⟨q, k⟩ := x
    intro t a s hB h
    cases q with
    | true =>
      simp only [scrB, Bool.and_eq_true] at hB
      obtain ⟨⟨hr, hf⟩, hB'⟩ := hB
      obtain ⟨o, ho, hw, v, hy, h'⟩ := h
      exact Tr.first ho (Region.noSelect_spec hsel) (fun t' a' s' hL => hL.1) _ t a s (Region.free_spec ho hf) (by simpa using hr) hw hy (ih _ _ _ hB' h')
    | false =>
      simp only [scrB, Bool.and_eq_true, decide_eq_true_eq] at hB
      obtain ⟨hrd, hB'⟩ := hB
      obtain ⟨o, ho, hw, Post, h1, h2⟩ := h
      refine ⟨by rw [hrd]; simp, fun j hj => ?_⟩
      rw [hrd] at hj
      obtain rfl : j = k := by simpa using hj
      exact ⟨o, ho, hw, .inl ⟨Post, h1, fun v s' hp => ih _ _ _ hB' (h2 v s' hp)⟩⟩
/-- THE LAW -/
theorem wp_region_script {id : Nat} {Q : Exit → Act → World → Prop} {a : Act} {w : World} {l : List Oper} (r : List (Bool × Nat)) (D : σ → World → Prop) (s0 : σ) (hm : P.follows .mixedOrders = true)
    (hB : (Region.noSelect l.toArray && decide (r.length = l.toArray.size) && scrB .any l.toArray r (Array.replicate l.toArray.size false)) = true)
    (h0 : D s0 { w with drawn := w.drawn + 1 }) (h : Scr P l.toArray D (fun a s => ∀ w', D s w' → Q .normal a w') r a s0) : (Code.region id l.toArray true).wp P Q a w := by
  simp only [Bool.and_eq_true, decide_eq_true_eq] at hB
  obtain ⟨⟨hsel, hlen⟩, hlex⟩ := hB
  have H := Tr.script (md := .any) hsel r _ a s0 hlex h
  refine wp_region_any hm ?_
  have key := Tr.any (R := Q) (L := fun t' a' s' => Region.ready .any l.toArray t' = [] ∧ ∀ w', D s' w' → Q .normal a' w') (fun t' a' s' w' hw' hL => ⟨hL.1, hL.2 w' hw'⟩) _ _ _ s0 { w with drawn := w.drawn + 1 } h0 H
  rw [hlen] at key
  exact key
/-- one quiet operation: shown over the worlds beyond whatever world of a state -/
theorem Scr.quiet {K : Act → σ → Prop} {k : Nat} {r : List (Bool × Nat)} {a A : Act} {s0 : σ} {o : Oper} (hcl : ∀ s w w', D s w → Below w.heap.size w w' → D s w') (s1 : σ) (w1 : World) (hs1 : D s1 w1) (ho : ops[k]? = some o) (hw : Region.wanted o (yielded ops a.tmps) = true) (d : Tmp) (hd : o.dst = some d) (hlt : d < a.tmps.size)
    (h : ∀ s w2, D s w2 → o.quiet P a (fun w' => ∃ p : Regrown, w' = grow (redrawn w2 p.d) p.os) (fun a' => a' = A)) (hn : Scr P ops D K r A s0) : Scr P ops D K ((true, k) :: r) a s0 := by
  have hput : ∀ v, a.put o.dst v = A → v = A.tmps.getD d undef := by
    intro v e
    rw [← e, hd]
    simp [Act.put, hlt]
  obtain ⟨v0, _, e0⟩ := h s1 w1 hs1
  have hv0 := hput v0 e0
  refine ⟨o, ho, hw, v0, fun s w hw' => ?_, by rw [e0]; exact hn⟩
  obtain ⟨v, h1, e1⟩ := h s w hw'
  have hv := hput v e1
  rw [hv0, ← hv]
  have hself : ∃ p : Regrown, w = grow (redrawn w p.d) p.os := ⟨⟨w.drawn, #[]⟩, by rw [grow_empty]; rfl⟩
  exact upon_mono (fun w' hw2 => by obtain ⟨p, rfl⟩ := hw2; exact hcl s w _ hw' (below_regrown w p.d p.os)) (h1 w hself)
/-- one writing operation, by the law of a list -/
theorem Scr.write {K : Act → σ → Prop} {k : Nat} {r : List (Bool × Nat)} {a : Act} {s : σ} {o : Oper} (Post : Value → σ → Prop) (ho : ops[k]? = some o) (hw : Region.wanted o (yielded ops a.tmps) = true)
    (hr : ∀ w, D s w → (∃ u w' s', (execOp a.eval o).run P w = .ok (.value u) w' ∧ Post u s' ∧ D s' w') ∨ (∃ w' s', (execOp a.eval o).run P w = .ok .skip w' ∧ Post undef s' ∧ D s' w'))
    (hn : ∀ v s', Post v s' → Scr P ops D K r (a.put o.dst v) s') : Scr P ops D K ((false, k) :: r) a s := by
  refine ⟨o, ho, hw, Post, fun w hD => ?_, hn⟩
  rcases hr w hD with ⟨u, w', s', h1, h2, h3⟩ | ⟨w', s', h1, h2, h3⟩ <;> rw [h1] <;> exact ⟨s', h2, h3⟩
end
end Go.Proofs.Ytcchekkedgajpaa.Qp
