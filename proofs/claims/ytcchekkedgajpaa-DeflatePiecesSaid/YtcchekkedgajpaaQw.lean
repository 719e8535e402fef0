/- A region that draws its order, with calls that write among its operations, each waiting for the one before it ('put(put(put(out, a), b), c)'): the others are quiet (each yields one value whatever has been written by then). No program is named here. -/
import Derived.Test.YtcchekkedgajpaaQt
set_option linter.unusedVariables false
set_option linter.unusedSimpArgs false
namespace Go.Proofs.Ytcchekkedgajpaa.Qw
open Go.RowKit Go.Sort Qb Qt

section
variable {P : Program} {ops : Array Oper} {md : Region.Mode} {n : Nat} {σ : Type} {D : σ → World → Prop}

/-- what a writing operation leaves: a value and a state that go together -/
def wrUpon (P : Program) (D : σ → World → Prop) (Post : Value → σ → Prop) : Result Next → Prop
  | .ok (.value u) w' => ∃ s', Post u s' ∧ D s' w'
  | .ok (.enter f args) w' => Calls P f args w' (fun e w'' => ∃ v s', e = .returned v ∧ Post v s' ∧ D s' w'')
  | _ => False
def Wr (P : Program) (D : σ → World → Prop) (s : σ) (o : Oper) (a : Act) (Post : Value → σ → Prop) : Prop := ∀ w, D s w → wrUpon P D Post ((execOp a.eval o).run P w)
theorem Wr.of_same {s : σ} {o : Oper} {a a' : Act} {Post : Value → σ → Prop} (h : Wr P D s o a Post) (he : execOp a'.eval o = execOp a.eval o) : Wr P D s o a' Post := by
  intro w hw; rw [he]; exact h w hw
/-- one value in every world of every state, and the state stays -/
def Firm (P : Program) (D : σ → World → Prop) (o : Oper) (v : Value) (a : Act) : Prop := ∀ s w, D s w → o.quietAt P a (D s) w v
theorem Firm.of_same {o : Oper} {v : Value} {a a' : Act} (h : Firm P D o v a) (he : execOp a'.eval o = execOp a.eval o) : Firm P D o v a' := by
  intro s w hw
  have := h s w hw
  unfold Oper.quietAt at *
  rw [he]; exact this

/-- operation k, then K -/
def St (P : Program) (ops : Array Oper) (D : σ → World → Prop) (k : Nat) (K : Act → σ → Prop) (a : Act) (s : σ) : Prop :=
  ∃ o, ops[k]? = some o ∧ Region.wanted o (yielded ops a.tmps) = true ∧ ((∃ Post, Wr P D s o a Post ∧ ∀ v s', Post v s' → K (a.put o.dst v) s') ∨ ∃ v, Firm P D o v a ∧ K (a.put o.dst v) s)
theorem St.mono {k : Nat} {K K' : Act → σ → Prop} (h : ∀ a s, K a s → K' a s) {a : Act} {s : σ} (hs : St P ops D k K a s) : St P ops D k K' a s := by
  obtain ⟨o, ho, hw, h1⟩ := hs
  rcases h1 with ⟨Post, h2, h3⟩ | ⟨v, h3, h4⟩
  · exact ⟨o, ho, hw, .inl ⟨Post, h2, fun v s' hp => h _ _ (h3 v s' hp)⟩⟩
  · exact ⟨o, ho, hw, .inr ⟨v, h3, h _ _ h4⟩⟩
/-- whatever order the first n come up in -/
def Hd (P : Program) (ops : Array Oper) (md : Region.Mode) (D : σ → World → Prop) (n : Nat) (L : Array Bool → Act → σ → Prop) : Nat → Array Bool → Act → σ → Prop
  | 0, t, a, s => L t a s
  | f + 1, t, a, s => Region.ready md ops t ≠ [] ∧ ∀ k ∈ Region.ready md ops t, k < n ∧ St P ops D k (Hd P ops md D n L f (t.setIfInBounds k true)) a s

theorem St.op {k : Nat} {K : Act → σ → Prop} {K' : Act → World → Prop} {R : Exit → Act → World → Prop} {a : Act} {s : σ} {w : World} (hD : D s w) (hst : St P ops D k K a s)
    (h : ∀ a' s' w', D s' w' → K a' s' → K' a' w') : wpOp P ops R k K' a w := by
  obtain ⟨o, ho, hwt, h1⟩ := hst
  rcases h1 with ⟨Post, h2, h3⟩ | ⟨v, h3, h4⟩
  · unfold wpOp
    simp only [ho, hwt, if_true]
    refine .inl ?_
    unfold Oper.wp
    have hr := h2 w hD
    generalize (execOp a.eval o).run P w = r at hr
    cases r with
    | halt x w' => simp only [wrUpon] at hr
    | ok nx w' =>
      cases nx <;> simp only [wrUpon] at hr
      case value u =>
        obtain ⟨s', hp, hd⟩ := hr
        exact h _ s' _ hd (h3 u s' hp)
      case enter f args =>
        refine hr.mono ?_
        rintro e w'' ⟨v, s', rfl, hp, hd⟩
        exact h _ s' _ hd (h3 v s' hp)
  · refine wpOp_of_qOp (C := D s) (K := fun a' => a' = a.put o.dst v) hD (fun a' w' hw' ha' => ?_) ?_
    · subst ha'
      exact h _ s _ hw' h4
    · unfold qOp
      simp only [ho, hwt, if_true]
      exact ⟨v, fun w1 hw1 => h3 s w1 hw1, rfl⟩
theorem Hd.any {g : Nat} {L : Array Bool → Act → σ → Prop} {R : Exit → Act → World → Prop} (hL : ∀ t a s w, D s w → L t a s → wpAny P md ops R g t a w) :
    ∀ (f : Nat) (t : Array Bool) (a : Act) (s : σ) (w : World), D s w → Hd P ops md D n L f t a s → wpAny P md ops R (f + g) t a w := by
  intro f
  induction f with
  | zero => intro t a s w hw h; rw [Nat.zero_add]; exact hL t a s w hw h
  | succ f ih =>
    intro t a s w hw h
    rw [show f + 1 + g = (f + g) + 1 by omega]
    exact ⟨fun h0 => absurd h0 h.1, fun k hk => (h.2 k hk).2.op hw fun a' s' w' hw' ha' => ih _ a' s' w' hw' ha'⟩

/-- a quiet operation that may come up, may be taken first -/
theorem Hd.first {L : Array Bool → Act → σ → Prop} {i : Nat} {oi : Oper} {v : Value} (hi : ops[i]? = some oi) (hsel : ∀ (j : Nat) (o : Oper) cs b, ops[j]? = some o → o.op ≠ .select cs b)
    (hs : Region.sinkB md ops n = true) (hc : Region.chainB md ops n = true) (hn : n < ops.size) (hin : i < n) (hL : ∀ t a s, L t a s → ∀ j ∈ Region.ready md ops t, n ≤ j) :
    ∀ (f : Nat) (t : Array Bool) (a : Act) (s : σ), HeadInv md ops n t →
      (∀ j oj, ops[j]? = some oj → j ≠ i → t.getD j true = false → (∀ e ∈ oj.after, Region.binds md e = true → e.on ≠ i) → oi.apart ops oj = true) →
      i ∈ Region.ready md ops t → Region.wanted oi (yielded ops a.tmps) = true → Firm P D oi v a → Hd P ops md D n L f (t.setIfInBounds i true) (a.put oi.dst v) s → Hd P ops md D n L (f + 1) t a s := by
  have inHead : ∀ t : Array Bool, HeadInv md ops n t → i ∈ Region.ready md ops t → ∀ k ∈ Region.ready md ops t, k < n := by
    intro t inv hr k hk
    rcases Nat.lt_or_ge k n with h | h
    · exact h
    · exact absurd hk (tail_waits hs hc hn inv (n - i) i rfl hin (mem_ready.1 hr).1 k h)
  have notEmpty : ∀ t : Array Bool, i ∈ Region.ready md ops t → Region.ready md ops t ≠ [] := by
    intro t hr h0
    rw [h0] at hr
    cases hr
  intro f
  induction f with
  | zero =>
    intro t a s inv _ hr hw hy h
    refine ⟨notEmpty t hr, fun k hk => ⟨inHead t inv hr k hk, ?_⟩⟩
    by_cases hki : k = i
    · subst hki; exact ⟨oi, hi, hw, .inr ⟨v, hy, h⟩⟩
    · have h1 := hL _ _ _ h k (ready_mono hk hki)
      have h2 := inHead t inv hr k hk
      omega
  | succ f ih =>
    intro t a s inv hap hr hw hy h
    refine ⟨notEmpty t hr, fun k hk => ⟨inHead t inv hr k hk, ?_⟩⟩
    by_cases hki : k = i
    · subst hki; exact ⟨oi, hi, hw, .inr ⟨v, hy, h⟩⟩
    · obtain ⟨hkun, ok, hok, hkall⟩ := mem_ready.1 hk
      have hiun := (mem_ready.1 hr).1
      have hne : ∀ e ∈ ok.after, Region.binds md e = true → e.on ≠ i := by
        intro e he hb heq
        have h3 := hkall e he hb
        rw [heq, getD_both hiun] at h3
        cases h3
      have hapk := hap k ok hok hki hkun hne
      obtain ⟨p1, p2, p3⟩ := Oper.apart_spec hapk
      have hseli := fun cs b => hsel i oi cs b hi
      have hselk := fun cs b => hsel k ok cs b hok
      have onward : ∀ (a' : Act) (s' : σ), Region.wanted oi (yielded ops a'.tmps) = true → Firm P D oi v a' → Hd P ops md D n L f ((t.setIfInBounds i true).setIfInBounds k true) (a'.put oi.dst v) s' →
          Hd P ops md D n L (f + 1) (t.setIfInBounds k true) a' s' := by
        intro a' s' hw' hy' h'
        refine ih (t.setIfInBounds k true) a' s' (inv.set hk (inHead t inv hr k hk)) ?_ (ready_mono hr (Ne.symm hki)) hw' hy' ?_
        · intro j oj hj hji hjun hjn
          refine hap j oj hj hji ?_ hjn
          by_cases hkj : k = j
          · subst hkj; exact hkun
          · rw [getD_set_ne true hkj] at hjun; exact hjun
        · rw [Array.setIfInBounds_comm _ _ hki]; exact h'
      obtain ⟨o', ho', hw', h4⟩ := (h.2 k (ready_mono hk hki)).2
      obtain rfl : o' = ok := Option.some.inj (ho'.symm.trans hok)
      have hwk : Region.wanted o' (yielded ops a.tmps) = true := by rw [← wanted_put o' a oi.dst v p1]; exact hw'
      have after : ∀ (u : Value) (s' : σ), Hd P ops md D n L f ((t.setIfInBounds i true).setIfInBounds k true) ((a.put oi.dst v).put o'.dst u) s' → Hd P ops md D n L (f + 1) (t.setIfInBounds k true) (a.put o'.dst u) s' := by
        intro u s' h'
        refine onward _ _ ?_ (hy.of_same (execOp_put oi hseli a o'.dst u p3)) ?_
        · rw [wanted_put oi a o'.dst u p3]; exact hw
        · rw [← Act.put_comm a v u p2]; exact h'
      rcases h4 with ⟨Post, h5, h6⟩ | ⟨u, h6, h7⟩
      · exact ⟨o', hok, hwk, .inl ⟨Post, h5.of_same (execOp_put o' hselk a oi.dst v p1).symm, fun u s' hp => after u s' (h6 u s' hp)⟩⟩
      · exact ⟨o', hok, hwk, .inr ⟨u, h6.of_same (execOp_put o' hselk a oi.dst v p1).symm, after u s h7⟩⟩

/-- the writing operations, one behind another -/
def Chain (P : Program) (ops : Array Oper) (D : σ → World → Prop) (K : Act → σ → Prop) : List Nat → Act → σ → Prop
  | [], a, s => K a s
  | k :: ks, a, s => ∃ o, ops[k]? = some o ∧ Region.wanted o (yielded ops a.tmps) = true ∧ ∃ Post, Wr P D s o a Post ∧ ∀ v s', Post v s' → Chain P ops D K ks (a.put o.dst v) s'
def lineB (md : Region.Mode) (ops : Array Oper) (g n : Nat) : List Nat → Array Bool → Bool
  | [], t => Region.seqB md ops g n t
  | k :: ks, t => decide (k < n) && decide (Region.ready md ops t = [k]) && lineB md ops g n ks (t.setIfInBounds k true)
theorem Hd.line {g : Nat} {K : Act → σ → Prop} : ∀ (ks : List Nat) (t : Array Bool) (a : Act) (s : σ), lineB md ops g n ks t = true → Chain P ops D K ks a s →
    Hd P ops md D n (fun t' a' s' => Region.seqB md ops g n t' = true ∧ K a' s') ks.length t a s := by
  intro ks
  induction ks with
  | nil => intro t a s hB h; exact ⟨hB, h⟩
  | cons k ks ih =>
    intro t a s hB h
    simp only [lineB, Bool.and_eq_true, decide_eq_true_eq] at hB
    obtain ⟨⟨hkn, hrd⟩, hB'⟩ := hB
    obtain ⟨o, ho, hw, Post, h1, h2⟩ := h
    refine ⟨by rw [hrd]; simp, fun j hj => ?_⟩
    rw [hrd] at hj
    obtain rfl : j = k := by simpa using hj
    exact ⟨hkn, o, ho, hw, .inl ⟨Post, h1, fun v s' hp => ih _ _ _ hB' (h2 v s' hp)⟩⟩

/-- the quiet operations, in the order of the list -/
def Walk (P : Program) (ops : Array Oper) (D : σ → World → Prop) (K : Act → Prop) : List Nat → Act → Prop
  | [], a => K a
  | k :: ks, a => ∃ o, ops[k]? = some o ∧ Region.wanted o (yielded ops a.tmps) = true ∧ ∃ v, Firm P D o v a ∧ Walk P ops D K ks (a.put o.dst v)
def headB (md : Region.Mode) (ops : Array Oper) (g n : Nat) (cs : List Nat) : List Nat → Array Bool → Bool
  | [], t => lineB md ops g n cs t
  | k :: ks, t => decide (k < n) && (Region.ready md ops t).contains k && Region.free md ops t k && headB md ops g n cs ks (t.setIfInBounds k true)
theorem Hd.walk {g : Nat} {K : Act → σ → Prop} (cs : List Nat)
    (hsel : Region.noSelect ops = true) (hs : Region.sinkB md ops n = true) (hc : Region.chainB md ops n = true) (hn : n < ops.size) :
    ∀ (ks : List Nat) (t : Array Bool) (a : Act) (s : σ), HeadInv md ops n t → headB md ops g n cs ks t = true → Walk P ops D (fun a' => Chain P ops D K cs a' s) ks a →
      Hd P ops md D n (fun t' a' s' => Region.seqB md ops g n t' = true ∧ K a' s') (ks.length + cs.length) t a s := by
  intro ks
  induction ks with
  | nil =>
    intro t a s _ hB h
    rw [List.length_nil, Nat.zero_add]
    exact Hd.line cs t a s hB h
  | cons k ks ih =>
    intro t a s inv hB h
    simp only [headB, Bool.and_eq_true, decide_eq_true_eq] at hB
    obtain ⟨⟨⟨hkn, hr⟩, hf⟩, hB'⟩ := hB
    have hr' : k ∈ Region.ready md ops t := by simpa using hr
    obtain ⟨o, ho, hw, v, hy, hK'⟩ := h
    rw [List.length_cons, show ks.length + 1 + cs.length = (ks.length + cs.length) + 1 by omega]
    exact Hd.first ho (Region.noSelect_spec hsel) hs hc hn hkn (fun t' a' s' hL => seqB_ready hL.1) _ t a s inv (Region.free_spec ho hf) hr' hw hy (ih _ _ _ (inv.set hr' hkn) hB' hK')

/-- THE LAW: quiet operations ks and the writing ones cs among the first n, then the rest in its own order. -/
theorem wp_region_writes {id : Nat} {Q : Exit → Act → World → Prop} {a : Act} {w : World} {l : List Oper} (n : Nat) (ks cs : List Nat) (D : σ → World → Prop) (s0 : σ) (hm : P.follows .mixedOrders = true)
    (hB : (Region.noSelect l.toArray && decide (n < l.toArray.size) && decide (ks.length + cs.length = n) && Region.sinkB .any l.toArray n && Region.chainB .any l.toArray n && headB .any l.toArray (l.toArray.size - n) n cs ks (Array.replicate l.toArray.size false)) = true)
    (h0 : D s0 { w with drawn := w.drawn + 1 })
    (h : Walk P l.toArray D (fun a' => Chain P l.toArray D (fun a s => ∀ w', D s w' → wpList P l.toArray Q (l.drop n) a w') cs a' s0) ks a) : (Code.region id l.toArray true).wp P Q a w := by
  simp only [Bool.and_eq_true, decide_eq_true_eq] at hB
  obtain ⟨⟨⟨⟨⟨hsel, hn⟩, hlen⟩, hs⟩, hc⟩, hlex⟩ := hB
  have hdl : (l.drop n).length = l.toArray.size - n := by simp
  have inv0 : HeadInv .any l.toArray n (Array.replicate l.toArray.size false) :=
    ⟨by simp, fun j oj _ hl => (by rw [getD_replicate_false] at hl; cases hl), fun t _ ht => getD_in (by simpa using ht) (getD_replicate_false _ _)⟩
  have H := Hd.walk (md := .any) (g := l.toArray.size - n) cs hsel hs hc hn ks _ a s0 inv0 hlex h
  refine wp_region_any hm ?_
  have key := Hd.any (R := Q) (g := l.toArray.size - n) (L := fun t' a' s' => Region.seqB .any l.toArray (l.toArray.size - n) n t' = true ∧ ∀ w', D s' w' → wpList P l.toArray Q (l.drop n) a' w') (fun t' a' s' w' hw' hL => by
    have := wpAny_of_seq (md := .any) (Q' := Q) (l.drop n) n t' a' w' (fun j => by simp [List.getElem?_drop]) (by rw [hdl]; exact hL.1) (hL.2 w' hw')
    rwa [hdl] at this) _ _ _ s0 { w with drawn := w.drawn + 1 } h0 H
  rw [hlen, show n + (l.toArray.size - n) = l.toArray.size by omega] at key
  exact key
theorem upon_mono {C C' : World → Prop} (h : ∀ w, C w → C' w) {w : World} {v : Value} {r : Result Next} (hr : Oper.quietUpon P C w v r) : Oper.quietUpon P C' w v r := by
  cases r with
  | halt x w' => simp only [Oper.quietUpon] at hr
  | ok nx w' =>
    cases nx <;> simp only [Oper.quietUpon] at hr ⊢
    case value u => exact hr
    case skip => exact hr
    case enter f args => exact ⟨hr.1, hr.2.mono fun e w'' hh => ⟨hh.1, h _ hh.2⟩⟩
/-- one quiet operation of the walk: shown over the worlds beyond whatever world of a state -/
theorem Walk.step {K : Act → Prop} {k : Nat} {ks : List Nat} {a A : Act} {o : Oper} (hcl : ∀ s w w', D s w → Below w.heap.size w w' → D s w') (s1 : σ) (w1 : World) (hs1 : D s1 w1) (ho : ops[k]? = some o) (hw : Region.wanted o (yielded ops a.tmps) = true) (d : Tmp) (hd : o.dst = some d) (hlt : d < a.tmps.size)
    (h : ∀ s w2, D s w2 → o.quiet P a (fun w' => ∃ p : Regrown, w' = grow (redrawn w2 p.d) p.os) (fun a' => a' = A)) (hn : Walk P ops D K ks A) : Walk P ops D K (k :: ks) a := by
  have hput : ∀ v, a.put o.dst v = A → v = A.tmps.getD d undef := by
    intro v e
    rw [← e, hd]
    simp [Act.put, hlt]
  obtain ⟨v0, _, e0⟩ := h s1 w1 hs1
  have hv0 := hput v0 e0
  refine ⟨o, ho, hw, v0, fun s w hw' => ?_, by rw [e0]; exact hn⟩
  obtain ⟨v, h1, e1⟩ := h s w hw'
  have hv := hput v e1
  rw [hv0, ← hv]
  have hself : ∃ p : Regrown, w = grow (redrawn w p.d) p.os := ⟨⟨w.drawn, #[]⟩, by rw [grow_empty]; rfl⟩
  exact upon_mono (fun w' hw2 => by obtain ⟨p, rfl⟩ := hw2; exact hcl s w _ hw' (below_regrown w p.d p.os)) (h1 w hself)
/-- one writing call of the chain -/
theorem Chain.call {K : Act → σ → Prop} {k : Nat} {ks : List Nat} {a : Act} {s : σ} {o : Oper} (f : FuncId) (args : Array Value) (Post : Value → σ → Prop) (ho : ops[k]? = some o) (hw : Region.wanted o (yielded ops a.tmps) = true)
    (hr : ∀ w, (execOp a.eval o).run P w = .ok (.enter f args) w) (hc : ∀ w, D s w → Calls P f args w (fun e w' => ∃ v s', e = .returned v ∧ Post v s' ∧ D s' w'))
    (hn : ∀ v s', Post v s' → Chain P ops D K ks (a.put o.dst v) s') : Chain P ops D K (k :: ks) a s := by
  refine ⟨o, ho, hw, Post, fun w hD => ?_, hn⟩
  rw [hr w]
  exact hc w hD
end
end Go.Proofs.Ytcchekkedgajpaa.Qw
