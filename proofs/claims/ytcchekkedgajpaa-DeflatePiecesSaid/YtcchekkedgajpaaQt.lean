/- A region that draws its order, whose operations but the last few only read or call quietly, and whose last few come in one order behind all others: one walk in the order of the text. (What Derived/StillTail has for calls that leave the very world, said here of a class of worlds.) No program is named here. -/
import Derived.Test.YtcchekkedgajpaaQb
import Derived.StillTailTactics
set_option linter.unusedVariables false
set_option linter.unusedSimpArgs false
namespace Go.Proofs.Ytcchekkedgajpaa.Qt
open Go.RowKit Go.Sort Qb

section
variable {P : Program} {ops : Array Oper} {md : Region.Mode} {C : World → Prop} {n : Nat} {L : Array Bool → Act → Prop}

/-- whatever order the first n operations come up in, L holds behind them -/
def Heads (P : Program) (ops : Array Oper) (md : Region.Mode) (C : World → Prop) (n : Nat) (L : Array Bool → Act → Prop) : Nat → Array Bool → Act → Prop
  | 0, s, a => L s a
  | f + 1, s, a => Region.ready md ops s ≠ [] ∧ ∀ k ∈ Region.ready md ops s, k < n ∧ qOp P ops C k (Heads P ops md C n L f (s.setIfInBounds k true)) a

theorem Heads.any {g : Nat} {R : Exit → Act → World → Prop} (hL : ∀ s a w, C w → L s a → wpAny P md ops R g s a w) : ∀ (f : Nat) (s : Array Bool) (a : Act) (w : World), C w → Heads P ops md C n L f s a → wpAny P md ops R (f + g) s a w := by
  intro f
  induction f with
  | zero => intro s a w hw h; rw [Nat.zero_add]; exact hL s a w hw h
  | succ f ih =>
    intro s a w hw h
    have e : f + 1 + g = (f + g) + 1 := by omega
    rw [e]
    refine ⟨fun h0 => absurd h0 h.1, fun k hk => ?_⟩
    exact wpOp_of_qOp hw (fun a' w' hw' ha' => ih _ a' w' hw' ha') (h.2 k hk).2

/-- an operation of the head that may come up, may be taken first -/
theorem Heads.first {i : Nat} {oi : Oper} {v : Value} (hi : ops[i]? = some oi) (hsel : ∀ (j : Nat) (o : Oper) cs b, ops[j]? = some o → o.op ≠ .select cs b)
    (hs : Region.sinkB md ops n = true) (hc : Region.chainB md ops n = true) (hn : n < ops.size) (hin : i < n) (hL : ∀ s a, L s a → ∀ j ∈ Region.ready md ops s, n ≤ j) :
    ∀ (f : Nat) (s : Array Bool) (a : Act), HeadInv md ops n s →
      (∀ j oj, ops[j]? = some oj → j ≠ i → s.getD j true = false → (∀ e ∈ oj.after, Region.binds md e = true → e.on ≠ i) → oi.apart ops oj = true) →
      i ∈ Region.ready md ops s → YieldsIn P ops C oi v a → Heads P ops md C n L f (s.setIfInBounds i true) (a.put oi.dst v) → Heads P ops md C n L (f + 1) s a := by
  have inHead : ∀ s : Array Bool, HeadInv md ops n s → i ∈ Region.ready md ops s → ∀ k ∈ Region.ready md ops s, k < n := by
    intro s inv hr k hk
    rcases Nat.lt_or_ge k n with h | h
    · exact h
    · exact absurd hk (tail_waits hs hc hn inv (n - i) i rfl hin (mem_ready.1 hr).1 k h)
  have notEmpty : ∀ s : Array Bool, i ∈ Region.ready md ops s → Region.ready md ops s ≠ [] := by
    intro s hr h0
    rw [h0] at hr
    cases hr
  intro f
  induction f with
  | zero =>
    intro s a inv _ hr hy h
    refine ⟨notEmpty s hr, fun k hk => ⟨inHead s inv hr k hk, ?_⟩⟩
    by_cases hki : k = i
    · subst hki; exact hy.qOp hi h
    · have h1 := hL _ _ h k (ready_mono hk hki)
      have h2 := inHead s inv hr k hk
      omega
  | succ f ih =>
    intro s a inv hap hr hy h
    refine ⟨notEmpty s hr, fun k hk => ⟨inHead s inv hr k hk, ?_⟩⟩
    by_cases hki : k = i
    · subst hki; exact hy.qOp hi h
    · obtain ⟨hkun, ok, hok, hkall⟩ := mem_ready.1 hk
      have hiun := (mem_ready.1 hr).1
      have hne : ∀ e ∈ ok.after, Region.binds md e = true → e.on ≠ i := by
        intro e he hb heq
        have h3 := hkall e he hb
        rw [heq, getD_both hiun] at h3
        cases h3
      have h4 := qOp_put hok (hap k ok hok hki hkun hne) (fun cs b => hsel i oi cs b hi) (fun cs b => hsel k ok cs b hok) hy (h.2 k (ready_mono hk hki)).2
      refine qOp_mono (fun a' h5 => ?_) h4
      refine ih (s.setIfInBounds k true) a' (inv.set hk (inHead s inv hr k hk)) ?_ (ready_mono hr (Ne.symm hki)) h5.1 ?_
      · intro j oj hj hji hjun hjn
        refine hap j oj hj hji ?_ hjn
        by_cases hkj : k = j
        · subst hkj; exact hkun
        · rw [getD_set_ne true hkj] at hjun; exact hjun
      · rw [Array.setIfInBounds_comm _ _ hki]
        exact h5.2

theorem Heads.lex {g : Nat} {K : Act → Prop} (hsel : Region.noSelect ops = true) (hs : Region.sinkB md ops n = true) (hc : Region.chainB md ops n = true) (hn : n < ops.size) :
    ∀ (l : List Oper) (k : Nat) (s : Array Bool) (a : Act), (∀ j, j < l.length → l[j]? = ops[k + j]?) → k + l.length = n → HeadInv md ops n s → Region.lexHead md ops g l.length k s = true →
      wpQuiet P ops C K l a → Heads P ops md C n (fun s' a' => Region.seqB md ops g n s' = true ∧ K a') l.length s a := by
  intro l
  induction l with
  | nil =>
    intro k s a _ hk _ hB h
    obtain rfl : k = n := by simpa using hk
    exact ⟨by simpa [Region.lexHead] using hB, h⟩
  | cons o l ih =>
    intro k s a hl hk inv hB h
    have h0 : ops[k]? = some o := by have := hl 0 (by simp); simpa using this.symm
    simp only [List.length_cons, Region.lexHead, Bool.and_eq_true] at hB
    obtain ⟨⟨hr, hf⟩, hB'⟩ := hB
    have hkn : k < n := by simp only [List.length_cons] at hk; omega
    have hr' : k ∈ Region.ready md ops s := by simpa using hr
    have hq : qOp P ops C k (wpQuiet P ops C K l) a := by unfold qOp; simp only [h0]; exact h
    obtain ⟨v, hy, hK⟩ := yieldsIn_of_qOp h0 hq
    refine Heads.first h0 (Region.noSelect_spec hsel) hs hc hn hkn (fun s' a' hL => seqB_ready hL.1) l.length s a inv (Region.free_spec h0 hf) hr' hy ?_
    refine ih (k + 1) _ _ (fun j hj => ?_) (by simp only [List.length_cons] at hk; omega) (inv.set hr' hkn) hB' hK
    have := hl (j + 1) (by simp; omega)
    simpa [Nat.add_assoc, Nat.add_comm 1 j] using this

/-- THE LAW: n operations that are quiet in the class C, then the rest in its own order, from whatever world of the class. -/
theorem wp_region_quiet_tail {id : Nat} {Q : Exit → Act → World → Prop} {a : Act} {w : World} {l : List Oper} (n : Nat) (hm : P.follows .mixedOrders = true) (hB : Region.lexTailB .any l.toArray n = true)
    (h0 : C { w with drawn := w.drawn + 1 }) (h : wpQuiet P l.toArray C (fun a' => ∀ w', C w' → wpList P l.toArray Q (l.drop n) a' w') (l.take n) a) : (Code.region id l.toArray true).wp P Q a w := by
  simp only [Region.lexTailB, Bool.and_eq_true, decide_eq_true_eq] at hB
  obtain ⟨⟨⟨⟨hsel, hn⟩, hs⟩, hc⟩, hlex⟩ := hB
  have hn' : n < l.length := by simpa using hn
  have htl : (l.take n).length = n := by simp; omega
  have hdl : (l.drop n).length = l.toArray.size - n := by simp
  have inv0 : HeadInv .any l.toArray n (Array.replicate l.toArray.size false) :=
    ⟨by simp, fun j oj _ hl => (by rw [getD_replicate_false] at hl; cases hl), fun t _ ht => getD_in (by simpa using ht) (getD_replicate_false _ _)⟩
  have H := Heads.lex (md := .any) (g := l.toArray.size - n) hsel hs hc hn (l.take n) 0 _ a (fun j hj => by
    have hj' : j < n := by rw [htl] at hj; exact hj
    simp [hj']) (by simpa using htl) inv0 (by rw [htl]; exact hlex) h
  refine wp_region_any hm ?_
  have key := Heads.any (R := Q) (g := l.toArray.size - n) (fun s a' w' hw' hL => by
    have := wpAny_of_seq (md := .any) (Q' := Q) (l.drop n) n s a' w' (fun j => by simp [List.getElem?_drop]) (by rw [hdl]; exact hL.1) (hL.2 w' hw')
    rwa [hdl] at this) _ _ _ _ h0 H
  rw [htl, show n + (l.toArray.size - n) = l.toArray.size by omega] at key
  exact key

/-- .. at the class 'what was there stands as it stood' -/
theorem wp_region_below_tail {id : Nat} {Q : Exit → Act → World → Prop} {a : Act} {w : World} {l : List Oper} (n : Nat) (hm : P.follows .mixedOrders = true) (hB : Region.lexTailB .any l.toArray n = true)
    (h : wpQuiet P l.toArray (fun w' => ∃ p : Regrown, w' = grow (redrawn w p.d) p.os) (fun a' => ∀ w', (∃ p : Regrown, w' = grow (redrawn w p.d) p.os) → wpList P l.toArray Q (l.drop n) a' w') (l.take n) a) : (Code.region id l.toArray true).wp P Q a w :=
  wp_region_quiet_tail (C := fun w' => ∃ p : Regrown, w' = grow (redrawn w p.d) p.os) n hm hB ⟨⟨w.drawn + 1, #[]⟩, by rw [grow_empty]; rfl⟩ h
end
end Go.Proofs.Ytcchekkedgajpaa.Qt
