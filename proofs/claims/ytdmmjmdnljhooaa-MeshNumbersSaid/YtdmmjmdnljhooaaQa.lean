/- A region that draws its order and makes new blocks among its operations ('p, q := f(a), g(b)' of boxed structs): the others are quiet, so each keeps its one value whatever has been laid; the new blocks' places hang on the order, so what follows is asked for all places that differ. No program is named here. -/
import Derived.Test.YtdmmjmdnljhooaaQt
set_option linter.unusedVariables false
set_option linter.unusedSimpArgs false
namespace Go.Proofs.Ytdmmjmdnljhooaa.Qa
open Go.RowKit Go.Sort Qb Qt

/-- the worlds beyond w -/
def Cls (w : World) : World → Prop := fun w' => ∃ p : Regrown, w' = grow (redrawn w p.d) p.os
theorem Cls.refl (w : World) : Cls w w := ⟨⟨w.drawn, #[]⟩, by rw [grow_empty]; rfl⟩
theorem Cls.below {w w' : World} (h : Cls w w') : Below w.heap.size w w' := by obtain ⟨p, rfl⟩ := h; exact below_regrown _ _ _
theorem Cls.of_below {w w' : World} (h : Below w.heap.size w w') : Cls w w' := regrown_of_below h
theorem Cls.trans {w w1 w2 : World} (h : Cls w w1) (h2 : Cls w1 w2) : Cls w w2 := Cls.of_below (h.below.trans (h2.below.mono h.below.size))

abbrev ptr (g : Nat) : Value := .pointer (some ⟨g, 0, none⟩)
section
variable {P : Program} {ops : Array Oper} {md : Region.Mode} {W : World} {n : Nat}

/-- one value in every world beyond W, and what is left lies beyond that very world -/
def Firm (P : Program) (W : World) (o : Oper) (v : Value) (a : Act) : Prop := ∀ w, Below W.heap.size W w → o.quietAt P a (Cls w) w v
theorem Firm.of_same {o : Oper} {v : Value} {a a' : Act} (h : Firm P W o v a) (he : execOp a'.eval o = execOp a.eval o) : Firm P W o v a' := by
  intro w hw
  have := h w hw
  unfold Oper.quietAt at *
  rw [he]; exact this
theorem upon_mono {C C' : World → Prop} (h : ∀ w, C w → C' w) {w : World} {v : Value} {r : Result Next} (hr : Oper.quietUpon P C w v r) : Oper.quietUpon P C' w v r := by
  cases r with
  | halt x w' => simp only [Oper.quietUpon] at hr
  | ok nx w' =>
    cases nx <;> simp only [Oper.quietUpon] at hr ⊢
    case value u => exact hr
    case skip => exact hr
    case enter f args => exact ⟨hr.1, hr.2.mono fun e w'' hh => ⟨hh.1, h _ hh.2⟩⟩

/-- an operation that makes a new block z and leaves its address in slot d -/
structure IsAl (P : Program) (o : Oper) (d : Tmp) (z : Obj) : Prop where
  op : ∃ ty, o.op = .alloc ty ∧ ∀ w, (Instr.alloc ty true (.tuple #[])).run P w = .ok (.pointer (some ⟨w.heap.size, 0, none⟩)) (w.alloc z)
  dst : o.dst = some d
  guard : o.guard = none
theorem IsAl.wanted {o : Oper} {d : Tmp} {z : Obj} (h : IsAl P o d z) (f : Nat → Option Bool) : Region.wanted o f = true := by simp [Region.wanted, h.guard]
theorem IsAl.run {o : Oper} {d : Tmp} {z : Obj} (h : IsAl P o d z) (e : Operand → Value) (w : World) : (execOp e o).run P w = .ok (.value (ptr w.heap.size)) (w.alloc z) := by
  obtain ⟨ty, h1, h2⟩ := h.op
  unfold execOp
  simp only [h1, Sem.run_bind, h2, Result.andThen_ok, Sem.run_pure]

/-- operation k, then K; s: the blocks made so far -/
def St (P : Program) (ops : Array Oper) (W : World) (k : Nat) (K : Act → List (Nat × Obj) → Prop) (a : Act) (s : List (Nat × Obj)) : Prop :=
  ∃ o, ops[k]? = some o ∧ ((∃ d z, IsAl P o d z ∧ ∀ g, W.heap.size ≤ g → (∀ p ∈ s, p.1 ≠ g) → K (a.put (some d) (ptr g)) ((g, z) :: s)) ∨ (Region.wanted o (yielded ops a.tmps) = true ∧ ∃ v, Firm P W o v a ∧ K (a.put o.dst v) s))
theorem St.mono {k : Nat} {K K' : Act → List (Nat × Obj) → Prop} (h : ∀ a s, K a s → K' a s) {a : Act} {s : List (Nat × Obj)} (hs : St P ops W k K a s) : St P ops W k K' a s := by
  obtain ⟨o, ho, h1⟩ := hs
  rcases h1 with ⟨d, z, h2, h3⟩ | ⟨h2, v, h3, h4⟩
  · exact ⟨o, ho, .inl ⟨d, z, h2, fun g hg hf => h _ _ (h3 g hg hf)⟩⟩
  · exact ⟨o, ho, .inr ⟨h2, v, h3, h _ _ h4⟩⟩
/-- whatever order the first n come up in -/
def Hd (P : Program) (ops : Array Oper) (md : Region.Mode) (W : World) (n : Nat) (L : Array Bool → Act → List (Nat × Obj) → Prop) : Nat → Array Bool → Act → List (Nat × Obj) → Prop
  | 0, t, a, s => L t a s
  | f + 1, t, a, s => Region.ready md ops t ≠ [] ∧ ∀ k ∈ Region.ready md ops t, k < n ∧ St P ops W k (Hd P ops md W n L f (t.setIfInBounds k true)) a s
/-- the worlds in which the blocks s stand -/
def D (W : World) (s : List (Nat × Obj)) (w : World) : Prop := Below W.heap.size W w ∧ ∀ p ∈ s, w.heap[p.1]? = some p.2

theorem St.op {k : Nat} {K : Act → List (Nat × Obj) → Prop} {K' : Act → World → Prop} {R : Exit → Act → World → Prop} {a : Act} {s : List (Nat × Obj)} {w : World} (hD : D W s w) (hst : St P ops W k K a s)
    (h : ∀ a' s' w', D W s' w' → K a' s' → K' a' w') : wpOp P ops R k K' a w := by
  obtain ⟨o, ho, h1⟩ := hst
  rcases h1 with ⟨d, z, h2, h3⟩ | ⟨h2, v, h3, h4⟩
  · unfold wpOp
    simp only [ho, h2.wanted, if_true]
    refine .inl ?_
    unfold Oper.wp
    rw [h2.run]
    show K' (a.put o.dst (ptr w.heap.size)) (w.alloc z)
    rw [h2.dst]
    have hlt : ∀ p ∈ s, p.1 < w.heap.size := by
      intro p hp
      have := hD.2 p hp
      rcases Nat.lt_or_ge p.1 w.heap.size with h' | h'
      · exact h'
      · rw [Array.getElem?_eq_none h'] at this; simp at this
    refine h _ ((w.heap.size, z) :: s) _ ⟨hD.1.alloc hD.1.size z, ?_⟩ (h3 w.heap.size hD.1.size fun p hp e => by have := hlt p hp; omega)
    intro p hp
    rcases List.mem_cons.1 hp with rfl | hp
    · exact heap_alloc_new w z
    · rw [heap_alloc_old w z (hlt p hp)]; exact hD.2 p hp
  · refine wpOp_of_qOp (C := Cls w) (K := fun a' => a' = a.put o.dst v) (Cls.refl w) (fun a' w' hw' ha' => ?_) ?_
    · subst ha'
      refine h _ s _ ⟨hD.1.trans (hw'.below.mono hD.1.size), fun p hp => ?_⟩ h4
      have := hD.2 p hp
      rw [hw'.below.block p.1 (by
        rcases Nat.lt_or_ge p.1 w.heap.size with h' | h'
        · exact h'
        · rw [Array.getElem?_eq_none h'] at this; simp at this)]
      exact this
    · unfold qOp
      simp only [ho, h2, if_true]
      exact ⟨v, fun w1 hw1 => upon_mono (fun w2 hw2 => hw1.trans hw2) (h3 w1 (hD.1.trans (hw1.below.mono hD.1.size))), rfl⟩
theorem Hd.any {g : Nat} {L : Array Bool → Act → List (Nat × Obj) → Prop} {R : Exit → Act → World → Prop} (hL : ∀ t a s w, D W s w → L t a s → wpAny P md ops R g t a w) :
    ∀ (f : Nat) (t : Array Bool) (a : Act) (s : List (Nat × Obj)) (w : World), D W s w → Hd P ops md W n L f t a s → wpAny P md ops R (f + g) t a w := by
  intro f
  induction f with
  | zero => intro t a s w hw h; rw [Nat.zero_add]; exact hL t a s w hw h
  | succ f ih =>
    intro t a s w hw h
    rw [show f + 1 + g = (f + g) + 1 by omega]
    exact ⟨fun h0 => absurd h0 h.1, fun k hk => (h.2 k hk).2.op hw fun a' s' w' hw' ha' => ih _ a' s' w' hw' ha'⟩

/-- a quiet operation that may come up, may be taken first -/
theorem Hd.first {L : Array Bool → Act → List (Nat × Obj) → Prop} {i : Nat} {oi : Oper} {v : Value} (hi : ops[i]? = some oi) (hsel : ∀ (j : Nat) (o : Oper) cs b, ops[j]? = some o → o.op ≠ .select cs b)
    (hs : Region.sinkB md ops n = true) (hc : Region.chainB md ops n = true) (hn : n < ops.size) (hin : i < n) (hL : ∀ t a s, L t a s → ∀ j ∈ Region.ready md ops t, n ≤ j) :
    ∀ (f : Nat) (t : Array Bool) (a : Act) (s : List (Nat × Obj)), HeadInv md ops n t →
      (∀ j oj, ops[j]? = some oj → j ≠ i → t.getD j true = false → (∀ e ∈ oj.after, Region.binds md e = true → e.on ≠ i) → oi.apart ops oj = true) →
      i ∈ Region.ready md ops t → Region.wanted oi (yielded ops a.tmps) = true → Firm P W oi v a → Hd P ops md W n L f (t.setIfInBounds i true) (a.put oi.dst v) s → Hd P ops md W n L (f + 1) t a s := by
  have inHead : ∀ t : Array Bool, HeadInv md ops n t → i ∈ Region.ready md ops t → ∀ k ∈ Region.ready md ops t, k < n := by
    intro t inv hr k hk
    rcases Nat.lt_or_ge k n with h | h
    · exact h
    · exact absurd hk (tail_waits hs hc hn inv (n - i) i rfl hin (mem_ready.1 hr).1 k h)
  have notEmpty : ∀ t : Array Bool, i ∈ Region.ready md ops t → Region.ready md ops t ≠ [] := by
    intro t hr h0
    rw [h0] at hr
    cases hr
  intro f
  induction f with
  | zero =>
    intro t a s inv _ hr hw hy h
    refine ⟨notEmpty t hr, fun k hk => ⟨inHead t inv hr k hk, ?_⟩⟩
    by_cases hki : k = i
    · subst hki; exact ⟨oi, hi, .inr ⟨hw, v, hy, h⟩⟩
    · have h1 := hL _ _ _ h k (ready_mono hk hki)
      have h2 := inHead t inv hr k hk
      omega
  | succ f ih =>
    intro t a s inv hap hr hw hy h
    refine ⟨notEmpty t hr, fun k hk => ⟨inHead t inv hr k hk, ?_⟩⟩
    by_cases hki : k = i
    · subst hki; exact ⟨oi, hi, .inr ⟨hw, v, hy, h⟩⟩
    · obtain ⟨hkun, ok, hok, hkall⟩ := mem_ready.1 hk
      have hiun := (mem_ready.1 hr).1
      have hne : ∀ e ∈ ok.after, Region.binds md e = true → e.on ≠ i := by
        intro e he hb heq
        have h3 := hkall e he hb
        rw [heq, getD_both hiun] at h3
        cases h3
      have hapk := hap k ok hok hki hkun hne
      obtain ⟨p1, p2, p3⟩ := Oper.apart_spec hapk
      have hseli := fun cs b => hsel i oi cs b hi
      have hselk := fun cs b => hsel k ok cs b hok
      have onward : ∀ (a' : Act) (s' : List (Nat × Obj)), Region.wanted oi (yielded ops a'.tmps) = true → Firm P W oi v a' → Hd P ops md W n L f ((t.setIfInBounds i true).setIfInBounds k true) (a'.put oi.dst v) s' →
          Hd P ops md W n L (f + 1) (t.setIfInBounds k true) a' s' := by
        intro a' s' hw' hy' h'
        refine ih (t.setIfInBounds k true) a' s' (inv.set hk (inHead t inv hr k hk)) ?_ (ready_mono hr (Ne.symm hki)) hw' hy' ?_
        · intro j oj hj hji hjun hjn
          refine hap j oj hj hji ?_ hjn
          by_cases hkj : k = j
          · subst hkj; exact hkun
          · rw [getD_set_ne true hkj] at hjun; exact hjun
        · rw [Array.setIfInBounds_comm _ _ hki]; exact h'
      obtain ⟨o', ho', h4⟩ := (h.2 k (ready_mono hk hki)).2
      obtain rfl : o' = ok := Option.some.inj (ho'.symm.trans hok)
      rcases h4 with ⟨d, z, h5, h6⟩ | ⟨h5, u, h6, h7⟩
      · refine ⟨o', hok, .inl ⟨d, z, h5, fun g hg hf => ?_⟩⟩
        have p3' : ∀ d', some d = some d' → d' ∉ oi.looksAt ops := by intro d' e; exact p3 d' (by rw [h5.dst]; exact e)
        refine onward _ _ ?_ (hy.of_same (execOp_put oi hseli a (some d) (ptr g) p3')) ?_
        · rw [wanted_put oi a (some d) (ptr g) p3']; exact hw
        · rw [Act.put_comm a (ptr g) v (fun d' e => by have := p2; intro e2; exact this d' e2 (by rw [h5.dst]; exact e))]
          exact h6 g hg hf
      · refine ⟨o', hok, .inr ⟨?_, u, ?_, ?_⟩⟩
        · rw [← wanted_put o' a oi.dst v p1]; exact h5
        · exact h6.of_same (execOp_put o' hselk a oi.dst v p1).symm
        · refine onward _ _ ?_ (hy.of_same (execOp_put oi hseli a o'.dst u p3)) ?_
          · rw [wanted_put oi a o'.dst u p3]; exact hw
          · rw [← Act.put_comm a v u p2]; exact h7

/-! ### the new blocks, in any order -/
/-- an alloc: its number, its slot, its block -/
abbrev A3 := Nat × Tmp × Obj
/-- for all places that differ -/
def All (W : World) (K : Act → List (Nat × Obj) → Prop) : List A3 → Act → List (Nat × Obj) → Prop
  | [], a, s => K a s
  | x :: r, a, s => ∀ g, W.heap.size ≤ g → (∀ p ∈ s, p.1 ≠ g) → All W K r (a.put (some x.2.1) (ptr g)) ((g, x.2.2) :: s)
theorem All.perm {K : Act → List (Nat × Obj) → Prop} (hK : ∀ a s s', s.Perm s' → K a s → K a s') : ∀ (r : List A3) (a : Act) (s s' : List (Nat × Obj)), s.Perm s' → All W K r a s → All W K r a s' := by
  intro r
  induction r with
  | nil => intro a s s' hp h; exact hK a s s' hp h
  | cons x r ih =>
    intro a s s' hp h g hg hf
    exact ih _ _ _ (hp.cons _) (h g hg fun p hp' => hf p (hp.mem_iff.1 hp'))
theorem All.pick {K : Act → List (Nat × Obj) → Prop} (hK : ∀ a s s', s.Perm s' → K a s → K a s') : ∀ (r : List A3) (x : A3) (a : Act) (s : List (Nat × Obj)), x ∈ r → (r.map fun y => y.2.1).Nodup → All W K r a s →
    ∀ g, W.heap.size ≤ g → (∀ p ∈ s, p.1 ≠ g) → All W K (r.filter fun y => !(y.1 == x.1 && y.2.1 == x.2.1)) (a.put (some x.2.1) (ptr g)) ((g, x.2.2) :: s) := by
  intro r
  induction r with
  | nil => intro x a s hx; cases hx
  | cons y r ih =>
    intro x a s hx hnd h g hg hf
    rw [List.map_cons, List.nodup_cons] at hnd
    by_cases hxy : y.2.1 = x.2.1
    · have hyx : x = y := by
        rcases List.mem_cons.1 hx with e | e
        · exact e
        · exact absurd (show y.2.1 ∈ r.map (fun y => y.2.1) from List.mem_map.2 ⟨x, e, hxy.symm⟩) hnd.1
      subst hyx
      have e1 : ((x :: r).filter fun y => !(y.1 == x.1 && y.2.1 == x.2.1)) = r := by
        rw [List.filter_cons_of_neg (by simp)]
        rw [List.filter_eq_self]
        intro z hz
        have : z.2.1 ≠ x.2.1 := fun e => hnd.1 (List.mem_map.2 ⟨z, hz, e⟩)
        simp [this]
      rw [e1]
      exact h g hg hf
    · have hxr : x ∈ r := by
        rcases List.mem_cons.1 hx with e | e
        · exact absurd (by rw [e]) hxy
        · exact e
      rw [List.filter_cons_of_pos (by simp [hxy])]
      intro g' hg' hf'
      have hgg : g ≠ g' := hf' (g, x.2.2) (by simp)
      have h1 := h g' hg' (fun p hp => hf' p (by simp [hp]))
      have h2 := ih x _ _ hxr hnd.2 h1 g hg (fun p hp => by
        rcases List.mem_cons.1 hp with e | e
        · rw [e]; exact fun e2 => hgg e2.symm
        · exact hf p e)
      rw [Act.put_comm a (ptr g') (ptr g) (fun d e e2 => hxy (by simp only [Option.some.injEq] at e e2; rw [e, e2]))] at h2
      exact All.perm hK _ _ _ _ (List.Perm.swap _ _ _) h2

/-- do the allocs, in whatever order, lead to the tail? -/
def allocB (md : Region.Mode) (ops : Array Oper) (g n : Nat) : Nat → List Nat → Array Bool → Bool
  | 0, r, t => r.isEmpty && Region.seqB md ops g n t
  | f + 1, r, t => !r.isEmpty && decide (Region.ready md ops t = r) && r.all fun j => allocB md ops g n f (r.filter fun k => !(k == j)) (t.setIfInBounds j true)
theorem Hd.allocs {g : Nat} {K : Act → List (Nat × Obj) → Prop} (hK : ∀ a s s', s.Perm s' → K a s → K a s') :
    ∀ (f : Nat) (r : List A3) (t : Array Bool) (a : Act) (s : List (Nat × Obj)), (∀ x ∈ r, x.1 < n ∧ ∃ o, ops[x.1]? = some o ∧ IsAl P o x.2.1 x.2.2) → (r.map fun y => y.2.1).Nodup → (r.map fun y => y.1).Nodup → allocB md ops g n f (r.map fun y => y.1) t = true →
      All W K r a s → Hd P ops md W n (fun t' a' s' => Region.seqB md ops g n t' = true ∧ K a' s') f t a s := by
  intro f
  induction f with
  | zero =>
    intro r t a s hr _ _ hB h
    simp only [allocB, Bool.and_eq_true, List.isEmpty_iff] at hB
    have : r = [] := by simpa using hB.1
    subst this
    exact ⟨hB.2, h⟩
  | succ f ih =>
    intro r t a s hr hnd hni hB h
    simp only [allocB, Bool.and_eq_true, Bool.not_eq_true', decide_eq_true_eq, List.all_eq_true] at hB
    obtain ⟨⟨hne, hrd⟩, hall⟩ := hB
    refine ⟨fun h0 => ?_, fun k hk => ?_⟩
    · rw [hrd] at h0; rw [h0] at hne; simp at hne
    · rw [hrd] at hk
      obtain ⟨x, hx, rfl⟩ := List.mem_map.1 hk
      obtain ⟨hlt, o, ho, hal⟩ := hr x hx
      refine ⟨hlt, o, ho, .inl ⟨x.2.1, x.2.2, hal, fun g' hg hf => ?_⟩⟩
      have h1 := All.pick hK r x a s hx hnd h g' hg hf
      have e1 : (r.filter fun y => !(y.1 == x.1 && y.2.1 == x.2.1)) = r.filter fun y => !(y.1 == x.1) := by
        apply List.filter_congr
        intro y hy
        by_cases e : y.1 = x.1
        · have : y = x := by
            have key : ∀ (l : List A3), (l.map fun y => y.1).Nodup → y ∈ l → x ∈ l → y = x := by
              intro l
              induction l with
              | nil => intro _ h; cases h
              | cons z l ihl =>
                intro hn h1 h2
                rw [List.map_cons, List.nodup_cons] at hn
                rcases List.mem_cons.1 h1 with a1 | a1 <;> rcases List.mem_cons.1 h2 with a2 | a2
                · rw [a1, a2]
                · exact absurd (List.mem_map.2 ⟨x, a2, by rw [← e, a1]⟩) hn.1
                · exact absurd (List.mem_map.2 ⟨y, a1, by rw [e, a2]⟩) hn.1
                · exact ihl hn.2 a1 a2
            exact key r hni hy hx
          rw [this]; simp
        · simp [e]
      rw [e1] at h1
      have e2 : (r.filter fun y => !(y.1 == x.1)).map (fun y => y.1) = (r.map fun y => y.1).filter fun k => !(k == x.1) := by
        rw [List.filter_map]; rfl
      refine ih _ _ _ _ (fun y hy => hr y (List.mem_filter.1 hy).1) ?_ ?_ ?_ h1
      · exact (List.filter_sublist.map _).nodup hnd
      · exact (List.filter_sublist.map _).nodup hni
      · rw [e2]; exact hall x.1 (List.mem_map.2 ⟨x, hx, rfl⟩)

/-- the quiet operations, in the order of the list -/
def Walk (P : Program) (ops : Array Oper) (W : World) (K : Act → Prop) : List Nat → Act → Prop
  | [], a => K a
  | k :: ks, a => ∃ o, ops[k]? = some o ∧ Region.wanted o (yielded ops a.tmps) = true ∧ ∃ v, Firm P W o v a ∧ Walk P ops W K ks (a.put o.dst v)
def headB (md : Region.Mode) (ops : Array Oper) (g n : Nat) (als : List Nat) : List Nat → Array Bool → Bool
  | [], t => allocB md ops g n als.length als t
  | k :: ks, t => decide (k < n) && (Region.ready md ops t).contains k && Region.free md ops t k && headB md ops g n als ks (t.setIfInBounds k true)
theorem allocB_ready {g : Nat} : ∀ (f : Nat) (r : List Nat) (t : Array Bool), f = 0 → allocB md ops g n f r t = true → ∀ j ∈ Region.ready md ops t, n ≤ j := by
  intro f r t hf h
  subst hf
  simp only [allocB, Bool.and_eq_true] at h
  exact seqB_ready h.2
theorem Hd.walk {g : Nat} {K : Act → List (Nat × Obj) → Prop} (hK : ∀ a s s', s.Perm s' → K a s → K a s') (als : List A3) (hal : ∀ x ∈ als, x.1 < n ∧ ∃ o, ops[x.1]? = some o ∧ IsAl P o x.2.1 x.2.2)
    (hnd : (als.map fun y => y.2.1).Nodup) (hni : (als.map fun y => y.1).Nodup)
    (hsel : Region.noSelect ops = true) (hs : Region.sinkB md ops n = true) (hc : Region.chainB md ops n = true) (hn : n < ops.size) :
    ∀ (ks : List Nat) (t : Array Bool) (a : Act) (s : List (Nat × Obj)), HeadInv md ops n t → headB md ops g n (als.map fun y => y.1) ks t = true → Walk P ops W (fun a' => All W K als a' s) ks a →
      Hd P ops md W n (fun t' a' s' => Region.seqB md ops g n t' = true ∧ K a' s') (ks.length + als.length) t a s := by
  intro ks
  induction ks with
  | nil =>
    intro t a s _ hB h
    rw [List.length_nil, Nat.zero_add]
    simp only [headB, List.length_map] at hB
    exact Hd.allocs hK als.length als t a s hal hnd hni hB h
  | cons k ks ih =>
    intro t a s inv hB h
    simp only [headB, Bool.and_eq_true, decide_eq_true_eq] at hB
    obtain ⟨⟨⟨hkn, hr⟩, hf⟩, hB'⟩ := hB
    have hr' : k ∈ Region.ready md ops t := by simpa using hr
    obtain ⟨o, ho, hw, v, hy, hK'⟩ := h
    rw [List.length_cons, show ks.length + 1 + als.length = (ks.length + als.length) + 1 by omega]
    exact Hd.first ho (Region.noSelect_spec hsel) hs hc hn hkn (fun t' a' s' hL => seqB_ready hL.1) _ t a s inv (Region.free_spec ho hf) hr' hw hy (ih _ _ _ (inv.set hr' hkn) hB' hK')

/-- THE LAW: quiet operations ks and allocs als among the first n, then the rest in its own order. -/
theorem wp_region_allocs {id : Nat} {Q : Exit → Act → World → Prop} {a : Act} {w : World} {l : List Oper} (n : Nat) (ks : List Nat) (als : List A3) (hm : P.follows .mixedOrders = true)
    (hB : (Region.noSelect l.toArray && decide (n < l.toArray.size) && decide (ks.length + als.length = n) && Region.sinkB .any l.toArray n && Region.chainB .any l.toArray n && headB .any l.toArray (l.toArray.size - n) n (als.map fun y => y.1) ks (Array.replicate l.toArray.size false)) = true)
    (hal : ∀ x ∈ als, x.1 < n ∧ ∃ o, l[x.1]? = some o ∧ IsAl P o x.2.1 x.2.2) (hnd : (als.map fun y => y.2.1).Nodup) (hni : (als.map fun y => y.1).Nodup)
    (h : Walk P l.toArray w (fun a' => All w (fun a s => ∀ w', D w s w' → wpList P l.toArray Q (l.drop n) a w') als a' []) ks a) : (Code.region id l.toArray true).wp P Q a w := by
  simp only [Bool.and_eq_true, decide_eq_true_eq] at hB
  obtain ⟨⟨⟨⟨⟨hsel, hn⟩, hlen⟩, hs⟩, hc⟩, hlex⟩ := hB
  have hdl : (l.drop n).length = l.toArray.size - n := by simp
  have inv0 : HeadInv .any l.toArray n (Array.replicate l.toArray.size false) :=
    ⟨by simp, fun j oj _ hl => (by rw [getD_replicate_false] at hl; cases hl), fun t _ ht => getD_in (by simpa using ht) (getD_replicate_false _ _)⟩
  have hKp : ∀ (a : Act) (s s' : List (Nat × Obj)), s.Perm s' → (∀ w', D w s w' → wpList P l.toArray Q (l.drop n) a w') → ∀ w', D w s' w' → wpList P l.toArray Q (l.drop n) a w' :=
    fun a s s' hp hh w' hD => hh w' ⟨hD.1, fun p hp' => hD.2 p (hp.mem_iff.1 hp')⟩
  have H := Hd.walk (md := .any) (g := l.toArray.size - n) (W := w) hKp als (fun x hx => by
    obtain ⟨h1, o, h2, h3⟩ := hal x hx
    exact ⟨h1, o, by simpa using h2, h3⟩) hnd hni hsel hs hc hn ks _ a [] inv0 hlex h
  refine wp_region_any hm ?_
  have key := Hd.any (W := w) (R := Q) (g := l.toArray.size - n) (L := fun t' a' s' => Region.seqB .any l.toArray (l.toArray.size - n) n t' = true ∧ ∀ w', D w s' w' → wpList P l.toArray Q (l.drop n) a' w') (fun t a' s' w' hw' hL => by
    have := wpAny_of_seq (md := .any) (Q' := Q) (l.drop n) n t a' w' (fun j => by simp [List.getElem?_drop]) (by rw [hdl]; exact hL.1) (hL.2 w' hw')
    rwa [hdl] at this) _ _ _ _ { w with drawn := w.drawn + 1 } ⟨⟨rfl, rfl, rfl, Nat.le_refl _, fun _ _ => rfl⟩, by simp⟩ H
  rw [hlen, show n + (l.toArray.size - n) = l.toArray.size by omega] at key
  exact key
/-- one quiet operation of the walk: shown over the worlds beyond whatever W1 -/
theorem Walk.step {K : Act → Prop} {k : Nat} {ks : List Nat} {a A : Act} {o : Oper} (ho : ops[k]? = some o) (hw : Region.wanted o (yielded ops a.tmps) = true) (d : Tmp) (hd : o.dst = some d) (hlt : d < a.tmps.size)
    (h : ∀ W1, Below W.heap.size W W1 → o.quiet P a (fun w' => ∃ p : Regrown, w' = grow (redrawn W1 p.d) p.os) (fun a' => a' = A)) (hn : Walk P ops W K ks A) : Walk P ops W K (k :: ks) a := by
  have hput : ∀ v, a.put o.dst v = A → v = A.tmps.getD d undef := by
    intro v e
    rw [← e, hd]
    simp [Act.put, hlt]
  obtain ⟨v0, _, e0⟩ := h W (Below.refl _ _)
  have hv0 := hput v0 e0
  refine ⟨o, ho, hw, v0, fun w hw' => ?_, by rw [e0]; exact hn⟩
  obtain ⟨v, h1, e1⟩ := h w hw'
  have hv := hput v e1
  rw [hv0, ← hv]
  exact h1 w (Cls.refl w)
end
end Go.Proofs.Ytdmmjmdnljhooaa.Qa
