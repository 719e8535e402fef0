/- A region that draws its order, each of whose operations leaves in a slot of its own a value that fits a predicate of the world (and goes on fitting it in later worlds), whatever values that fit theirs stand in the slots it looks at: so literals with slices within ('[]Mesh{{Points: []Vec{..}}, ..}'), whose values hang on where the blocks come to lie, are shown without asking in which order. No program is named here. -/
import Derived.Test.YtdmmjmdnljhooaaQf
set_option linter.unusedVariables false
set_option linter.unusedSimpArgs false
namespace Go.Proofs.Ytdmmjmdnljhooaa.Qr
open Go.RowKit Go.Sort Qb Qt Qa Qf

/-- what an operation leaves -/
def relUpon (P : Program) (Φ : World → Value → Prop) (w : World) : Result Next → Prop
  | .ok (.value u) w' => Φ w' u ∧ Below w.heap.size w w'
  | .ok (.enter f args) w' => Calls P f args w' (fun e w'' => ∃ v, e = .returned v ∧ Φ w'' v ∧ Below w.heap.size w w'')
  | _ => False
/-- one operation: in every later world, whatever fits in its slots -/
def StepOK (P : Program) (ops : Array Oper) (Φ : Nat → World → Value → Prop) (W : World) (a : Act) (k : Nat) (o : Oper) : Prop :=
  ∀ (b : Act) (w : World), Below W.heap.size W w → (∀ s ∈ o.looksAt ops, ∀ k', dstOf ops k' = some s → Φ k' w (b.eval (.tmp s))) → (∀ s, (∀ k', dstOf ops k' ≠ some s) → b.tmps[s]? = a.tmps[s]?) → relUpon P (Φ k) w ((execOp b.eval o).run P w)
def Steps (P : Program) (ops : Array Oper) (Φ : Nat → World → Value → Prop) (W : World) (a : Act) : Nat → List Oper → Prop
  | _, [] => True
  | k, o :: r => StepOK P ops Φ W a k o ∧ Steps P ops Φ W a (k + 1) r
def putsL (V : Nat → Value) : Nat → List Oper → Act → Act
  | _, [], a => a
  | k, o :: r, a => putsL V (k + 1) r (a.put o.dst (V k))
theorem steps_at {P : Program} {ops : Array Oper} {Φ : Nat → World → Value → Prop} {W : World} {a : Act} : ∀ (l : List Oper) (k : Nat), Steps P ops Φ W a k l → ∀ i o, l[i]? = some o → StepOK P ops Φ W a (k + i) o := by
  intro l
  induction l with
  | nil => intro k _ i o h; simp at h
  | cons x l ih =>
    intro k h i o ho
    cases i with
    | zero => simp at ho; subst ho; exact h.1
    | succ i => rw [show k + (i + 1) = k + 1 + i by omega]; exact ih (k + 1) h.2 i o (by simpa using ho)
theorem putsL_size (V : Nat → Value) : ∀ (l : List Oper) (k : Nat) (a : Act), (putsL V k l a).tmps.size = a.tmps.size := by
  intro l; induction l with
  | nil => intro k a; rfl
  | cons x l ih => intro k a; rw [putsL, ih, put_size]
theorem putsL_defers (V : Nat → Value) : ∀ (l : List Oper) (k : Nat) (a : Act), (putsL V k l a).defers = a.defers := by
  intro l; induction l with
  | nil => intro k a; rfl
  | cons x l ih => intro k a; rw [putsL, ih, put_defers]
theorem putsL_ne (V : Nat → Value) (s : Tmp) : ∀ (l : List Oper) (k : Nat) (a : Act), (∀ (i : Nat) (o : Oper), l[i]? = some o → o.dst ≠ some s) → (putsL V k l a).tmps[s]? = a.tmps[s]? := by
  intro l; induction l with
  | nil => intro k a _; rfl
  | cons x l ih => intro k a h; rw [putsL, ih _ _ (fun i o ho => h (i + 1) o (by simpa using ho)), put_ne _ _ _ _ (h 0 x rfl)]
theorem putsL_at (V : Nat → Value) (d : Tmp) : ∀ (l : List Oper) (k : Nat) (a : Act) (i : Nat) (o : Oper), l[i]? = some o → o.dst = some d → d < a.tmps.size → (∀ (j : Nat) (o' : Oper), l[j]? = some o' → o'.dst = some d → j = i) → (putsL V k l a).tmps[d]? = some (V (k + i)) := by
  intro l; induction l with
  | nil => intro k a i o h; simp at h
  | cons x l ih =>
    intro k a i o ho hd hlt hu
    rw [putsL]
    cases i with
    | zero =>
      simp at ho; subst ho
      rw [putsL_ne V d l _ _ (fun j o' hj e => by have := hu (j + 1) o' (by simpa using hj) e; omega), hd, put_same _ _ _ hlt]; rfl
    | succ i =>
      rw [show k + (i + 1) = k + 1 + i by omega]
      exact ih _ _ i o (by simpa using ho) hd (by rw [put_size]; exact hlt) (fun j o' hj e => by have := hu (j + 1) o' (by simpa using hj) e; omega)

section
variable {P : Program} {ops : Array Oper} {W : World} {md : Region.Mode} {N : Nat} {Φ : Nat → World → Value → Prop}
structure FitR (md : Region.Mode) (ops : Array Oper) (N : Nat) : Prop where
  sel : Region.noSelect ops = true
  gd : ∀ (k : Nat) (o : Oper), ops[k]? = some o → o.guard = none
  back : ∀ (k : Nat) (o : Oper), ops[k]? = some o → ∀ e ∈ o.after, Region.binds md e = true → e.on < k
  dsts : ∀ k k' d, dstOf ops k = some d → dstOf ops k' = some d → k = k'
  has : ∀ k, k < ops.size → ∃ d, dstOf ops k = some d ∧ d < N
  look : ∀ (k : Nat) (o : Oper), ops[k]? = some o → ∀ s ∈ o.looksAt ops, ∀ k', dstOf ops k' = some s → ∃ e ∈ o.after, Region.binds md e = true ∧ e.on = k'
def relB (md : Region.Mode) (ops : Array Oper) (N : Nat) : Bool :=
  Region.noSelect ops &&
  (ops.all fun o => o.guard.isNone) &&
  (upto ops.size fun k => ((ops[k]?).map fun o => o.after.all fun e => !Region.binds md e || decide (e.on < k)).getD false) &&
  (upto ops.size fun k => upto ops.size fun k' => k == k' || (match dstOf ops k with | none => true | some d => dstOf ops k' != some d)) &&
  (upto ops.size fun k => match dstOf ops k with | none => false | some d => decide (d < N)) &&
  (upto ops.size fun k => ((ops[k]?).map fun o => (o.looksAt ops).all fun s => upto ops.size fun k' => dstOf ops k' != some s || edgeB md o k').getD true)
theorem fitR_of (h : relB md ops N = true) : FitR md ops N := by
  unfold relB at h
  simp only [Bool.and_eq_true] at h
  obtain ⟨⟨⟨⟨⟨h1, h2⟩, h3⟩, h4⟩, h5⟩, h6⟩ := h
  refine ⟨h1, ?_, ?_, ?_, ?_, ?_⟩
  · intro k o ho
    have := Array.all_eq_true_iff_forall_mem.1 h2 o (Array.mem_of_getElem? ho)
    simpa using this
  · intro k o ho e he hb
    have hk : k < ops.size := (Array.getElem?_eq_some_iff.1 ho).1
    have := upto_spec h3 k hk
    rw [ho] at this
    simp only [Option.map_some, Option.getD_some] at this
    have := Array.all_eq_true_iff_forall_mem.1 this e he
    simpa [hb] using this
  · intro k k' d hd hd'
    have := upto_spec (upto_spec h4 k (dstOf_lt hd)) k' (dstOf_lt hd')
    rw [hd, hd'] at this
    simpa using this
  · intro k hk
    have := upto_spec h5 k hk
    cases hd : dstOf ops k with
    | none => rw [hd] at this; simp at this
    | some d => rw [hd] at this; exact ⟨d, rfl, by simpa using this⟩
  · intro k o ho s hs k' hk'
    have := upto_spec h6 k (Array.getElem?_eq_some_iff.1 ho).1
    rw [ho] at this
    simp only [Option.map_some, Option.getD_some] at this
    have := upto_spec (List.all_eq_true.1 this s hs) k' (dstOf_lt hk')
    rw [hk'] at this
    simp only [bne_self_eq_false, Bool.false_or] at this
    exact edge_spec this

structure InvR (ops : Array Oper) (W : World) (Φ : Nat → World → Value → Prop) (a0 : Act) (t : Array Bool) (a : Act) (w : World) : Prop where
  tsz : t.size = ops.size
  defs : a.defers = a0.defers
  sz : a.tmps.size = a0.tmps.size
  keep : ∀ s, (∀ k, dstOf ops k = some s → t.getD k false = false) → a.tmps[s]? = a0.tmps[s]?
  got : ∀ k, t.getD k false = true → ∀ d, dstOf ops k = some d → ∃ v, a.tmps[d]? = some v ∧ Φ k w v
  below : Below W.heap.size W w
theorem InvR.step {a0 : Act} {K : Act → World → Prop} {R : Exit → Act → World → Prop} (F : FitR md ops N) (hN : a0.tmps.size = N) (mono : ∀ k v w1 w2, Φ k w1 v → Below w1.heap.size w1 w2 → Φ k w2 v)
    (hst : ∀ k o, ops[k]? = some o → StepOK P ops Φ W a0 k o) {t : Array Bool} {a : Act} {w : World} (I : InvR ops W Φ a0 t a w) {k : Nat} (hk : k ∈ Region.ready md ops t)
    (h : ∀ a' w', InvR ops W Φ a0 (t.setIfInBounds k true) a' w' → K a' w') : wpOp P ops R k K a w := by
  obtain ⟨hkt, o, ho, hed⟩ := mem_ready.1 hk
  have hkn : k < ops.size := (Array.getElem?_eq_some_iff.1 ho).1
  have hwt : ∀ f, Region.wanted o f = true := fun f => by simp [Region.wanted, F.gd k o ho]
  obtain ⟨d, hd, hdN⟩ := F.has k hkn
  have hod : o.dst = some d := by rw [← dstOf_of ho]; exact hd
  have hkt' : k < t.size := by rw [I.tsz]; exact hkn
  have hlt : d < a.tmps.size := by rw [I.sz, hN]; exact hdN
  have hdep : ∀ s ∈ o.looksAt ops, ∀ k', dstOf ops k' = some s → Φ k' w (a.eval (.tmp s)) := by
    intro s hs k' hk'
    obtain ⟨e, he, hb, hon⟩ := F.look k o ho s hs k' hk'
    have ht := hed e he hb
    rw [hon] at ht
    obtain ⟨v, hv, hp⟩ := I.got k' ht s hk'
    simpa [Act.eval, Array.getD_eq_getD_getElem?, hv] using hp
  have hr := hst k o ho a w I.below hdep (fun s hs => I.keep s fun k' hk' => absurd hk' (hs k'))
  have next : ∀ v w', Φ k w' v → Below w.heap.size w w' → K (a.put o.dst v) w' := by
    intro v w' hp hb
    refine h _ _ ⟨by simp [I.tsz], by rw [put_defers]; exact I.defs, by rw [put_size]; exact I.sz, fun s hs => ?_, fun k' ht d' hd' => ?_, I.below.trans (hb.mono I.below.size)⟩
    · have hne : o.dst ≠ some s := fun e => by have := hs k (by rw [dstOf_of ho]; exact e); rw [set_at hkt'] at this; cases this
      rw [put_ne _ _ _ _ hne]
      refine I.keep s fun k' hk' => ?_
      cases ht : t.getD k' false
      · rfl
      · have := hs k' hk'; rw [set_mono ht] at this; cases this
    · rcases set_or ht with rfl | ht
      · have e : d' = d := Option.some.inj (hd'.symm.trans hd)
        subst e
        exact ⟨v, by rw [hod, put_same _ _ _ hlt], hp⟩
      · by_cases e : d = d'
        · subst e
          obtain rfl := F.dsts _ _ _ hd' hd
          exact ⟨v, by rw [hod, put_same _ _ _ hlt], hp⟩
        · obtain ⟨u, hu, hup⟩ := I.got k' ht d' hd'
          exact ⟨u, by rw [hod, put_ne _ _ _ _ (fun e2 => e (Option.some.inj e2))]; exact hu, mono _ _ _ _ hup hb⟩
  unfold wpOp
  simp only [ho, hwt, if_true]
  refine .inl ?_
  unfold Oper.wp
  generalize (execOp a.eval o).run P w = r at hr
  cases r with
  | halt x w' => simp only [relUpon] at hr
  | ok nx w' =>
    cases nx <;> simp only [relUpon] at hr
    case value u => exact next u w' hr.1 hr.2
    case enter f args =>
      refine hr.mono ?_
      rintro e w'' ⟨v, rfl, hp, hb⟩
      exact next v w'' hp hb
end

/-- THE LAW -/
theorem wp_region_rel {P : Program} {id : Nat} {Q : Exit → Act → World → Prop} {a : Act} {w : World} {l : List Oper} (N : Nat) (Φ : Nat → World → Value → Prop) (hm : P.follows .mixedOrders = true) (hN : a.tmps.size = N)
    (hB : relB .any l.toArray N = true) (mono : ∀ k v w1 w2, Φ k w1 v → Below w1.heap.size w1 w2 → Φ k w2 v) (hst : Steps P l.toArray Φ w a 0 l)
    (h : ∀ (V : Nat → Value) (w' : World), Below w.heap.size w w' → (∀ k, k < l.length → Φ k w' (V k)) → wpList P l.toArray Q [] (putsL V 0 l a) w') : (Code.region id l.toArray true).wp P Q a w := by
  have F := fitR_of hB
  have hst' : ∀ k o, l.toArray[k]? = some o → StepOK P l.toArray Φ w a k o := fun k o ho => by
    have := steps_at l 0 hst k o (by simpa using ho)
    rwa [Nat.zero_add] at this
  refine wp_region_any hm ?_
  have over : ∀ (t : Array Bool) (b : Act) (w' : World), Region.ready .any l.toArray t = [] → InvR l.toArray w Φ a t b w' → Q .normal b w' := by
    intro t b w' hr I
    have hall : ∀ k, k < l.toArray.size → t.getD k false = true := by
      intro k
      induction k using Nat.strongRecOn with
      | ind k ih =>
        intro hk
        cases ht : t.getD k false
        · have : k ∈ Region.ready .any l.toArray t := mem_ready.2 ⟨getD_in (by rw [I.tsz]; exact hk) ht, l.toArray[k], Array.getElem?_eq_getElem hk, fun e he hb => by
            have h1 := F.back k l.toArray[k] (Array.getElem?_eq_getElem hk) e he hb
            exact ih _ h1 (by omega)⟩
          rw [hr] at this; cases this
        · rfl
    have hV : ∃ V : Nat → Value, ∀ k d, dstOf l.toArray k = some d → b.tmps[d]? = some (V k) ∧ Φ k w' (V k) := by
      refine ⟨fun k => b.tmps.getD ((dstOf l.toArray k).getD 0) undef, fun k d hd => ?_⟩
      obtain ⟨v, hv, hp⟩ := I.got k (hall k (dstOf_lt hd)) d hd
      simp only [hd, Option.getD_some, Array.getD_eq_getD_getElem?, hv]
      exact ⟨trivial, hp⟩
    obtain ⟨V, hV⟩ := hV
    have hdl : ∀ i o, l[i]? = some o → dstOf l.toArray i = o.dst := fun i o ho => dstOf_of (by simpa using ho)
    have hb : b = putsL V 0 l a := by
      have e1 : b.tmps = (putsL V 0 l a).tmps := by
        apply Array.ext_getElem?
        intro s
        by_cases h1 : ∃ k, dstOf l.toArray k = some s
        · obtain ⟨k, hk⟩ := h1
          have hkl : k < l.length := by have := dstOf_lt hk; simpa using this
          have ho : l[k]? = some l[k] := by simp [hkl]
          have e2 := putsL_at V s l 0 a k l[k] ho (by rw [← hdl k _ ho]; exact hk) (by
            obtain ⟨d', hd', hlt⟩ := F.has k (dstOf_lt hk)
            have : d' = s := Option.some.inj (hd'.symm.trans hk)
            rw [hN, ← this]; exact hlt) (fun j o' hj e => F.dsts j k s (by rw [hdl j o' hj]; exact e) hk)
          rw [e2, Nat.zero_add]
          exact (hV k s hk).1
        · rw [putsL_ne V s l 0 a (fun i o ho e => h1 ⟨i, by rw [hdl i o ho]; exact e⟩)]
          exact I.keep s fun k hk => absurd ⟨k, hk⟩ h1
      have e2 : b.defers = (putsL V 0 l a).defers := by rw [putsL_defers]; exact I.defs
      generalize putsL V 0 l a = c at e1 e2
      cases b; cases c; simp only at e1 e2; rw [e1, e2]
    rw [hb]
    refine h V w' I.below fun k hk => ?_
    obtain ⟨d, hd, _⟩ := F.has k (by simpa using hk)
    exact (hV k d hd).2
  have run : ∀ (f : Nat) (r : List Nat) (t : Array Bool) (b : Act) (w' : World), r.length ≤ f → (∀ k, k < l.toArray.size → t.getD k false = false → k ∈ r) → InvR l.toArray w Φ a t b w' → wpAny P .any l.toArray Q f t b w' := by
    intro f
    induction f with
    | zero =>
      intro r t b w' hl hr I
      have hnil : r = [] := List.length_eq_zero_iff.1 (by omega)
      have : Region.ready .any l.toArray t = [] := by
        apply List.eq_nil_iff_forall_not_mem.2
        intro k hk
        obtain ⟨h1, o, ho, _⟩ := mem_ready.1 hk
        have := hr k (Array.getElem?_eq_some_iff.1 ho).1 (getD_both h1)
        rw [hnil] at this; cases this
      exact ⟨this, over t b w' this I⟩
    | succ f ih =>
      intro r t b w' hl hr I
      refine ⟨fun h0 => over t b w' h0 I, fun k hk => InvR.step F hN mono hst' I hk fun b' w'' I' => ?_⟩
      obtain ⟨h1, o, ho, _⟩ := mem_ready.1 hk
      have hkr := hr k (Array.getElem?_eq_some_iff.1 ho).1 (getD_both h1)
      refine ih (r.erase k) _ b' w'' (by rw [List.length_erase_of_mem hkr]; omega) (fun j hj ht => ?_) I'
      by_cases e : k = j
      · subst e
        rw [set_at (by rw [I.tsz]; exact hj)] at ht; cases ht
      · rw [getD_set_ne false e] at ht
        exact (List.mem_erase_of_ne (Ne.symm e)).2 (hr j hj ht)
  refine run _ (List.range l.toArray.size) _ _ _ (by simp) (fun k hk _ => List.mem_range.2 hk) ⟨by simp, rfl, rfl, fun s _ => rfl, fun k ht => ?_, ⟨rfl, rfl, rfl, Nat.le_refl _, fun _ _ => rfl⟩⟩
  rw [getD_replicate_false] at ht; cases ht

/-! ### with one operation behind all the others ('p := &T{..make..}': the store) -/
structure FitT (md : Region.Mode) (ops : Array Oper) (N n : Nat) : Prop where
  sz : ops.size = n + 1
  sel : Region.noSelect ops = true
  gd : ∀ (k : Nat) (o : Oper), ops[k]? = some o → o.guard = none
  back : ∀ (k : Nat) (o : Oper), ops[k]? = some o → ∀ e ∈ o.after, Region.binds md e = true → e.on < k
  dsts : ∀ k k' d, dstOf ops k = some d → dstOf ops k' = some d → k = k'
  has : ∀ k, k < n → ∃ d, dstOf ops k = some d ∧ d < N
  last : dstOf ops n = none
  look : ∀ (k : Nat) (o : Oper), k < n → ops[k]? = some o → ∀ s ∈ o.looksAt ops, ∀ k', dstOf ops k' = some s → ∃ e ∈ o.after, Region.binds md e = true ∧ e.on = k'
  sink : ∀ k, k < n → ∃ k2 o, k < k2 ∧ ops[k2]? = some o ∧ ∃ e ∈ o.after, Region.binds md e = true ∧ e.on = k
def tailB (md : Region.Mode) (ops : Array Oper) (N n : Nat) : Bool :=
  decide (ops.size = n + 1) && Region.noSelect ops &&
  (ops.all fun o => o.guard.isNone) &&
  (upto ops.size fun k => ((ops[k]?).map fun o => o.after.all fun e => !Region.binds md e || decide (e.on < k)).getD false) &&
  (upto ops.size fun k => upto ops.size fun k' => k == k' || (match dstOf ops k with | none => true | some d => dstOf ops k' != some d)) &&
  (upto n fun k => match dstOf ops k with | none => false | some d => decide (d < N)) && (dstOf ops n).isNone &&
  (upto n fun k => ((ops[k]?).map fun o => (o.looksAt ops).all fun s => upto ops.size fun k' => dstOf ops k' != some s || edgeB md o k').getD true) &&
  (upto n fun k => (List.range (n + 1)).any fun k2 => decide (k < k2) && ((ops[k2]?).map fun o => edgeB md o k).getD false)
theorem fitT_of {md : Region.Mode} {ops : Array Oper} {N n : Nat} (h : tailB md ops N n = true) : FitT md ops N n := by
  unfold tailB at h
  simp only [Bool.and_eq_true] at h
  obtain ⟨⟨⟨⟨⟨⟨⟨⟨h0, h1⟩, h2⟩, h3⟩, h4⟩, h5⟩, h6⟩, h7⟩, h8⟩ := h
  refine ⟨by simpa using h0, h1, ?_, ?_, ?_, ?_, by simpa using h6, ?_, ?_⟩
  · intro k o ho
    have := Array.all_eq_true_iff_forall_mem.1 h2 o (Array.mem_of_getElem? ho)
    simpa using this
  · intro k o ho e he hb
    have hk : k < ops.size := (Array.getElem?_eq_some_iff.1 ho).1
    have := upto_spec h3 k hk
    rw [ho] at this
    simp only [Option.map_some, Option.getD_some] at this
    have := Array.all_eq_true_iff_forall_mem.1 this e he
    simpa [hb] using this
  · intro k k' d hd hd'
    have := upto_spec (upto_spec h4 k (dstOf_lt hd)) k' (dstOf_lt hd')
    rw [hd, hd'] at this
    simpa using this
  · intro k hk
    have := upto_spec h5 k hk
    cases hd : dstOf ops k with
    | none => rw [hd] at this; simp at this
    | some d => rw [hd] at this; exact ⟨d, rfl, by simpa using this⟩
  · intro k o hk ho s hs k' hk'
    have := upto_spec h7 k hk
    rw [ho] at this
    simp only [Option.map_some, Option.getD_some] at this
    have := upto_spec (List.all_eq_true.1 this s hs) k' (dstOf_lt hk')
    rw [hk'] at this
    simp only [bne_self_eq_false, Bool.false_or] at this
    exact edge_spec this
  · intro k hk
    have := upto_spec h8 k hk
    simp only [List.any_eq_true, Bool.and_eq_true, decide_eq_true_eq] at this
    obtain ⟨k2, _, h1, h2⟩ := this
    cases ho : ops[k2]? with
    | none => rw [ho] at h2; simp at h2
    | some o =>
      rw [ho] at h2
      simp only [Option.map_some, Option.getD_some] at h2
      exact ⟨k2, o, h1, ho, edge_spec h2⟩
structure InvT (md : Region.Mode) (ops : Array Oper) (n : Nat) (W : World) (Φ : Nat → World → Value → Prop) (a0 : Act) (t : Array Bool) (a : Act) (w : World) : Prop where
  r : InvR ops W Φ a0 t a w
  last : t.getD n false = false
  wait : ∀ (k : Nat) (o : Oper), ops[k]? = some o → t.getD k false = true → ∀ e ∈ o.after, Region.binds md e = true → t.getD e.on false = true
theorem wpAny_done {P : Program} {md : Region.Mode} {ops : Array Oper} {Q : Exit → Act → World → Prop} {t : Array Bool} {a : Act} {w : World} (hr : Region.ready md ops t = []) (h : Q .normal a w) : ∀ f, wpAny P md ops Q f t a w
  | 0 => ⟨hr, h⟩
  | f + 1 => ⟨fun _ => h, fun i hi => by rw [hr] at hi; cases hi⟩
theorem wpList_one {P : Program} {ops : Array Oper} {Q : Exit → Act → World → Prop} {K : Act → World → Prop} {k : Nat} {o : Oper} {a : Act} {w : World} (ho : ops[k]? = some o) (h : wpList P ops Q [o] a w) (hK : ∀ a w, Q .normal a w → K a w) : wpOp P ops Q k K a w := by
  unfold wpOp
  simp only [ho]
  unfold wpList at h
  split
  · rename_i hw
    rw [if_pos hw] at h
    rcases h with h | h
    · exact .inl (Oper.wp_mono (fun a w hq => hK a w hq) h)
    · exact .inr h
  · rename_i hw
    rw [if_neg hw] at h
    exact hK _ _ h

/-- THE LAW, with one operation behind all the others -/
theorem wp_region_rel_tail {P : Program} {id : Nat} {Q : Exit → Act → World → Prop} {a : Act} {w : World} {l : List Oper} (N n : Nat) (Φ : Nat → World → Value → Prop) (hm : P.follows .mixedOrders = true) (hN : a.tmps.size = N)
    (hB : tailB .any l.toArray N n = true) (mono : ∀ k v w1 w2, Φ k w1 v → Below w1.heap.size w1 w2 → Φ k w2 v) (hst : Steps P l.toArray Φ w a 0 (l.take n))
    (h : ∀ (V : Nat → Value) (w' : World), Below w.heap.size w w' → (∀ k, k < n → Φ k w' (V k)) → wpList P l.toArray Q (l.drop n) (putsL V 0 (l.take n) a) w') : (Code.region id l.toArray true).wp P Q a w := by
  have F := fitT_of hB
  have hsz : l.length = n + 1 := by simpa using F.sz
  have hst' : ∀ k o, k < n → l.toArray[k]? = some o → StepOK P l.toArray Φ w a k o := fun k o hk ho => by
    have := steps_at (l.take n) 0 hst k o (by rw [List.getElem?_take_of_lt hk]; simpa using ho)
    rwa [Nat.zero_add] at this
  refine wp_region_any hm ?_
  obtain ⟨ol, hol⟩ : ∃ o, l.toArray[n]? = some o := ⟨l.toArray[n]'(by rw [F.sz]; omega), by simp [hsz]⟩
  have hdrop : l.drop n = [ol] := by
    have hlt : n < l.length := by omega
    rw [List.drop_eq_getElem_cons hlt, List.drop_eq_nil_of_le (by omega)]
    have : l[n]? = some ol := by simpa using hol
    rw [List.getElem?_eq_getElem hlt] at this
    rw [Option.some.inj this]
  -- when the last is ready all else is listed
  have front : ∀ (t : Array Bool) (b : Act) (w' : World), InvT .any l.toArray n w Φ a t b w' → n ∈ Region.ready .any l.toArray t → ∀ k, k < n → t.getD k false = true := by
    intro t b w' I hn
    obtain ⟨_, o, ho, hed⟩ := mem_ready.1 hn
    have key : ∀ m k, k + m = n → 0 < m → t.getD k false = true := by
      intro m
      induction m using Nat.strongRecOn with
      | ind m ih =>
        intro k hk hm0
        obtain ⟨k2, o2, h1, ho2, e, he, hb, hon⟩ := F.sink k (by omega)
        have hk2 : k2 < n + 1 := by have := (Array.getElem?_eq_some_iff.1 ho2).1; rw [F.sz] at this; exact this
        rcases Nat.lt_or_ge k2 n with h2 | h2
        · have := I.wait k2 o2 ho2 (ih (n - k2) (by omega) k2 (by omega) (by omega)) e he hb
          rwa [hon] at this
        · obtain rfl : k2 = n := by omega
          obtain rfl : o2 = o := Option.some.inj (ho2.symm.trans ho)
          have := hed e he hb
          rwa [hon] at this
    intro k hk
    exact key (n - k) k (by omega) (by omega)
  have run : ∀ (f : Nat) (r : List Nat) (t : Array Bool) (b : Act) (w' : World), r.length ≤ f → (∀ k, k < l.toArray.size → t.getD k false = false → k ∈ r) → InvT .any l.toArray n w Φ a t b w' → wpAny P .any l.toArray Q f t b w' := by
    intro f
    induction f with
    | zero =>
      intro r t b w' hl hr I
      have hnil : r = [] := List.length_eq_zero_iff.1 (by omega)
      have := hr n (by rw [F.sz]; omega) I.last
      rw [hnil] at this; cases this
    | succ f ih =>
      intro r t b w' hl hr I
      refine ⟨fun h0 => ?_, fun k hk => ?_⟩
      · -- something is always ready
        exfalso
        have hall : ∀ k, k < l.toArray.size → t.getD k false = true := by
          intro k
          induction k using Nat.strongRecOn with
          | ind k ih =>
            intro hk
            cases ht : t.getD k false
            · have : k ∈ Region.ready .any l.toArray t := mem_ready.2 ⟨getD_in (by rw [I.r.tsz]; exact hk) ht, l.toArray[k], Array.getElem?_eq_getElem hk, fun e he hb => by
                have h1 := F.back k l.toArray[k] (Array.getElem?_eq_getElem hk) e he hb
                exact ih _ h1 (by omega)⟩
              rw [h0] at this; cases this
            · rfl
        have := hall n (by rw [F.sz]; omega)
        rw [I.last] at this; cases this
      obtain ⟨hkt, o, ho, hed⟩ := mem_ready.1 hk
      have hks : k < l.toArray.size := (Array.getElem?_eq_some_iff.1 ho).1
      have hkr := hr k hks (getD_both hkt)
      rcases Nat.lt_or_ge k n with hkn | hkn
      · -- one of the front
        obtain ⟨d, hd, hdN⟩ := F.has k hkn
        have hod : o.dst = some d := by rw [← dstOf_of ho]; exact hd
        have hkt' : k < t.size := by rw [I.r.tsz]; exact hks
        have hlt : d < b.tmps.size := by rw [I.r.sz, hN]; exact hdN
        have hwt : ∀ f, Region.wanted o f = true := fun f => by simp [Region.wanted, F.gd k o ho]
        have hdep : ∀ s ∈ o.looksAt l.toArray, ∀ k', dstOf l.toArray k' = some s → Φ k' w' (b.eval (.tmp s)) := by
          intro s hs k' hk'
          obtain ⟨e, he, hb, hon⟩ := F.look k o hkn ho s hs k' hk'
          have ht := hed e he hb
          rw [hon] at ht
          obtain ⟨v, hv, hp⟩ := I.r.got k' ht s hk'
          simpa [Act.eval, Array.getD_eq_getD_getElem?, hv] using hp
        have hr' := hst' k o hkn ho b w' I.r.below hdep (fun s hs => I.r.keep s fun k' hk' => absurd hk' (hs k'))
        have next : ∀ v w'', Φ k w'' v → Below w'.heap.size w' w'' → wpAny P .any l.toArray Q f (t.setIfInBounds k true) (b.put o.dst v) w'' := by
          intro v w'' hp hbb
          refine ih (r.erase k) _ _ _ (by rw [List.length_erase_of_mem hkr]; omega) (fun j hj ht => ?_) ⟨⟨by simp [I.r.tsz], by rw [put_defers]; exact I.r.defs, by rw [put_size]; exact I.r.sz, fun s hs => ?_, fun k' ht d' hd' => ?_, I.r.below.trans (hbb.mono I.r.below.size)⟩, ?_, ?_⟩
          · by_cases e : k = j
            · subst e; rw [set_at hkt'] at ht; cases ht
            · rw [getD_set_ne false e] at ht
              exact (List.mem_erase_of_ne (Ne.symm e)).2 (hr j hj ht)
          · have hne : o.dst ≠ some s := fun e => by have := hs k (by rw [dstOf_of ho]; exact e); rw [set_at hkt'] at this; cases this
            rw [put_ne _ _ _ _ hne]
            refine I.r.keep s fun k' hk' => ?_
            cases ht : t.getD k' false
            · rfl
            · have := hs k' hk'; rw [set_mono ht] at this; cases this
          · rcases set_or ht with rfl | ht
            · have e : d' = d := Option.some.inj (hd'.symm.trans hd)
              subst e
              exact ⟨v, by rw [hod, put_same _ _ _ hlt], hp⟩
            · by_cases e : d = d'
              · subst e
                obtain rfl := F.dsts _ _ _ hd' hd
                exact ⟨v, by rw [hod, put_same _ _ _ hlt], hp⟩
              · obtain ⟨u, hu, hup⟩ := I.r.got k' ht d' hd'
                exact ⟨u, by rw [hod, put_ne _ _ _ _ (fun e2 => e (Option.some.inj e2))]; exact hu, mono _ _ _ _ hup hbb⟩
          · rw [getD_set_ne false (by omega)]; exact I.last
          · intro k' o' ho' ht' e he hb
            rcases set_or ht' with rfl | ht'
            · obtain rfl : o' = o := Option.some.inj (ho'.symm.trans ho)
              exact set_mono (hed e he hb)
            · exact set_mono (I.wait k' o' ho' ht' e he hb)
        unfold wpOp
        simp only [ho, hwt, if_true]
        refine .inl ?_
        unfold Oper.wp
        generalize (execOp b.eval o).run P w' = res at hr'
        cases res with
        | halt x w'' => simp only [relUpon] at hr'
        | ok nx w'' =>
          cases nx <;> simp only [relUpon] at hr'
          case value u => exact next u w'' hr'.1 hr'.2
          case enter fn args =>
            refine hr'.mono ?_
            rintro e w3 ⟨v, rfl, hp, hbb⟩
            exact next v w3 hp hbb
      · -- the last
        obtain rfl : k = n := by rw [F.sz] at hks; omega
        have hall := front t b w' I hk
        obtain rfl : o = ol := Option.some.inj (ho.symm.trans hol)
        have hV : ∃ V : Nat → Value, ∀ j d, j < k → dstOf l.toArray j = some d → b.tmps[d]? = some (V j) ∧ Φ j w' (V j) := by
          refine ⟨fun j => b.tmps.getD ((dstOf l.toArray j).getD 0) undef, fun j d hj hd => ?_⟩
          obtain ⟨v, hv, hp⟩ := I.r.got j (hall j hj) d hd
          simp only [hd, Option.getD_some, Array.getD_eq_getD_getElem?, hv]
          exact ⟨trivial, hp⟩
        obtain ⟨V, hV⟩ := hV
        have hdl : ∀ i o, (l.take k)[i]? = some o → i < k ∧ dstOf l.toArray i = o.dst := fun i o ho => by
          have hik : i < k := by have := (List.getElem?_eq_some_iff.1 ho).1; rw [List.length_take] at this; omega
          rw [List.getElem?_take_of_lt hik] at ho
          exact ⟨hik, dstOf_of (by simpa using ho)⟩
        have hb : b = putsL V 0 (l.take k) a := by
          have e1 : b.tmps = (putsL V 0 (l.take k) a).tmps := by
            apply Array.ext_getElem?
            intro s
            by_cases h1 : ∃ j, j < k ∧ dstOf l.toArray j = some s
            · obtain ⟨j, hj, hjs⟩ := h1
              have ho2 : (l.take k)[j]? = some l[j] := by rw [List.getElem?_take_of_lt hj]; simp
              have e2 := putsL_at V s (l.take k) 0 a j l[j] ho2 (by rw [← (hdl j _ ho2).2]; exact hjs) (by
                obtain ⟨d', hd', hlt⟩ := F.has j hj
                have : d' = s := Option.some.inj (hd'.symm.trans hjs)
                rw [hN, ← this]; exact hlt) (fun i o' hi e => F.dsts i j s (by rw [(hdl i o' hi).2]; exact e) hjs)
              rw [e2, Nat.zero_add]
              exact (hV j s hj hjs).1
            · rw [putsL_ne V s (l.take k) 0 a (fun i o ho e => h1 ⟨i, (hdl i o ho).1, by rw [(hdl i o ho).2]; exact e⟩)]
              refine I.r.keep s fun j hj => ?_
              have hj1 := dstOf_lt hj
              rw [F.sz] at hj1
              rcases Nat.lt_or_ge j k with h2 | h2
              · exact absurd ⟨j, h2, hj⟩ h1
              · obtain rfl : j = k := by omega
                rw [F.last] at hj; cases hj
          have e2 : b.defers = (putsL V 0 (l.take k) a).defers := by rw [putsL_defers]; exact I.r.defs
          generalize putsL V 0 (l.take k) a = c at e1 e2
          cases b; cases c; simp only at e1 e2; rw [e1, e2]
        have hfin := h V w' I.r.below (fun j hj => by
          obtain ⟨d, hd, _⟩ := F.has j hj
          exact (hV j d hj hd).2)
        rw [hdrop, ← hb] at hfin
        refine wpList_one ho hfin fun a2 w2 hq => wpAny_done ?_ hq f
        apply List.eq_nil_iff_forall_not_mem.2
        intro j hj
        obtain ⟨h1, o3, ho3, _⟩ := mem_ready.1 hj
        have hjs := (Array.getElem?_eq_some_iff.1 ho3).1
        rw [F.sz] at hjs
        by_cases e : k = j
        · subst e
          have := set_at (t := t) (k := k) (by rw [I.r.tsz, F.sz]; omega)
          rw [getD_both h1] at this; cases this
        · have h2 := set_mono (k := k) (hall j (by omega))
          rw [getD_both h1] at h2; cases h2
  refine run _ (List.range l.toArray.size) _ _ _ (by simp) (fun k hk _ => List.mem_range.2 hk) ⟨⟨by simp, rfl, rfl, fun s _ => rfl, fun k ht => ?_, ⟨rfl, rfl, rfl, Nat.le_refl _, fun _ _ => rfl⟩⟩, getD_replicate_false _ _, fun k o _ ht => ?_⟩
  · rw [getD_replicate_false] at ht; cases ht
  · rw [getD_replicate_false] at ht; cases ht
end Go.Proofs.Ytdmmjmdnljhooaa.Qr
