/- A region that draws its order, whose operations are quiet ones, allocs of new blocks and one store into each new block, in ANY order that the binding edges leave ('a, b, c := l[i], l[j], l[k]' of structs): shown by an invariant of the operations done, each new block at a place of its own. No program is named here. -/
import Derived.Test.YtdmmjmdnljhooaaQa
import Derived.Laws.CopyOwn
set_option linter.unusedVariables false
set_option linter.unusedSimpArgs false
namespace Go.Proofs.Ytdmmjmdnljhooaa.Qf
open Go.RowKit Go.Sort Qb Qt Qa

/-- a new block: its alloc's number and slot, its first row, its type, its store's number, the slot of the row stored, that row -/
structure Nw where
  k : Nat
  d : Tmp
  old : Array Value
  T : TypeId
  j : Nat
  sv : Tmp
  row : Array Value

theorem lt_of_heap {w : World} {g : Nat} {o : Obj} (h : w.heap[g]? = some o) : g < w.heap.size := by
  rcases Nat.lt_or_ge g w.heap.size with h' | h'
  · exact h'
  · rw [Array.getElem?_eq_none h'] at h; cases h
theorem nodup_inj {α : Type} {f : α → Nat} : ∀ {l : List α}, (l.map f).Nodup → ∀ x ∈ l, ∀ y ∈ l, f x = f y → x = y := by
  intro l
  induction l with
  | nil => intro _ x hx; cases hx
  | cons z l ih =>
    intro hn x hx y hy e
    rw [List.map_cons, List.nodup_cons] at hn
    rcases List.mem_cons.1 hx with rfl | h1 <;> rcases List.mem_cons.1 hy with rfl | h2
    · rfl
    · exact absurd (List.mem_map.2 ⟨y, h2, e.symm⟩) hn.1
    · exact absurd (List.mem_map.2 ⟨x, h1, e⟩) hn.1
    · exact ih hn.2 x h1 y h2 e

section
variable {P : Program} {ops : Array Oper} {W : World} {md : Region.Mode}

def dstOf (ops : Array Oper) (k : Nat) : Option Tmp := (ops[k]?).bind (·.dst)
theorem dstOf_of {k : Nat} {o : Oper} (h : ops[k]? = some o) : dstOf ops k = o.dst := by simp [dstOf, h]
theorem dstOf_lt {k : Nat} {d : Tmp} (h : dstOf ops k = some d) : k < ops.size := by
  rcases Nat.lt_or_ge k ops.size with h1 | h1
  · exact h1
  · rw [dstOf, Array.getElem?_eq_none h1] at h; cases h
structure IsSt (P : Program) (o : Oper) (x : Nw) : Prop where
  op : ∃ ty, o.op = .store ty (.tmp x.d) (.tmp x.sv) ∧ (P.info? ty).map (·.size) = some x.row.size
  dst : o.dst = none
  guard : o.guard = none
  size : x.old.size = x.row.size
  one : x.row.all (·.oneCell') = true

structure Fits (md : Region.Mode) (ops : Array Oper) (N : Nat) (ks : List Nat) (als : List Nw) : Prop where
  sel : Region.noSelect ops = true
  gd : ∀ (k : Nat) (o : Oper), ops[k]? = some o → o.guard = none
  back : ∀ (k : Nat) (o : Oper), ops[k]? = some o → ∀ e ∈ o.after, Region.binds md e = true → e.on < k
  cover : ∀ k, k < ops.size → k ∈ ks ∨ ∃ x ∈ als, k = x.k ∨ k = x.j
  sorted : ks.Pairwise (· < ·)
  inn : ∀ k ∈ ks, k < ops.size
  dsts : ∀ k k' d, dstOf ops k = some d → dstOf ops k' = some d → k = k'
  fits : ∀ k d, dstOf ops k = some d → d < N
  look : ∀ k ∈ ks, ∀ (o : Oper), ops[k]? = some o → ∀ s ∈ o.looksAt ops, ∀ k', dstOf ops k' = some s → k' ∈ ks ∧ ∃ e ∈ o.after, Region.binds md e = true ∧ e.on = k'
  ak : ∀ x ∈ als, dstOf ops x.k = some x.d ∧ x.k ∉ ks ∧ x.j ∉ ks
  ajk : ∀ x ∈ als, ∀ (o : Oper), ops[x.j]? = some o → (∃ e ∈ o.after, Region.binds md e = true ∧ e.on = x.k) ∧ ∃ k' ∈ ks, dstOf ops k' = some x.sv ∧ ∃ e ∈ o.after, Region.binds md e = true ∧ e.on = k'
  ndk : (als.map (·.k)).Nodup
  ndj : (als.map (·.j)).Nodup
  nkj : ∀ x ∈ als, ∀ y ∈ als, x.k ≠ y.j

def upto (n : Nat) (f : Nat → Bool) : Bool := (List.range n).all f
theorem upto_spec {n : Nat} {f : Nat → Bool} (h : upto n f = true) (k : Nat) (hk : k < n) : f k = true := List.all_eq_true.1 h k (List.mem_range.2 hk)
def edgeB (md : Region.Mode) (o : Oper) (k : Nat) : Bool := o.after.any fun e => Region.binds md e && e.on == k
theorem edge_spec {o : Oper} {k : Nat} (h : edgeB md o k = true) : ∃ e ∈ o.after, Region.binds md e = true ∧ e.on = k := by
  unfold edgeB at h
  simp only [Array.any_eq_true', Bool.and_eq_true, beq_iff_eq] at h
  exact h
def freeB (md : Region.Mode) (ops : Array Oper) (N : Nat) (ks : List Nat) (als : List (Nat × Tmp × Nat × Tmp)) : Bool :=
  Region.noSelect ops &&
  (ops.all fun o => o.guard.isNone) &&
  (upto ops.size fun k => ((ops[k]?).map fun o => o.after.all fun e => !Region.binds md e || decide (e.on < k)).getD false) &&
  (upto ops.size fun k => ks.contains k || als.any fun x => k == x.1 || k == x.2.2.1) &&
  decide (ks.Pairwise (· < ·)) &&
  (ks.all fun k => decide (k < ops.size)) &&
  (upto ops.size fun k => upto ops.size fun k' => k == k' || (match dstOf ops k with | none => true | some d => dstOf ops k' != some d)) &&
  (upto ops.size fun k => match dstOf ops k with | none => true | some d => decide (d < N)) &&
  (ks.all fun k => ((ops[k]?).map fun o => (o.looksAt ops).all fun s => upto ops.size fun k' => dstOf ops k' != some s || (ks.contains k' && edgeB md o k')).getD true) &&
  (als.all fun x => dstOf ops x.1 == some x.2.1 && !ks.contains x.1 && !ks.contains x.2.2.1) &&
  (als.all fun x => ((ops[x.2.2.1]?).map fun o => edgeB md o x.1 && ks.any fun k' => dstOf ops k' == some x.2.2.2 && edgeB md o k').getD true) &&
  decide ((als.map (·.1)).Nodup) && decide ((als.map (·.2.2.1)).Nodup) &&
  (als.all fun x => als.all fun y => x.1 != y.2.2.1)

theorem fits_of {N : Nat} {ks : List Nat} {als : List Nw} (h : freeB md ops N ks (als.map fun x => (x.k, x.d, x.j, x.sv)) = true) : Fits md ops N ks als := by
  unfold freeB at h
  simp only [Bool.and_eq_true] at h
  obtain ⟨⟨⟨⟨⟨⟨⟨⟨⟨⟨⟨⟨⟨h1, h2⟩, h3⟩, h4⟩, h5⟩, h6⟩, h7⟩, h8⟩, h9⟩, h10⟩, h11⟩, h12⟩, h13⟩, h14⟩ := h
  refine ⟨h1, ?_, ?_, ?_, by simpa using h5, ?_, ?_, ?_, ?_, ?_, ?_, by simpa [List.map_map, Function.comp_def] using h12, by simpa [List.map_map, Function.comp_def] using h13, ?_⟩
  · intro k o ho
    have := Array.all_eq_true_iff_forall_mem.1 h2 o (Array.mem_of_getElem? ho)
    simpa using this
  · intro k o ho e he hb
    have hk : k < ops.size := (Array.getElem?_eq_some_iff.1 ho).1
    have := upto_spec h3 k hk
    rw [ho] at this
    simp only [Option.map_some, Option.getD_some] at this
    have := Array.all_eq_true_iff_forall_mem.1 this e he
    simpa [hb] using this
  · intro k hk
    have := upto_spec h4 k hk
    simp only [Bool.or_eq_true, List.any_map, List.any_eq_true, Function.comp_def, beq_iff_eq] at this
    rcases this with h | ⟨x, hx, h⟩
    · exact .inl (by simpa using h)
    · exact .inr ⟨x, hx, h⟩
  · intro k hk
    have := List.all_eq_true.1 h6 k hk
    simpa using this
  · intro k k' d hd hd'
    have := upto_spec (upto_spec h7 k (dstOf_lt hd)) k' (dstOf_lt hd')
    rw [hd, hd'] at this
    simpa using this
  · intro k d hd
    have := upto_spec h8 k (dstOf_lt hd)
    rw [hd] at this
    simpa using this
  · intro k hk o ho s hs k' hk'
    have := List.all_eq_true.1 h9 k hk
    rw [ho] at this
    simp only [Option.map_some, Option.getD_some] at this
    have := upto_spec (List.all_eq_true.1 this s hs) k' (dstOf_lt hk')
    rw [hk'] at this
    simp only [bne_self_eq_false, Bool.false_or, Bool.and_eq_true] at this
    exact ⟨by simpa using this.1, edge_spec this.2⟩
  · intro x hx
    have := List.all_eq_true.1 h10 _ (List.mem_map.2 ⟨x, hx, rfl⟩)
    simp only [Bool.and_eq_true, beq_iff_eq, Bool.not_eq_true'] at this
    exact ⟨this.1.1, by simpa using this.1.2, by simpa using this.2⟩
  · intro x hx o ho
    have := List.all_eq_true.1 h11 _ (List.mem_map.2 ⟨x, hx, rfl⟩)
    simp only [ho, Option.map_some, Option.getD_some, Bool.and_eq_true, List.any_eq_true, beq_iff_eq] at this
    obtain ⟨e1, k', hk', e2, e3⟩ := this
    exact ⟨edge_spec e1, k', hk', e2, edge_spec e3⟩
  · intro x hx y hy
    have := List.all_eq_true.1 (List.all_eq_true.1 h14 _ (List.mem_map.2 ⟨x, hx, rfl⟩)) _ (List.mem_map.2 ⟨y, hy, rfl⟩)
    simpa using this

/-! ### the quiet ones laid one after the other -/
def puts (ops : Array Oper) (V : Nat → Value) : List Nat → Act → Act
  | [], a => a
  | k :: ks, a => puts ops V ks (a.put (dstOf ops k) (V k))
theorem put_size (a : Act) (d : Option Tmp) (v : Value) : (a.put d v).tmps.size = a.tmps.size := by cases d <;> simp [Act.put]
theorem put_defers (a : Act) (d : Option Tmp) (v : Value) : (a.put d v).defers = a.defers := by cases d <;> rfl
theorem put_same (a : Act) (d : Tmp) (v : Value) (h : d < a.tmps.size) : (a.put (some d) v).tmps[d]? = some v := by simp [Act.put, h]
theorem put_ne (a : Act) (d : Option Tmp) (v : Value) (s : Tmp) (h : d ≠ some s) : (a.put d v).tmps[s]? = a.tmps[s]? := by
  cases d with
  | none => rfl
  | some d => exact Array.getElem?_setIfInBounds_ne (fun e => h (by rw [e]))
theorem puts_size (V : Nat → Value) : ∀ (ks : List Nat) (a : Act), (puts ops V ks a).tmps.size = a.tmps.size := by
  intro ks; induction ks with
  | nil => intro a; rfl
  | cons k ks ih => intro a; rw [puts, ih, put_size]
theorem puts_defers (V : Nat → Value) : ∀ (ks : List Nat) (a : Act), (puts ops V ks a).defers = a.defers := by
  intro ks; induction ks with
  | nil => intro a; rfl
  | cons k ks ih => intro a; rw [puts, ih, put_defers]
theorem puts_ne (V : Nat → Value) (s : Tmp) : ∀ (ks : List Nat) (a : Act), (∀ k ∈ ks, dstOf ops k ≠ some s) → (puts ops V ks a).tmps[s]? = a.tmps[s]? := by
  intro ks; induction ks with
  | nil => intro a _; rfl
  | cons k ks ih => intro a h; rw [puts, ih _ (fun k' hk' => h k' (List.mem_cons_of_mem _ hk')), put_ne _ _ _ _ (h k (by simp))]
theorem puts_at (V : Nat → Value) (d : Tmp) (k : Nat) (hd : dstOf ops k = some d) : ∀ (ks : List Nat) (a : Act), d < a.tmps.size → k ∈ ks → (∀ k' ∈ ks, dstOf ops k' = some d → k' = k) → (puts ops V ks a).tmps[d]? = some (V k) := by
  intro ks; induction ks with
  | nil => intro a _ h; cases h
  | cons k0 ks ih =>
    intro a hlt hk hu
    rw [puts]
    by_cases hin : k ∈ ks
    · exact ih _ (by rw [put_size]; exact hlt) hin (fun k' hk' => hu k' (List.mem_cons_of_mem _ hk'))
    · have : k = k0 := by rcases List.mem_cons.1 hk with h | h; exact h; exact absurd h hin
      subst this
      rw [puts_ne V d ks _ (fun k' hk' e => hin (hu k' (List.mem_cons_of_mem _ hk') e ▸ hk')), hd, put_same _ _ _ hlt]
theorem puts_congr (V V' : Nat → Value) : ∀ (ks : List Nat) (a : Act), (∀ k ∈ ks, V k = V' k) → puts ops V ks a = puts ops V' ks a := by
  intro ks; induction ks with
  | nil => intro a _; rfl
  | cons k ks ih => intro a h; rw [puts, puts, h k (by simp), ih _ (fun k' hk' => h k' (List.mem_cons_of_mem _ hk'))]
theorem exec_same {o : Oper} (hs : ∀ cs b, o.op ≠ .select cs b) {a b : Act} (h : ∀ s ∈ o.looksAt ops, a.tmps[s]? = b.tmps[s]?) : execOp a.eval o = execOp b.eval o :=
  execOp_congr o hs fun x hx => by
    cases x with
    | tmp t =>
      have := h t (List.mem_append_left _ (List.mem_filterMap.2 ⟨.tmp t, by simpa using hx, rfl⟩))
      simp only [Act.eval, Array.getD_eq_getD_getElem?, this]
    | const v => rfl
    | global g => rfl
    | func f => rfl

theorem Walk.puts_ {K : Act → Prop} (hsel : ∀ (j : Nat) (o : Oper) cs b, ops[j]? = some o → o.op ≠ .select cs b) :
    ∀ (ks : List Nat) (a : Act), ks.Pairwise (· < ·) → (∀ k ∈ ks, ∀ o, ops[k]? = some o → ∀ s ∈ o.looksAt ops, ∀ k', dstOf ops k' = some s → k' < k) → Walk P ops W K ks a →
      ∃ V : Nat → Value, K (puts ops V ks a) ∧ ∀ k ∈ ks, ∃ o, ops[k]? = some o ∧ Firm P W o (V k) (puts ops V ks a) := by
  intro ks
  induction ks with
  | nil => intro a _ _ h; exact ⟨fun _ => undef, h, fun k hk => by cases hk⟩
  | cons k ks ih =>
    intro a hp hl h
    rw [List.pairwise_cons] at hp
    obtain ⟨o, ho, _, v, hf, hw⟩ := h
    obtain ⟨V, hK, hV⟩ := ih _ hp.2 (fun k' hk' => hl k' (List.mem_cons_of_mem _ hk')) hw
    have hnk : k ∉ ks := fun hk => absurd (hp.1 k hk) (Nat.lt_irrefl _)
    have e1 : puts ops (fun j => if j = k then v else V j) (k :: ks) a = puts ops V ks (a.put o.dst v) := by
      rw [puts]
      simp only [if_true, dstOf_of ho]
      exact puts_congr _ _ ks _ (fun j hj => by rw [if_neg (fun e : j = k => hnk (by rw [← e]; exact hj))])
    refine ⟨fun j => if j = k then v else V j, by rw [e1]; exact hK, fun j hj => ?_⟩
    by_cases hjk : j = k
    · subst hjk
      refine ⟨o, ho, ?_⟩
      simp only [if_true]
      refine hf.of_same (exec_same (ops := ops) (fun cs b => hsel j o cs b ho) fun s hs => ?_)
      refine puts_ne _ s _ _ fun k' hk' e => ?_
      have h1 := hl j (by simp) o ho s hs k' e
      rcases List.mem_cons.1 hk' with rfl | h2
      · omega
      · have := hp.1 k' h2; omega
    · obtain ⟨o', ho', hf'⟩ := hV j (by rcases List.mem_cons.1 hj with h | h; exact absurd h hjk; exact h)
      refine ⟨o', ho', ?_⟩
      rw [e1]
      simp only [if_neg hjk]
      exact hf'

/-! ### the invariant -/
variable {N : Nat} {ks : List Nat} {als : List Nw}
structure Inv (md : Region.Mode) (ops : Array Oper) (W : World) (ks : List Nat) (als : List Nw) (a0 A : Act) (G : Nat → Nat) (t : Array Bool) (a : Act) (w : World) : Prop where
  tsz : t.size = ops.size
  defs : a.defers = a0.defers
  sz : a.tmps.size = a0.tmps.size
  keep : ∀ s, (∀ k, dstOf ops k = some s → t.getD k false = false) → a.tmps[s]? = a0.tmps[s]?
  quiet : ∀ k ∈ ks, t.getD k false = true → ∀ d, dstOf ops k = some d → a.tmps[d]? = A.tmps[d]?
  al : ∀ x ∈ als, t.getD x.k false = true → a.tmps[x.d]? = some (ptr (G x.k)) ∧ W.heap.size ≤ G x.k ∧ w.heap[G x.k]? = some (.cells (if t.getD x.j false = true then x.row else x.old) x.T)
  dist : ∀ x ∈ als, ∀ y ∈ als, x.k ≠ y.k → t.getD x.k false = true → t.getD y.k false = true → G x.k ≠ G y.k
  below : Below W.heap.size W w
  wait : ∀ (k : Nat) (o : Oper), ops[k]? = some o → t.getD k false = true → ∀ e ∈ o.after, Region.binds md e = true → t.getD e.on false = true
theorem set_at {t : Array Bool} {k : Nat} (hk : k < t.size) : (t.setIfInBounds k true).getD k false = true := by simp [Array.getD_eq_getD_getElem?, hk]
theorem set_or {t : Array Bool} {k j : Nat} (h : (t.setIfInBounds k true).getD j false = true) : j = k ∨ t.getD j false = true := by
  by_cases e : k = j
  · exact .inl e.symm
  · rw [getD_set_ne false e] at h; exact .inr h
theorem set_mono {t : Array Bool} {k j : Nat} (h : t.getD j false = true) : (t.setIfInBounds k true).getD j false = true := by
  by_cases e : k = j
  · subst e
    refine set_at ?_
    rcases Nat.lt_or_ge k t.size with h1 | h1
    · exact h1
    · rw [Array.getD_eq_getD_getElem?, Array.getElem?_eq_none h1] at h; cases h
  · rw [getD_set_ne false e]; exact h

/-- one step, whatever is ready -/
theorem Inv.step {a0 A : Act} {V : Nat → Value} {K : Act → World → Prop} {R : Exit → Act → World → Prop} (F : Fits md ops N ks als) (hN : a0.tmps.size = N) (hA : A = puts ops V ks a0)
    (hV : ∀ k ∈ ks, ∃ o, ops[k]? = some o ∧ Firm P W o (V k) A) (hal : ∀ x ∈ als, (∃ o, ops[x.k]? = some o ∧ IsAl P o x.d (.cells x.old x.T)) ∧ ∃ o, ops[x.j]? = some o ∧ IsSt P o x)
    (hsv : ∀ x ∈ als, A.tmps[x.sv]? = some (.agg x.row))
    {G : Nat → Nat} {t : Array Bool} {a : Act} {w : World} (I : Inv md ops W ks als a0 A G t a w) {k : Nat} (hk : k ∈ Region.ready md ops t)
    (h : ∀ G' a' w', Inv md ops W ks als a0 A G' (t.setIfInBounds k true) a' w' → K a' w') : wpOp P ops R k K a w := by
  obtain ⟨hkt, o, ho, hed⟩ := mem_ready.1 hk
  have hkn : k < ops.size := (Array.getElem?_eq_some_iff.1 ho).1
  have hkf : t.getD k false = false := getD_both hkt
  have hwt : ∀ f, Region.wanted o f = true := fun f => by simp [Region.wanted, F.gd k o ho]
  have hsel := fun cs b => Region.noSelect_spec F.sel k o cs b ho
  have hdk : ∀ s, dstOf ops k = some s → s < a.tmps.size := fun s hs => by rw [I.sz, hN]; exact F.fits k s hs
  have hkt' : k < t.size := by rw [I.tsz]; exact hkn
  have wait' : ∀ (k' : Nat) (o' : Oper), ops[k']? = some o' → (t.setIfInBounds k true).getD k' false = true → ∀ e ∈ o'.after, Region.binds md e = true → (t.setIfInBounds k true).getD e.on false = true := by
    intro k' o' ho' ht' e he hb
    rcases set_or ht' with rfl | ht'
    · obtain rfl : o' = o := Option.some.inj (ho'.symm.trans ho)
      exact set_mono (hed e he hb)
    · exact set_mono (I.wait k' o' ho' ht' e he hb)
  rcases F.cover k hkn with hq | ⟨x, hx, hxk | hxj⟩
  · -- a quiet one
    obtain ⟨o', ho', hfirm⟩ := hV k hq
    obtain rfl : o' = o := Option.some.inj (ho'.symm.trans ho)
    have hsame : execOp a.eval o' = execOp A.eval o' := by
      refine exec_same (ops := ops) hsel fun s hs => ?_
      by_cases hex : ∃ k', dstOf ops k' = some s
      · obtain ⟨k', hk'⟩ := hex
        obtain ⟨hks, e, he, hb, hon⟩ := F.look k hq o' ho s hs k' hk'
        have := hed e he hb
        rw [hon] at this
        exact I.quiet k' hks this s hk'
      · rw [I.keep s (fun k' hk' => absurd ⟨k', hk'⟩ hex), hA, puts_ne V s ks a0 (fun k' _ e => hex ⟨k', e⟩)]
    have hfirm' : Firm P W o' (V k) a := hfirm.of_same hsame
    refine wpOp_of_qOp (C := Cls w) (K := fun a' => a' = a.put o'.dst (V k)) (Cls.refl w) (fun a' w' hw' ha' => ?_) ?_
    · subst ha'
      have hdst := dstOf_of ho
      rw [← hdst]
      have hb := hw'.below
      refine h G _ _ ⟨by simp [I.tsz], by rw [put_defers]; exact I.defs, by rw [put_size]; exact I.sz, fun s hs => ?_, fun k' hk' ht d hd => ?_, fun x hx ht => ?_, fun x hx y hy hne h1 h2 => ?_, I.below.trans (hb.mono I.below.size), wait'⟩
      · have hne : dstOf ops k ≠ some s := fun e => by have := hs k e; rw [set_at hkt'] at this; cases this
        rw [put_ne _ _ _ _ hne]
        refine I.keep s fun k' hk' => ?_
        cases ht : t.getD k' false
        · rfl
        · have := hs k' hk'; rw [set_mono ht] at this; cases this
      · rcases set_or ht with rfl | ht2
        · rw [hd, put_same _ _ _ (hdk d hd), hA, puts_at V d k' hd ks a0 (by rw [← I.sz]; exact hdk d hd) hk' (fun k'' _ e => F.dsts _ _ _ e hd)]
        · by_cases e : k' = k
          · subst e; rw [hkf] at ht2; cases ht2
          · rw [put_ne _ _ _ _ (fun e2 => e (F.dsts _ _ _ hd e2))]; exact I.quiet k' hk' ht2 d hd
      · have hxk := F.ak x hx
        have hne : x.k ≠ k := fun e => hxk.2.1 (by rw [e]; exact hq)
        have hnj : x.j ≠ k := fun e => hxk.2.2 (by rw [e]; exact hq)
        rw [getD_set_ne false (Ne.symm hne)] at ht
        obtain ⟨h1, h2, h3⟩ := I.al x hx ht
        rw [put_ne _ _ _ _ (fun e => hne (F.dsts _ _ _ hxk.1 e)), getD_set_ne false (Ne.symm hnj), hb.block _ (lt_of_heap h3)]
        exact ⟨h1, h2, h3⟩
      · have hxk := F.ak x hx
        have hyk := F.ak y hy
        rw [getD_set_ne false (fun e => hxk.2.1 (by rw [← e]; exact hq))] at h1
        rw [getD_set_ne false (fun e => hyk.2.1 (by rw [← e]; exact hq))] at h2
        exact I.dist x hx y hy hne h1 h2
    · unfold qOp
      simp only [ho, hwt, if_true]
      exact ⟨V k, fun w1 hw1 => upon_mono (fun w2 hw2 => hw1.trans hw2) (hfirm' w1 (I.below.trans (hw1.below.mono I.below.size))), rfl⟩
  · -- a new block
    subst hxk
    obtain ⟨⟨o', ho', hIs⟩, ⟨oj, hoj, hSt⟩⟩ := hal x hx
    obtain rfl : o' = o := Option.some.inj (ho'.symm.trans ho)
    have hxk := F.ak x hx
    unfold wpOp
    simp only [ho, hwt, if_true]
    refine .inl ?_
    unfold Oper.wp
    rw [hIs.run]
    show K (a.put o'.dst (ptr w.heap.size)) (w.alloc (.cells x.old x.T))
    rw [hIs.dst]
    have hjf : t.getD x.j false = false := by
      cases ht : t.getD x.j false
      · rfl
      · obtain ⟨⟨e, he, hb, hon⟩, _⟩ := F.ajk x hx oj hoj
        have := I.wait x.j oj hoj ht e he hb
        rw [hon, hkf] at this; cases this
    have hjk : x.k ≠ x.j := F.nkj x hx x hx
    refine h (fun j => if j = x.k then w.heap.size else G j) _ _ ⟨by simp [I.tsz], by rw [put_defers]; exact I.defs, by rw [put_size]; exact I.sz, fun s hs => ?_, fun k' hk' ht d hd => ?_, fun y hy ht => ?_, fun y hy z hz hne h1 h2 => ?_, I.below.alloc I.below.size _, wait'⟩
    · have hne : x.d ≠ s := fun e => by have := hs x.k (by rw [← e]; exact hxk.1); rw [set_at hkt'] at this; cases this
      rw [put_ne _ _ _ _ (fun e => hne (Option.some.inj e))]
      refine I.keep s fun k' hk' => ?_
      cases ht : t.getD k' false
      · rfl
      · have := hs k' hk'; rw [set_mono ht] at this; cases this
    · have hne : k' ≠ x.k := fun e => hxk.2.1 (by rw [← e]; exact hk')
      rw [getD_set_ne false (Ne.symm hne)] at ht
      rw [put_ne _ _ _ _ (fun e => hne (F.dsts _ _ _ hd (by rw [← Option.some.inj e]; exact hxk.1)))]
      exact I.quiet k' hk' ht d hd
    · by_cases hyk : y.k = x.k
      · obtain rfl : y = x := nodup_inj F.ndk y hy x hx hyk
        rw [put_same _ _ _ (hdk _ hxk.1), getD_set_ne false hjk, hjf]
        simp only [if_true, Bool.false_eq_true, if_false]
        exact ⟨trivial, I.below.size, heap_alloc_new _ _⟩
      · rw [getD_set_ne false (Ne.symm hyk)] at ht
        obtain ⟨h1, h2, h3⟩ := I.al y hy ht
        rw [put_ne _ _ _ _ (fun e => hyk (F.dsts _ _ _ (F.ak y hy).1 (by rw [← Option.some.inj e]; exact hxk.1))), getD_set_ne false (F.nkj x hx y hy), if_neg hyk, heap_alloc_old _ _ (lt_of_heap h3)]
        exact ⟨h1, h2, h3⟩
    · by_cases hyk : y.k = x.k
      · have hzk : z.k ≠ x.k := fun e => hne (hyk.trans e.symm)
        rw [getD_set_ne false (Ne.symm hzk)] at h2
        have := lt_of_heap (I.al z hz h2).2.2
        simp only [if_pos hyk, if_neg hzk]; omega
      · by_cases hzk : z.k = x.k
        · rw [getD_set_ne false (Ne.symm hyk)] at h1
          have := lt_of_heap (I.al y hy h1).2.2
          simp only [if_pos hzk, if_neg hyk]; omega
        · rw [getD_set_ne false (Ne.symm hyk)] at h1
          rw [getD_set_ne false (Ne.symm hzk)] at h2
          simp only [if_neg hyk, if_neg hzk]
          exact I.dist y hy z hz hne h1 h2
  · -- a store
    subst hxj
    obtain ⟨_, ⟨o', ho', hSt⟩⟩ := hal x hx
    obtain rfl : o' = o := Option.some.inj (ho'.symm.trans ho)
    have hxk := F.ak x hx
    obtain ⟨⟨e1, he1, hb1, hon1⟩, k2, hk2, hd2, e2, he2, hb2, hon2⟩ := F.ajk x hx o' ho
    have t1 := hed e1 he1 hb1
    have t2 := hed e2 he2 hb2
    rw [hon1] at t1
    rw [hon2] at t2
    obtain ⟨g1, g2, g3⟩ := I.al x hx t1
    rw [hkf] at g3
    have hsvv := I.quiet k2 hk2 t2 x.sv hd2
    rw [hsv x hx] at hsvv
    obtain ⟨ty, hop, hinfo⟩ := hSt.op
    unfold wpOp
    simp only [ho, hwt, if_true]
    refine .inl (wp_store_row ty (.tmp x.d) (.tmp x.sv) hop (G x.k) x.row (by simp [Act.eval, Array.getD_eq_getD_getElem?, g1]) (by simp [Act.eval, Array.getD_eq_getD_getElem?, hsvv]) x.T x.old g3 hinfo hSt.size hSt.one ?_)
    rw [hSt.dst]
    show K a _
    have hdn : ∀ s, dstOf ops x.j ≠ some s := fun s e => by rw [dstOf_of ho, hSt.dst] at e; cases e
    refine h G _ _ ⟨by simp [I.tsz], I.defs, I.sz, fun s hs => ?_, fun k' hk' ht d hd => ?_, fun y hy ht => ?_, fun y hy z hz hne h1 h2 => ?_, below_setRow I.below g2 _, wait'⟩
    · refine I.keep s fun k' hk' => ?_
      cases ht : t.getD k' false
      · rfl
      · have := hs k' hk'; rw [set_mono ht] at this; cases this
    · rcases set_or ht with rfl | ht
      · exact absurd hd (hdn d)
      · exact I.quiet k' hk' ht d hd
    · have ht' : t.getD y.k false = true := by rw [getD_set_ne false (Ne.symm (F.nkj y hy x hx))] at ht; exact ht
      obtain ⟨h1, h2, h3⟩ := I.al y hy ht'
      by_cases hyk : y.k = x.k
      · obtain rfl : y = x := nodup_inj F.ndk y hy x hx hyk
        rw [set_at hkt', setRow_heap _ _ _ _ _ _ g3]
        exact ⟨h1, h2, rfl⟩
      · have hyj : x.j ≠ y.j := fun e => hyk (by rw [nodup_inj F.ndj x hx y hy e])
        rw [getD_set_ne false hyj, setRow_other _ _ _ _ (I.dist y hy x hx hyk ht' t1)]
        exact ⟨h1, h2, h3⟩
    · rw [getD_set_ne false (Ne.symm (F.nkj y hy x hx))] at h1
      rw [getD_set_ne false (Ne.symm (F.nkj z hz x hx))] at h2
      exact I.dist y hy z hz hne h1 h2

def lay (G : Nat → Nat) : List Nw → Act → Act
  | [], A => A
  | x :: r, A => lay G r (A.put (some x.d) (ptr (G x.k)))
theorem lay_size (G : Nat → Nat) : ∀ (r : List Nw) (A : Act), (lay G r A).tmps.size = A.tmps.size := by
  intro r; induction r with
  | nil => intro A; rfl
  | cons x r ih => intro A; rw [lay, ih, put_size]
theorem lay_defers (G : Nat → Nat) : ∀ (r : List Nw) (A : Act), (lay G r A).defers = A.defers := by
  intro r; induction r with
  | nil => intro A; rfl
  | cons x r ih => intro A; rw [lay, ih, put_defers]
theorem lay_ne (G : Nat → Nat) (s : Tmp) : ∀ (r : List Nw) (A : Act), (∀ x ∈ r, x.d ≠ s) → (lay G r A).tmps[s]? = A.tmps[s]? := by
  intro r; induction r with
  | nil => intro A _; rfl
  | cons x r ih => intro A h; rw [lay, ih _ (fun y hy => h y (List.mem_cons_of_mem _ hy)), put_ne _ _ _ _ (fun e => h x (by simp) (Option.some.inj e))]
theorem lay_at (G : Nat → Nat) (s : Tmp) (g : Nat) : ∀ (r : List Nw) (A : Act), s < A.tmps.size → (∃ x ∈ r, x.d = s) → (∀ x ∈ r, x.d = s → G x.k = g) → (lay G r A).tmps[s]? = some (ptr g) := by
  intro r; induction r with
  | nil => intro A _ h; obtain ⟨x, hx, _⟩ := h; cases hx
  | cons z r ih =>
    intro A hlt hx hu
    rw [lay]
    by_cases hin : ∃ y ∈ r, y.d = s
    · exact ih _ (by rw [put_size]; exact hlt) hin (fun y hy => hu y (List.mem_cons_of_mem _ hy))
    · obtain ⟨x, hx, hxs⟩ := hx
      have hz : x = z := by
        rcases List.mem_cons.1 hx with h | h
        · exact h
        · exact absurd ⟨x, h, hxs⟩ hin
      subst hz
      subst hxs
      rw [lay_ne _ _ _ _ (fun y hy e => hin ⟨y, hy, e⟩), put_same _ _ _ hlt, hu x (by simp) rfl]

theorem free_any {a0 A : Act} {V : Nat → Value} {R : Exit → Act → World → Prop} (F : Fits md ops N ks als) (hN : a0.tmps.size = N) (hA : A = puts ops V ks a0)
    (hV : ∀ k ∈ ks, ∃ o, ops[k]? = some o ∧ Firm P W o (V k) A) (hal : ∀ x ∈ als, (∃ o, ops[x.k]? = some o ∧ IsAl P o x.d (.cells x.old x.T)) ∧ ∃ o, ops[x.j]? = some o ∧ IsSt P o x)
    (hsv : ∀ x ∈ als, A.tmps[x.sv]? = some (.agg x.row))
    (hEnd : ∀ G a w, Inv md ops W ks als a0 A G (a := a) (w := w) (t := Array.replicate ops.size true) → R .normal a w) :
    ∀ (f : Nat) (r : List Nat) (G : Nat → Nat) (t : Array Bool) (a : Act) (w : World), r.length ≤ f → (∀ k, k < ops.size → t.getD k false = false → k ∈ r) → Inv md ops W ks als a0 A G t a w → wpAny P md ops R f t a w := by
  have over : ∀ (G : Nat → Nat) (t : Array Bool) (a : Act) (w : World), Region.ready md ops t = [] → Inv md ops W ks als a0 A G t a w → R .normal a w := by
    intro G t a w hr I
    have hall : ∀ k, k < ops.size → t.getD k false = true := by
      intro k
      induction k using Nat.strongRecOn with
      | ind k ih =>
        intro hk
        cases ht : t.getD k false
        · have : k ∈ Region.ready md ops t := mem_ready.2 ⟨getD_in (by rw [I.tsz]; exact hk) ht, ops[k], by simp [hk], fun e he hb => by
            have h1 := F.back k ops[k] (by simp [hk]) e he hb
            exact ih _ h1 (by omega)⟩
          rw [hr] at this; cases this
        · rfl
    have : t = Array.replicate ops.size true := by
      apply Array.ext
      · simp [I.tsz]
      · intro i h1 h2
        have := hall i (by rw [← I.tsz]; exact h1)
        simpa [Array.getD_eq_getD_getElem?, h1] using this
    subst this
    exact hEnd G a w I
  intro f
  induction f with
  | zero =>
    intro r G t a w hl hr I
    have hnil : r = [] := List.length_eq_zero_iff.1 (by omega)
    have : Region.ready md ops t = [] := by
      apply List.eq_nil_iff_forall_not_mem.2
      intro k hk
      obtain ⟨h1, o, ho, _⟩ := mem_ready.1 hk
      have := hr k (Array.getElem?_eq_some_iff.1 ho).1 (getD_both h1)
      rw [hnil] at this; cases this
    exact ⟨this, over G t a w this I⟩
  | succ f ih =>
    intro r G t a w hl hr I
    refine ⟨fun h0 => over G t a w h0 I, fun k hk => Inv.step F hN hA hV hal hsv I hk fun G' a' w' I' => ?_⟩
    obtain ⟨h1, o, ho, _⟩ := mem_ready.1 hk
    have hkr := hr k (Array.getElem?_eq_some_iff.1 ho).1 (getD_both h1)
    refine ih (r.erase k) G' _ a' w' (by rw [List.length_erase_of_mem hkr]; omega) (fun j hj ht => ?_) I'
    by_cases e : k = j
    · subst e
      rw [set_at (by rw [I.tsz]; exact hj)] at ht; cases ht
    · rw [getD_set_ne false e] at ht
      exact (List.mem_erase_of_ne (Ne.symm e)).2 (hr j hj ht)
end

/-- THE LAW -/
theorem wp_region_free {P : Program} {id : Nat} {Q : Exit → Act → World → Prop} {a : Act} {w : World} {l : List Oper} (N : Nat) (ks : List Nat) (als : List Nw) (hm : P.follows .mixedOrders = true) (hN : a.tmps.size = N)
    (hB : freeB .any l.toArray N ks (als.map fun x => (x.k, x.d, x.j, x.sv)) = true)
    (hal : ∀ x ∈ als, (∃ o, l.toArray[x.k]? = some o ∧ IsAl P o x.d (.cells x.old x.T)) ∧ ∃ o, l.toArray[x.j]? = some o ∧ IsSt P o x)
    (h : Walk P l.toArray w (fun A => (∀ x ∈ als, A.tmps[x.sv]? = some (.agg x.row)) ∧
      ∀ G : Nat → Nat, (∀ x ∈ als, w.heap.size ≤ G x.k) → (∀ x ∈ als, ∀ y ∈ als, x.k ≠ y.k → G x.k ≠ G y.k) → ∀ w', Below w.heap.size w w' → (∀ x ∈ als, w'.heap[G x.k]? = some (.cells x.row x.T)) → wpList P l.toArray Q [] (lay G als A) w') ks a) : (Code.region id l.toArray true).wp P Q a w := by
  have F := fits_of hB
  obtain ⟨V, ⟨hsv, hK⟩, hV⟩ := Walk.puts_ (fun j o cs b => Region.noSelect_spec F.sel j o cs b) ks a F.sorted (fun k hk o ho s hs k' hk' => by
    obtain ⟨_, e, he, hb, hon⟩ := F.look k hk o ho s hs k' hk'
    have := F.back k o ho e he hb
    omega) h
  refine wp_region_any hm ?_
  refine free_any (V := V) F hN rfl hV hal hsv (fun G b w' I => ?_) _ (List.range l.toArray.size) (fun _ => 0) _ _ _ (by simp) (fun k hk _ => List.mem_range.2 hk) ?inv
  case inv =>
    refine ⟨by simp, rfl, rfl, fun s _ => rfl, fun k _ ht => ?_, fun x _ ht => ?_, fun x _ y _ _ ht => ?_, ⟨rfl, rfl, rfl, Nat.le_refl _, fun _ _ => rfl⟩, fun k o _ ht => ?_⟩ <;> (rw [getD_replicate_false] at ht; cases ht)
  have tr : ∀ k, k < l.toArray.size → (Array.replicate l.toArray.size true).getD k false = true := fun k hk => by simp [Array.getD_eq_getD_getElem?, hk] at *; simp [hk]
  have hkl : ∀ x ∈ als, x.k < l.toArray.size ∧ x.j < l.toArray.size := fun x hx => by
    obtain ⟨⟨o, ho, _⟩, ⟨o', ho', _⟩⟩ := hal x hx
    exact ⟨(Array.getElem?_eq_some_iff.1 ho).1, (Array.getElem?_eq_some_iff.1 ho').1⟩
  have hb : b = lay G als (puts l.toArray V ks a) := by
    have e1 : b.tmps = (lay G als (puts l.toArray V ks a)).tmps := by
      apply Array.ext_getElem?
      intro s
      by_cases h1 : ∃ x ∈ als, x.d = s
      · obtain ⟨x, hx, rfl⟩ := h1
        have h2 := F.ak x hx
        rw [lay_at G x.d (G x.k) als _ (by rw [puts_size, hN]; exact F.fits _ _ h2.1) ⟨x, hx, rfl⟩ (fun y hy e => by rw [F.dsts _ _ _ (F.ak y hy).1 (by rw [e]; exact h2.1)])]
        exact (I.al x hx (tr _ (hkl x hx).1)).1
      · rw [lay_ne _ _ _ _ (fun x hx e => h1 ⟨x, hx, e⟩)]
        by_cases h2 : ∃ k ∈ ks, dstOf l.toArray k = some s
        · obtain ⟨k, hk, hd⟩ := h2
          exact I.quiet k hk (tr k (F.inn k hk)) s hd
        · rw [puts_ne V s ks a (fun k hk e => h2 ⟨k, hk, e⟩)]
          refine I.keep s fun k hk => ?_
          rcases F.cover k (dstOf_lt hk) with hq | ⟨x, hx, rfl | rfl⟩
          · exact absurd ⟨k, hq, hk⟩ h2
          · exact absurd ⟨x, hx, Option.some.inj ((F.ak x hx).1.symm.trans hk)⟩ h1
          · obtain ⟨_, ⟨o', ho', hSt⟩⟩ := hal x hx
            rw [dstOf_of ho', hSt.dst] at hk; cases hk
    have e2 : b.defers = (lay G als (puts l.toArray V ks a)).defers := by rw [lay_defers, puts_defers]; exact I.defs
    generalize lay G als (puts l.toArray V ks a) = c at e1 e2
    cases b; cases c; simp only at e1 e2; rw [e1, e2]
  rw [hb]
  refine hK G (fun x hx => (I.al x hx (tr _ (hkl x hx).1)).2.1) (fun x hx y hy hne => I.dist x hx y hy hne (tr _ (hkl x hx).1) (tr _ (hkl y hy).1)) w' I.below (fun x hx => ?_)
  have := (I.al x hx (tr _ (hkl x hx).1)).2.2
  rw [tr _ (hkl x hx).2] at this
  exact this
end Go.Proofs.Ytdmmjmdnljhooaa.Qf
