/- Joined texts of this claim, part 1: contracts and plain laws that its proof stands on. -/
import Derived.Test.YtdaokkgenfpmhaaGreatTb5
import Derived.WalkKit
import Derived.WalkLawsBesides
import Derived.WalkSpells
import Derived.Outline
import Derived.Lib.Hide
import Derived.Deep.DeepCutAuto
import Derived.Deep.LoopGhost
import Derived.Laws.CopyOwn
import Derived.Laws.AppendOwnNone
import Derived.Lib.SlBytesConst
import Derived.Laws.Bits64
import Derived.Laws.Bits64b
import Derived.Laws.Rows
import Derived.Test.YtdaokkgenfpmhaaGreatRows
import Derived.Lib.Mul64
import Derived.Lib.Strings
import Derived.Lib.Slices
import Derived.Lib.Small
import Derived.Lib.Walk
import Derived.Lib.BitFns
import Derived.Deep.QuietTactic
import Derived.BigQuiet
import Derived.Deep.CutBlock
import Derived.Lib.QuietBelow
import Derived.StillTailTactics
import Derived.Maps.AppendAt
import Derived.OwnWalk
import Derived.RegionTactic
import Derived.BigRegion
import Derived.Shelf.SlSortCmp.QuietGrown
import Derived.Shelf.SlSortCmp.NoneTotal
import Derived.Ground.SlsfProg
import Derived.Laws.EntriesVeiled
import Derived.Deep.CutRange
import Derived.Deep.MidRow
import Derived.ChangeKeysEq
import Derived.Laws.StructEq
import Derived.ProofKit
import Derived.OpenShut
import Derived.Deep.Strs
/- Words and small laws that all walks of this seat share: a slice of numbers that reads as a list, one that the call itself owns, append and conversion over these, a whole array stored into a block. No program is named here. -/
set_option linter.unusedVariables false
set_option linter.unusedSimpArgs false
namespace Go.Proofs.YtdaokkgenfpmhaaGreat.Base
open Go.RowKit

theorem Nums.drew {k : IntKind} {N : Nat} {w : World} {v : Value} {l : List Nat} (h : Nums k N w v l) : Nums k N w.drew v l := ⟨h.shape, h.bound, h.cells⟩
theorem Own.drew {k : IntKind} {N E base : Nat} {w : World} {v : Value} {l : List Nat} (h : Own k N E base w v l) : Own k N E base w.drew v l := ⟨h.row, h.bound⟩

section
variable {P : Program}
end

/-! ### WHAT A CALL LEAVES ALONE: every block that was there but those of a set S -/
/-! ### SLICES OF ANYTHING THAT TAKES ONE CELL (bools, ..): the same words over an encoding -/
section
variable {α : Type} {enc : α → Value}
theorem Seq.open_ {w : World} {v : Value} {l : List α} (h : Seq enc w v l) : ∃ a cap, v = .slice a l.length cap ∧ l.length ≤ 9223372036854775807 ∧
  (∀ j (_ : j < l.length), ∃ b off, a = some ⟨b, off, none⟩ ∧ b < w.heap.size ∧ ∀ i (h : i < l.length), w.cell? ⟨b, off + i, none⟩ = some (enc l[i])) := by
 obtain ⟨a, cap, rfl, h1, h2, _⟩ := h.shape
 refine ⟨a, cap, rfl, by unfold maxLen at h2; omega, ?_⟩
 intro j hj
 obtain ⟨b, off, cap', e, hb, hc⟩ := h.cells (by intro h0; subst h0; simp at hj)
 simp only [Value.slice.injEq] at e
 exact ⟨b, off, e.1, hb, hc⟩
theorem Seq.fits {w : World} {a : Option Addr} {n cap : Nat} {l : List α} (h : Seq enc w (.slice a n cap) l) : n = l.length := by
 obtain ⟨_, _, e, _⟩ := h.shape; simp only [Value.slice.injEq] at e; exact e.2.1
theorem SeqOwn.drew {E base : Nat} {w : World} {v : Value} {l : List α} (h : SeqOwn enc E base w v l) : SeqOwn enc E base w.drew v l := ⟨h.row⟩
end
end Go.Proofs.YtdaokkgenfpmhaaGreat.Base

/- Numbers as the walks meet them: sums, shifts and bit by bit work of u32, u64 and u8 over natural numbers; rows of numbers that lie in arrays. No program is named here. -/
set_option linter.unusedVariables false
set_option linter.unusedSimpArgs false
namespace Go.Proofs.YtdaokkgenfpmhaaGreat.Num
open Go.RowKit

/-! arrays of numbers -/
end Go.Proofs.YtdaokkgenfpmhaaGreat.Num

/- The numbers of layer 1 (fix) as plain arithmetic over the integers: sums, products, quotients and roots that are brought in, and sines. No program is named here. -/
set_option linter.unusedVariables false
set_option linter.unusedSimpArgs false
namespace Go.Proofs.YtdaokkgenfpmhaaGreat.FixM

theorem clamp_mono {x y : Int} (h : x ≤ y) : clamp x ≤ clamp y := by unfold clamp; split <;> (try split) <;> (try split) <;> (try split) <;> omega
/-! ### roots, bit by bit -/
/-! ### sines -/
end Go.Proofs.YtdaokkgenfpmhaaGreat.FixM

/- The plain arithmetic of a division of 128 bits by 64 (math/bits.Div64: by halves), of a division bit by bit, and of a root by halving its span. No program is named here. -/
set_option linter.unusedVariables false
set_option linter.unusedSimpArgs false
namespace Go.Proofs.YtdaokkgenfpmhaaGreat.FixD

variable {yn1 yn0 u un q r : Nat}
/-! ### one bit more -/
end Go.Proofs.YtdaokkgenfpmhaaGreat.FixD

/- What layer 1's numbers answer: sums and products do not hang on order, what is greater stays greater, quotients and roots are right within one. Plain arithmetic: no program is named here. -/
set_option linter.unusedVariables false
set_option linter.unusedSimpArgs false
namespace Go.Proofs.YtdaokkgenfpmhaaGreat.FixP
open FixM

end Go.Proofs.YtdaokkgenfpmhaaGreat.FixP

/- The walks of package fix and of its reference: sums, differences, signs, whole numbers. -/
set_option linter.unusedVariables false
set_option linter.unusedSimpArgs false
namespace Go.Proofs.YtdaokkgenfpmhaaGreat.FixW
open Go.RowKit FixM Base Num

end Go.Proofs.YtdaokkgenfpmhaaGreat.FixW

/- The walks of package fix and of its reference: signs, sizes, whole numbers, products. -/
set_option linter.unusedVariables false
set_option linter.unusedSimpArgs false
namespace Go.Proofs.YtdaokkgenfpmhaaGreat.FixV
open Go.RowKit FixM Base Num FixW

end Go.Proofs.YtdaokkgenfpmhaaGreat.FixV

/- The walks of package fix and of its reference: products, whole numbers. -/
set_option linter.unusedVariables false
set_option linter.unusedSimpArgs false
namespace Go.Proofs.YtdaokkgenfpmhaaGreat.FixU
open Go.RowKit FixM Base Num FixW FixV

end Go.Proofs.YtdaokkgenfpmhaaGreat.FixU

/- The walks of layer 1's reference: numbers brought in, products by halves, whole numbers. -/
set_option linter.unusedVariables false
set_option linter.unusedSimpArgs false
namespace Go.Proofs.YtdaokkgenfpmhaaGreat.FixT
open Go.RowKit FixM Base Num FixW FixV FixU

end Go.Proofs.YtdaokkgenfpmhaaGreat.FixT

/- The walks of layer 1: sines, both sides; the reference's products and whole numbers. -/
set_option linter.unusedVariables false
set_option linter.unusedSimpArgs false
namespace Go.Proofs.YtdaokkgenfpmhaaGreat.FixS
open Go.RowKit FixM Base Num FixW FixV FixU FixT

end Go.Proofs.YtdaokkgenfpmhaaGreat.FixS

/- The walks of math/bits: Len64, LeadingZeros64. -/
set_option linter.unusedVariables false
set_option linter.unusedSimpArgs false
namespace Go.Proofs.YtdaokkgenfpmhaaGreat.FixL
open Go.RowKit Base

end Go.Proofs.YtdaokkgenfpmhaaGreat.FixL

/- The walk of math/bits.Div64. -/
set_option linter.unusedVariables false
set_option linter.unusedSimpArgs false
namespace Go.Proofs.YtdaokkgenfpmhaaGreat.FixQ
open Go.RowKit FixL FixD FixU FixV Base Num

end Go.Proofs.YtdaokkgenfpmhaaGreat.FixQ

/- The walks of layer 1: quotients of the program, roots and cosines of both sides. -/
set_option linter.unusedVariables false
set_option linter.unusedSimpArgs false
namespace Go.Proofs.YtdaokkgenfpmhaaGreat.FixO
open Go.RowKit FixM FixD Base Num FixW FixV FixU FixT FixS FixQ

end Go.Proofs.YtdaokkgenfpmhaaGreat.FixO

/- The walks of layer 1: roots and cosines of both sides. -/
set_option linter.unusedVariables false
set_option linter.unusedSimpArgs false
namespace Go.Proofs.YtdaokkgenfpmhaaGreat.FixN
open Go.RowKit FixM Base Num FixW FixV FixU FixT FixS

end Go.Proofs.YtdaokkgenfpmhaaGreat.FixN

/- The walk of layer 1's reference: quotients, bit by bit. -/
set_option linter.unusedVariables false
set_option linter.unusedSimpArgs false
namespace Go.Proofs.YtdaokkgenfpmhaaGreat.FixK
open Go.RowKit FixM FixD Base Num FixW FixV FixU FixT FixS

end Go.Proofs.YtdaokkgenfpmhaaGreat.FixK

/- A region that draws its order, whose calls make memory: each contract, met in whatever world of the class 'what was there stands as it stood'. No program is named here. -/
set_option linter.unusedVariables false
set_option linter.unusedSimpArgs false
namespace Go.Proofs.YtdaokkgenfpmhaaGreat.Qb
open Go.RowKit Go.Sort

variable {P : Program}
end Go.Proofs.YtdaokkgenfpmhaaGreat.Qb

/- A region that draws its order, whose operations but the last few only read or call quietly, and whose last few come in one order behind all others: one walk in the order of the text. (What Derived/StillTail has for calls that leave the very world, said here of a class of worlds.) No program is named here. -/
set_option linter.unusedVariables false
set_option linter.unusedSimpArgs false
namespace Go.Proofs.YtdaokkgenfpmhaaGreat.Qt
open Go.RowKit Go.Sort Qb

section
variable {P : Program} {ops : Array Oper} {md : Region.Mode} {C : World → Prop} {n : Nat} {L : Array Bool → Act → Prop}

end
end Go.Proofs.YtdaokkgenfpmhaaGreat.Qt

/- A region that draws its order and makes new blocks among its operations ('p, q := f(a), g(b)' of boxed structs): the others are quiet, so each keeps its one value whatever has been laid; the new blocks' places hang on the order, so what follows is asked for all places that differ. No program is named here. -/
set_option linter.unusedVariables false
set_option linter.unusedSimpArgs false
namespace Go.Proofs.YtdaokkgenfpmhaaGreat.Qa
open Go.RowKit Go.Sort Qb Qt

section
variable {P : Program} {ops : Array Oper} {md : Region.Mode} {W : World} {n : Nat}

/-! ### the new blocks, in any order -/
end
end Go.Proofs.YtdaokkgenfpmhaaGreat.Qa

/- A region that draws its order, whose operations are quiet ones, allocs of new blocks and one store into each new block, in ANY order that the binding edges leave ('a, b, c := l[i], l[j], l[k]' of structs): shown by an invariant of the operations done, each new block at a place of its own. No program is named here. -/
set_option linter.unusedVariables false
set_option linter.unusedSimpArgs false
namespace Go.Proofs.YtdaokkgenfpmhaaGreat.Qf
open Go.RowKit Go.Sort Qb Qt Qa

section
variable {P : Program} {ops : Array Oper} {W : World} {md : Region.Mode}

/-! ### the quiet ones laid one after the other -/
/-! ### the invariant -/
variable {N : Nat} {ks : List Nat} {als : List Nw}
end

end Go.Proofs.YtdaokkgenfpmhaaGreat.Qf

/- A region that draws its order, each of whose operations leaves in a slot of its own a value that fits a predicate of the world (and goes on fitting it in later worlds), whatever values that fit theirs stand in the slots it looks at: so literals with slices within ('[]Mesh{{Points: []Vec{..}}, ..}'), whose values hang on where the blocks come to lie, are shown without asking in which order. No program is named here. -/
set_option linter.unusedVariables false
set_option linter.unusedSimpArgs false
namespace Go.Proofs.YtdaokkgenfpmhaaGreat.Qr
open Go.RowKit Go.Sort Qb Qt Qa Qf

section
variable {P : Program} {ops : Array Oper} {W : World} {md : Region.Mode} {N : Nat} {Φ : Nat → World → Value → Prop}
end

/-! ### with one operation behind all the others ('p := &T{..make..}': the store) -/
end Go.Proofs.YtdaokkgenfpmhaaGreat.Qr

/- A region that draws its order, of quiet operations and stores of whole rows into blocks that stand already ('return l[i], l[j], l[k]' of structs), in ANY order that the binding edges leave: shown by an invariant; the quiet ones are asked for in every world in which only these blocks may have turned. No program is named here. -/
set_option linter.unusedVariables false
set_option linter.unusedSimpArgs false
namespace Go.Proofs.YtdaokkgenfpmhaaGreat.Qg
open Go.RowKit Go.Sort Qb Qt Qa Qf Base

section
variable {P : Program} {ops : Array Oper} {W : World} {md : Region.Mode} {N : Nat} {ks : List Nat} {sts : List Sw} {S : Nat → Prop}
end

end Go.Proofs.YtdaokkgenfpmhaaGreat.Qg

/- A region that draws its order, whose operations each leave in a slot of their own a value that fits a predicate of the world (as in Qr), guarded ones among them (each guard known to be true), and one store of a whole row into a block that the region makes: in ANY order that the binding edges leave. No program is named here. -/
set_option linter.unusedVariables false
set_option linter.unusedSimpArgs false
namespace Go.Proofs.YtdaokkgenfpmhaaGreat.Qs
open Go.RowKit Go.Sort Qb Qt Qa Qf Qr

structure IsS1 (P : Program) (o : Oper) (x : St1) : Prop where
 op : ∃ ty, o.op = .store ty (.tmp x.p) (.tmp x.s) ∧ (P.info? ty).map (·.size) = some x.row.size
 dst : o.dst = none
 one : x.row.all (·.oneCell') = true
section
variable {P : Program} {ops : Array Oper} {W : World} {md : Region.Mode} {N : Nat} {Φ : Nat → World → Value → Prop} {x : St1} {gs : List Nat}
structure InvS (ops : Array Oper) (W : World) (Φ : Nat → World → Value → Prop) (x : St1) (a0 : Act) (t : Array Bool) (a : Act) (w : World) : Prop where
 r : InvR ops W (fun k w v => k ≠ x.j → Φ k w v) a0 t a w
 kp : x.j < ops.size → t.getD x.j false = true → t.getD x.kp false = true
 st : x.j < ops.size → t.getD x.j false = true → ∃ g, a.tmps[x.p]? = some (ptr g) ∧ w.heap[g]? = some (.cells x.row x.T)

theorem InvS.step {a0 : Act} {K : Act → World → Prop} {R : Exit → Act → World → Prop} (F : FitS md ops N x gs) (hN : a0.tmps.size = N) (mono : ∀ k v w1 w2, Φ k w1 v → Below w1.heap.size w1 w2 → Φ k w2 v)
  (stab : ∀ k v w g cur, k ≠ x.j → Φ k w v → W.heap.size ≤ g → w.heap[g]? = some (.cells cur x.T) → cur.size = x.row.size → Φ k (w.setRow g x.row) v)
  (hgs : ∀ g ∈ gs, ∀ w v, Φ g w v → v = .bool true) (hgj : ∀ g ∈ gs, g ≠ x.j)
  (hal : x.j < ops.size → ∀ w v, Φ x.kp w v → ∃ g cur, v = ptr g ∧ W.heap.size ≤ g ∧ w.heap[g]? = some (.cells cur x.T) ∧ cur.size = x.row.size) (hrow : x.j < ops.size → ∀ w v, Φ x.ks w v → v = .agg x.row)
  (hsj : ∀ o, ops[x.j]? = some o → IsS1 P o x)
  (hst : ∀ k o, k ≠ x.j → ops[k]? = some o → StepOK P ops Φ W a0 k o) {t : Array Bool} {a : Act} {w : World} (I : InvS ops W Φ x a0 t a w) {k : Nat} (hk : k ∈ Region.ready md ops t)
  (h : ∀ a' w', InvS ops W Φ x a0 (t.setIfInBounds k true) a' w' → K a' w') : wpOp P ops R k K a w := by
 obtain ⟨hkt, o, ho, hed⟩ := mem_ready.1 hk
 have hkn : k < ops.size := (Array.getElem?_eq_some_iff.1 ho).1
 have hkf : t.getD k false = false := getD_both hkt
 have hkt' : k < t.size := by rw [I.r.tsz]; exact hkn
 have hwt : Region.wanted o (yielded ops a.tmps) = true := by
  rcases F.gd k o ho with hg | ⟨g, hg, hgm, ⟨d, hd⟩, e, he, hb, hon⟩
  ·
   simp [Region.wanted, hg]
  ·
   have ht := hed e he hb
   rw [hon] at ht
   obtain ⟨v, hv, hp⟩ := I.r.got g ht d hd
   have := hgs g hgm w v (hp (hgj g hgm))
   subst this
   have hy : yielded ops a.tmps g = some true := by
    unfold yielded
    have : (ops[g]?).bind (·.dst) = some d := hd
    rw [this, Option.bind_some, hv]
   simp [Region.wanted, hg, hy]
 have hdep : k ≠ x.j → ∀ s ∈ o.looksAt ops, ∀ k', dstOf ops k' = some s → Φ k' w (a.eval (.tmp s)) := by
  intro hne s hs k' hk'
  obtain ⟨e, he, hb, hon⟩ := F.look k o ho hne s hs k' hk'
  have ht := hed e he hb
  rw [hon] at ht
  obtain ⟨v, hv, hp⟩ := I.r.got k' ht s hk'
  have hk'j : k' ≠ x.j := fun e => by
   subst e
   have hlt := dstOf_lt hk'
   have := (hsj (ops[x.j]'hlt) (Array.getElem?_eq_getElem hlt)).dst
   rw [dstOf_of (Array.getElem?_eq_getElem hlt), this] at hk'; cases hk'
  have hp := hp hk'j
  simpa [Act.eval, Array.getD_eq_getD_getElem?, hv] using hp
 by_cases hkj : k = x.j
 ·
  -- the store
  subst hkj
  have hSt := hsj o ho
  obtain ⟨⟨hdp, e1, he1, hb1, hon1⟩, hds, e2, he2, hb2, hon2⟩ := F.stk o ho
  have t1 := hed e1 he1 hb1
  have t2 := hed e2 he2 hb2
  rw [hon1] at t1
  rw [hon2] at t2
  obtain ⟨vp, hvp, hpp⟩ := I.r.got x.kp t1 x.p hdp
  obtain ⟨vs, hvs, hps⟩ := I.r.got x.ks t2 x.s hds
  have hnd : ∀ s, dstOf ops x.j ≠ some s := fun s e => by rw [dstOf_of ho, hSt.dst] at e; cases e
  have hkpj : x.kp ≠ x.j := fun e => hnd _ (by rw [← e]; exact hdp)
  have hksj : x.ks ≠ x.j := fun e => hnd _ (by rw [← e]; exact hds)
  obtain ⟨g, cur, rfl, hBg, hg, hcs⟩ := hal hkn w vp (hpp hkpj)
  have hvr := hrow hkn w vs (hps hksj)
  subst hvr
  obtain ⟨ty, hop, hinfo⟩ := hSt.op
  unfold wpOp
  simp only [ho, hwt, if_true]
  refine .inl (wp_store_row ty (.tmp x.p) (.tmp x.s) hop g x.row (by simp [Act.eval, Array.getD_eq_getD_getElem?, hvp]) (by simp [Act.eval, Array.getD_eq_getD_getElem?, hvs]) x.T cur hg hinfo hcs hSt.one ?_)
  rw [hSt.dst]
  show K a _
  refine h _ _ ⟨⟨by simp [I.r.tsz], I.r.defs, I.r.sz, fun s hs => ?_, fun k' ht d hd => ?_, below_setRow I.r.below hBg _⟩, fun _ _ => set_mono t1, fun _ _ => ⟨g, hvp, setRow_heap _ _ _ _ _ _ hg⟩⟩
  ·
   refine I.r.keep s fun k' hk' => ?_
   cases ht : t.getD k' false
   ·
    rfl
   ·
    have := hs k' hk'; rw [set_mono ht] at this; cases this
  ·
   rcases set_or ht with rfl | ht
   ·
    exact absurd hd (hnd d)
   ·
    obtain ⟨v, hv, hp⟩ := I.r.got k' ht d hd
    exact ⟨v, hv, fun hne => stab _ _ _ _ _ hne (hp hne) hBg hg hcs⟩
 ·
  obtain ⟨d, hd, hdN⟩ := F.has k hkn hkj
  have hod : o.dst = some d := by rw [← dstOf_of ho]; exact hd
  have hlt : d < a.tmps.size := by rw [I.r.sz, hN]; exact hdN
  have hr := hst k o hkj ho a w I.r.below (hdep hkj) (fun s hs => I.r.keep s fun k' hk' => absurd hk' (hs k'))
  have next : ∀ v w', Φ k w' v → Below w.heap.size w w' → K (a.put o.dst v) w' := by
   intro v w' hp hb
   refine h _ _ ⟨⟨by simp [I.r.tsz], by rw [put_defers]; exact I.r.defs, by rw [put_size]; exact I.r.sz, fun s hs => ?_, fun k' ht d' hd' => ?_, I.r.below.trans (hb.mono I.r.below.size)⟩, fun hj ht => (by rw [getD_set_ne false (fun e => hkj e)] at ht; exact set_mono (I.kp hj ht)), fun hj ht => ?_⟩
   ·
    have hne : o.dst ≠ some s := fun e => by have := hs k (by rw [dstOf_of ho]; exact e); rw [set_at hkt'] at this; cases this
    rw [put_ne _ _ _ _ hne]
    refine I.r.keep s fun k' hk' => ?_
    cases ht : t.getD k' false
    ·
     rfl
    ·
     have := hs k' hk'; rw [set_mono ht] at this; cases this
   ·
    rcases set_or ht with rfl | ht
    ·
     have e : d' = d := Option.some.inj (hd'.symm.trans hd)
     subst e
     exact ⟨v, by rw [hod, put_same _ _ _ hlt], fun _ => hp⟩
    ·
     by_cases e : d = d'
     ·
      subst e
      obtain rfl := F.dsts _ _ _ hd' hd
      exact ⟨v, by rw [hod, put_same _ _ _ hlt], fun _ => hp⟩
     ·
      obtain ⟨u, hu, hup⟩ := I.r.got k' ht d' hd'
      exact ⟨u, by rw [hod, put_ne _ _ _ _ (fun e2 => e (Option.some.inj e2))]; exact hu, fun hne => mono _ _ _ _ (hup hne) hb⟩
   ·
    rw [getD_set_ne false (fun e => hkj e)] at ht
    obtain ⟨g, hg, hgr⟩ := I.st hj ht
    have hoj := Array.getElem?_eq_getElem hj
    have hdp := (F.stk _ hoj).1.1
    have hne : d ≠ x.p := fun e => by
     have := F.dsts k x.kp d hd (by rw [e]; exact hdp)
     subst this
     rw [I.kp hj ht] at hkf; cases hkf
    exact ⟨g, by rw [hod, put_ne _ _ _ _ (fun e2 => hne (Option.some.inj e2))]; exact hg, by rw [hb.block _ (Qf.lt_of_heap hgr)]; exact hgr⟩
  unfold wpOp
  simp only [ho, hwt, if_true]
  refine .inl ?_
  unfold Oper.wp
  generalize (execOp a.eval o).run P w = res at hr
  cases res with
  | halt x w' => simp only [relUpon] at hr
  | ok nx w' =>
   cases nx <;> simp only [relUpon] at hr
   case value u => exact next u w' hr.1 hr.2
   case skip => exact next undef w' hr.1 hr.2
   case enter f args =>
    refine hr.mono ?_
    rintro e w'' ⟨v, rfl, hp, hb⟩
    exact next v w'' hp hb
end

end Go.Proofs.YtdaokkgenfpmhaaGreat.Qs

/- Tools for regions walked by predicates (Qr, Qs): an operation whose value is one, shown in a literal act by the tactics; a call; a load. No program is named here. -/
set_option linter.unusedVariables false
set_option linter.unusedSimpArgs false
namespace Go.Proofs.YtdaokkgenfpmhaaGreat.Qz
open Go.RowKit Go.Sort Qb Qt Qa Qf Qr Qs

section
variable {P : Program} {ops : Array Oper} {Φ : Nat → World → Value → Prop} {W : World} {a : Act} {k : Nat} {o : Oper}
end

end Go.Proofs.YtdaokkgenfpmhaaGreat.Qz

/- Which shape of a mesh a ray meets: what layer 13 reckons of meshes. Plain. -/
set_option linter.unusedVariables false
set_option linter.unusedSimpArgs false
namespace Go.Proofs.YtdaokkgenfpmhaaGreat.HitN
open Go FixM VecW VecV VecU MeshM MeshP HitM

def scanStep (m : Msh) (r : Ry) (least : Int) (best : Ht) (i : Nat) : Ht :=
 match shapeF m (i : Int) r least with
 | none => best
 | some h => if best.i < 0 ∨ h.t < best.t then h else best
def scanF (m : Msh) (r : Ry) (least : Int) : Ht := (List.range (m.ts.length + m.bs.length)).foldl (scanStep m r least) htN
theorem shape_i {m : Msh} {i : Int} {r : Ry} {least : Int} {h : Ht} (e : shapeF m i r least = some h) : h.i = i ∧ 0 ≤ i ∧ i < (m.ts.length : Int) + (m.bs.length : Int) ∧ least ≤ h.t := by
 unfold shapeF at e
 split at e
 ·
  cases e
 rename_i hi
 split at e
 ·
  unfold ballShapeF at e
  cases h1 : boxH r (boxF m i) with
  | none => rw [h1] at e; cases e
  | some near =>
   rw [h1, Option.bind_some] at e
   cases h2 : ballH r (ballAt m i) with
   | none => rw [h2] at e; cases e
   | some p =>
    rw [h2, Option.bind_some] at e
    unfold pickF at e
    split at e
    ·
     rename_i hh; cases e; exact ⟨rfl, by omega, by omega, hh.2⟩
    ·
     split at e
     ·
      rename_i hh; cases e; exact ⟨rfl, by omega, by omega, hh.2⟩
     ·
      cases e
 ·
  unfold triShapeF at e
  cases h0 : cornersF m i with
  | none => rw [h0] at e; cases e
  | some c =>
   rw [h0, Option.bind_some] at e
   cases h1 : boxH r (boxF m i) with
   | none => rw [h1] at e; cases e
   | some near =>
    rw [h1, Option.bind_some] at e
    cases h2 : triH r c.1 c.2.1 c.2.2 with
    | none => rw [h2] at e; cases e
    | some h =>
     rw [h2, Option.bind_some] at e
     split at e
     ·
      cases e
     ·
      cases e; exact ⟨rfl, by omega, by omega, by dsimp only; omega⟩
end Go.Proofs.YtdaokkgenfpmhaaGreat.HitN

/- The walks of hit.Scan and hit.Normal. -/
set_option linter.unusedVariables false
set_option linter.unusedSimpArgs false
namespace Go.Proofs.YtdaokkgenfpmhaaGreat.HitV
open Go.RowKit Go.Sort FixM Base Num FixW Qb Qt Qa Qf Qg VecW VecV VecU LightQ LightC MeshM Rec MeshA MeshB MeshC MeshD MeshE MeshP HitM HitT HitB HitX HitN HitC HitS
def scanTo (m : Msh) (r : Ry) (least : Int) (k : Nat) : Ht := (List.range k).foldl (scanStep m r least) htN
theorem scanTo_next (m : Msh) (r : Ry) (least : Int) (k : Nat) : scanTo m r least (k + 1) = scanStep m r least (scanTo m r least k) k := by
 unfold scanTo; rw [List.range_succ, List.foldl_append]; rfl
end Go.Proofs.YtdaokkgenfpmhaaGreat.HitV

/- The nearest of all, by what it is: both ways of going through the shapes find it. Plain. -/
set_option linter.unusedVariables false
set_option linter.unusedSimpArgs false
namespace Go.Proofs.YtdaokkgenfpmhaaGreat.HitP
open Go FixM VecW VecV VecU MeshM MeshP HitM HitN HitV
/-- b is the nearest hit of the shapes in P, of the same the first -/
def Best (S : Nat → Option Ht) (P : Nat → Prop) (b : Ht) : Prop :=
 (b = htN ∧ ∀ k, P k → S k = none) ∨ (∃ k, P k ∧ S k = some b ∧ ∀ k' h', P k' → S k' = some h' → b.t < h'.t ∨ (b.t = h'.t ∧ k ≤ k'))
theorem best_unique {S : Nat → Option Ht} {P : Nat → Prop} {b c : Ht} (hb : Best S P b) (hc : Best S P c) : b = c := by
 rcases hb with ⟨e, h⟩ | ⟨k, pk, sk, h⟩
 ·
  rcases hc with ⟨e2, h2⟩ | ⟨k2, pk2, sk2, h2⟩
  ·
   rw [e, e2]
  ·
   rw [h k2 pk2] at sk2; cases sk2
 ·
  rcases hc with ⟨e2, h2⟩ | ⟨k2, pk2, sk2, h2⟩
  ·
   rw [h2 k pk] at sk; cases sk
  ·
   have a := h k2 c pk2 sk2
   have b' := h2 k b pk sk
   have : k = k2 := by omega
   subst this
   rw [sk] at sk2
   exact Option.some.inj sk2
theorem best_none (S : Nat → Option Ht) : Best S (fun _ => False) htN := .inl ⟨rfl, fun _ h => h.elim⟩
/-- one more behind all of P, taken only if nearer -/
theorem best_up {S : Nat → Option Ht} {P : Nat → Prop} {b : Ht} {n : Nat} (hi : ∀ k h, S k = some h → h.i = (k : Int)) (hb : Best S P b) (hP : ∀ k, P k → k < n) :
  Best S (fun k => P k ∨ k = n) (match S n with | none => b | some h => if b.i < 0 ∨ h.t < b.t then h else b) := by
 cases hs : S n with
 | none =>
  dsimp only
  rcases hb with ⟨e, h⟩ | ⟨k, pk, sk, h⟩
  ·
   exact .inl ⟨e, fun k hk => hk.elim (h k) (fun e => e ▸ hs)⟩
  ·
   exact .inr ⟨k, .inl pk, sk, fun k' h' hp hq => hp.elim (fun p => h k' h' p hq) (fun e => by rw [e, hs] at hq; cases hq)⟩
 | some x =>
  dsimp only
  rcases hb with ⟨e, h⟩ | ⟨k, pk, sk, h⟩
  ·
   have : b.i < 0 := by rw [e]; decide
   rw [if_pos (.inl this)]
   refine .inr ⟨n, .inr rfl, hs, fun k' h' hp hq => ?_⟩
   rcases hp with p | e2
   ·
    rw [h k' p] at hq; cases hq
   ·
    subst e2; rw [hs] at hq; cases hq; exact .inr ⟨rfl, Nat.le_refl _⟩
  ·
   have bi := hi k b sk
   have kn := hP k pk
   by_cases ht : x.t < b.t
   ·
    rw [if_pos (.inr ht)]
    refine .inr ⟨n, .inr rfl, hs, fun k' h' hp hq => ?_⟩
    rcases hp with p | e2
    ·
     have := h k' h' p hq; exact .inl (by omega)
    ·
     subst e2; rw [hs] at hq; cases hq; exact .inr ⟨rfl, Nat.le_refl _⟩
   ·
    rw [if_neg (by omega)]
    refine .inr ⟨k, .inl pk, sk, fun k' h' hp hq => ?_⟩
    rcases hp with p | e2
    ·
     exact h k' h' p hq
    ·
     subst e2; rw [hs] at hq; cases hq; omega
theorem best_congr {S : Nat → Option Ht} {P Q : Nat → Prop} {b : Ht} (h : ∀ k, P k ↔ Q k) (hb : Best S P b) : Best S Q b := by
 have : P = Q := funext fun k => propext (h k)
 rwa [← this]
theorem shape_in (m : Msh) (r : Ry) (least : Int) (k : Nat) (h : Ht) (e : shapeF m (k : Int) r least = some h) : h.i = (k : Int) := (shape_i e).1
theorem scan_best (m : Msh) (r : Ry) (least : Int) (n : Nat) : Best (fun k => shapeF m (k : Int) r least) (fun k => k < n) (scanTo m r least n) := by
 induction n with
 | zero => exact best_congr (fun k => ⟨fun h => h.elim, fun h => absurd h (by omega)⟩) (best_none _)
 | succ n ih =>
  rw [scanTo_next]
  exact best_congr (fun k => by omega) (best_up (shape_in m r least) ih (fun k h => h))
theorem scanF_best (m : Msh) (r : Ry) (least : Int) : Best (fun k => shapeF m (k : Int) r least) (fun k => k < m.ts.length + m.bs.length) (scanF m r least) := scan_best m r least _
end Go.Proofs.YtdaokkgenfpmhaaGreat.HitP

/- A ray that enters a box enters each box around it, no later: plain. -/
set_option linter.unusedVariables false
set_option linter.unusedSimpArgs false
namespace Go.Proofs.YtdaokkgenfpmhaaGreat.HitO
open Go FixM VecW VecV VecU MeshM MeshP HitM
theorem sub_le {a b c d : Int} (h1 : a ≤ b) (h2 : d ≤ c) : subF a c ≤ subF b d := clamp_mono (by omega)
theorem div_pos_mono {a b d : Int} (hd : 0 < d) (h : a ≤ b) : divF a d ≤ divF b d := by
 have h0 : ¬ d = 0 := by omega
 unfold divF
 rw [if_neg h0, if_neg h0, if_pos hd, if_pos hd]
 exact clamp_mono (Int.ediv_le_ediv hd (by omega))
theorem div_neg_mono {a b d : Int} (hd : d < 0) (h : a ≤ b) : divF b d ≤ divF a d := by
 have h0 : ¬ d = 0 := by omega
 have h1 : ¬ 0 < d := by omega
 unfold divF
 rw [if_neg h0, if_neg h0, if_neg h1, if_neg h1]
 exact clamp_mono (Int.ediv_le_ediv (by omega) (by omega))
theorem lo_mono {o d lo hi lo' hi' : Int} (hd : d ≠ 0) (h1 : lo' ≤ lo) (h2 : hi ≤ hi') : loF o d lo' hi' ≤ loF o d lo hi := by
 unfold loF
 by_cases h : d < 0
 ·
  rw [if_pos h, if_pos h]; exact div_neg_mono h (sub_le h2 (Int.le_refl _))
 ·
  rw [if_neg h, if_neg h]; exact div_pos_mono (by omega) (sub_le h1 (Int.le_refl _))
theorem hi_mono {o d lo hi lo' hi' : Int} (hd : d ≠ 0) (h1 : lo' ≤ lo) (h2 : hi ≤ hi') : hiF o d lo hi ≤ hiF o d lo' hi' := by
 unfold hiF
 by_cases h : d < 0
 ·
  rw [if_pos h, if_pos h]; exact div_neg_mono h (sub_le h1 (Int.le_refl _))
 ·
  rw [if_neg h, if_neg h]; exact div_pos_mono (by omega) (sub_le h2 (Int.le_refl _))
theorem side_mono {o d lo hi lo' hi' : Int} {s s' q : Int × Int} (h1 : lo' ≤ lo) (h2 : hi ≤ hi') (hs : s'.1 ≤ s.1 ∧ s.2 ≤ s'.2) (h : sideF o d lo hi s = some q) : ∃ q', sideF o d lo' hi' s' = some q' ∧ q'.1 ≤ q.1 ∧ q.2 ≤ q'.2 := by
 unfold sideF at *
 by_cases hd : d = 0
 ·
  rw [if_pos hd] at h ⊢
  by_cases hh : lo ≤ o ∧ o ≤ hi
  ·
   rw [if_pos hh] at h
   rw [if_pos ⟨by omega, by omega⟩]
   cases h
   exact ⟨s', rfl, hs⟩
  ·
   rw [if_neg hh] at h; cases h
 ·
  rw [if_neg hd] at h ⊢
  cases h
  refine ⟨_, rfl, ?_, ?_⟩
  ·
   have := lo_mono (o := o) hd h1 h2
   have e := hs.1
   dsimp only
   unfold maxI
   split <;> split <;> omega
  ·
   have := hi_mono (o := o) hd h1 h2
   have e := hs.2
   dsimp only
   unfold minI
   split <;> split <;> omega
/-- a box around one -/
def Bx.le (b b' : Bx) : Prop := (b'.lo.x ≤ b.lo.x ∧ b'.lo.y ≤ b.lo.y ∧ b'.lo.z ≤ b.lo.z) ∧ (b.hi.x ≤ b'.hi.x ∧ b.hi.y ≤ b'.hi.y ∧ b.hi.z ≤ b'.hi.z)
theorem box_mono {r : Ry} {b b' : Bx} {t : Int} (h : Bx.le b b') (e : boxH r b = some t) : ∃ u, boxH r b' = some u ∧ u ≤ t := by
 unfold boxH at *
 cases h1 : sideF r.o.x r.d.x b.lo.x b.hi.x (0, MOST) with
 | none => rw [h1] at e; cases e
 | some s1 =>
  obtain ⟨s1', k1, l1⟩ := side_mono h.1.1 h.2.1 (s' := (0, MOST)) ⟨Int.le_refl _, Int.le_refl _⟩ h1
  rw [h1, Option.bind_some] at e
  rw [k1, Option.bind_some]
  cases h2 : sideF r.o.y r.d.y b.lo.y b.hi.y s1 with
  | none => rw [h2] at e; cases e
  | some s2 =>
   obtain ⟨s2', k2, l2⟩ := side_mono h.1.2.1 h.2.2.1 l1 h2
   rw [h2, Option.bind_some] at e
   rw [k2, Option.bind_some]
   cases h3 : sideF r.o.z r.d.z b.lo.z b.hi.z s2 with
   | none => rw [h3] at e; cases e
   | some s3 =>
    obtain ⟨s3', k3, l3⟩ := side_mono h.1.2.2 h.2.2.2 l2 h3
    rw [h3, Option.bind_some] at e
    rw [k3, Option.bind_some]
    split at e
    ·
     cases e
     rw [if_pos (by omega)]
     exact ⟨_, rfl, l3.1⟩
    ·
     cases e
end Go.Proofs.YtdaokkgenfpmhaaGreat.HitO

/- A greater least place finds nothing nearer; no shape is hit ahead of its box. Plain. -/
set_option linter.unusedVariables false
set_option linter.unusedSimpArgs false
namespace Go.Proofs.YtdaokkgenfpmhaaGreat.HitU
open Go FixM VecW VecV VecU MeshM MeshP HitM HitN HitV HitP HitO
/-- a shape that is hit: its box is entered, no later -/
theorem shape_near {m : Msh} {i : Int} {r : Ry} {least : Int} {h : Ht} (e : shapeF m i r least = some h) : ∃ near, boxH r (boxF m i) = some near ∧ near ≤ h.t := by
 have hm : ∀ a b : Int, b ≤ maxI a b := by intro a b; unfold maxI; split <;> omega
 unfold shapeF at e
 split at e
 ·
  cases e
 split at e
 ·
  unfold ballShapeF at e
  cases h1 : boxH r (boxF m i) with
  | none => rw [h1] at e; cases e
  | some near =>
   rw [h1, Option.bind_some] at e
   cases h2 : ballH r (ballAt m i) with
   | none => rw [h2] at e; cases e
   | some p =>
    rw [h2, Option.bind_some] at e
    unfold pickF at e
    split at e
    ·
     cases e; exact ⟨near, rfl, hm _ _⟩
    ·
     split at e
     ·
      cases e; exact ⟨near, rfl, hm _ _⟩
     ·
      cases e
 ·
  unfold triShapeF at e
  cases h0 : cornersF m i with
  | none => rw [h0] at e; cases e
  | some c =>
   rw [h0, Option.bind_some] at e
   cases h1 : boxH r (boxF m i) with
   | none => rw [h1] at e; cases e
   | some near =>
    rw [h1, Option.bind_some] at e
    cases h2 : triH r c.1 c.2.1 c.2.2 with
    | none => rw [h2] at e; cases e
    | some x =>
     rw [h2, Option.bind_some] at e
     split at e
     ·
      cases e
     ·
      cases e; exact ⟨near, rfl, hm _ _⟩
end Go.Proofs.YtdaokkgenfpmhaaGreat.HitU

/- Trees of boxes: what layer 14 builds, and that the tree finds what the scan finds. Plain. -/
set_option linter.unusedVariables false
set_option linter.unusedSimpArgs false
namespace Go.Proofs.YtdaokkgenfpmhaaGreat.BvhM
open Go FixM VecW VecV VecU MeshM MeshP HitM HitN HitV HitP HitO HitU
/-! asking -/
theorem bx_trans {a b c : Bx} (h1 : HitO.Bx.le a b) (h2 : HitO.Bx.le b c) : HitO.Bx.le a c := by
 unfold HitO.Bx.le at *; omega
theorem join_left (a b : Bx) : HitO.Bx.le a (joinB a b) := by
 unfold HitO.Bx.le joinB minI maxI; dsimp only; refine ⟨⟨?_, ?_, ?_⟩, ?_, ?_, ?_⟩ <;> split <;> omega
theorem join_right (a b : Bx) : HitO.Bx.le b (joinB a b) := by
 unfold HitO.Bx.le joinB minI maxI; dsimp only; refine ⟨⟨?_, ?_, ?_⟩, ?_, ?_, ?_⟩ <;> split <;> omega
theorem bx_refl (a : Bx) : HitO.Bx.le a a := by unfold HitO.Bx.le; omega
theorem fold_left (m : Msh) (l : List Nat) : ∀ b : Bx, HitO.Bx.le b (l.foldl (fun (b : Bx) (j : Nat) => joinB b (boxF m (j : Int))) b) := by
 induction l with
 | nil => intro b; exact bx_refl b
 | cons x l ih => intro b; exact bx_trans (join_left b _) (ih _)
theorem fold_mem (m : Msh) (l : List Nat) : ∀ b : Bx, ∀ i ∈ l, HitO.Bx.le (boxF m (i : Int)) (l.foldl (fun (b : Bx) (j : Nat) => joinB b (boxF m (j : Int))) b) := by
 induction l with
 | nil => intro b i hi; simp at hi
 | cons x l ih =>
  intro b i hi
  rcases List.mem_cons.1 hi with rfl | hi
  ·
   exact bx_trans (join_right b _) (fold_left m l _)
  ·
   exact ih _ i hi
theorem box_mem (m : Msh) (l : List Nat) (i : Nat) (hi : i ∈ l) : HitO.Bx.le (boxF m (i : Int)) (boxL m l) := by
 cases l with
 | nil => simp at hi
 | cons x l =>
  rcases List.mem_cons.1 hi with rfl | hi
  ·
   exact fold_left m l _
  ·
   exact fold_mem m l _ i hi
/-- a shape that is hit is hit behind where the box around it is entered -/
theorem hit_behind {m : Msh} {l : List Nat} {i : Nat} (hi : i ∈ l) {r : Ry} {least : Int} {h : Ht} (e : shapeF m (i : Int) r least = some h) : ∃ near, boxH r (boxL m l) = some near ∧ near ≤ h.t := by
 obtain ⟨n1, e1, l1⟩ := shape_near e
 obtain ⟨n2, e2, l2⟩ := box_mono (box_mem m l i hi) e1
 exact ⟨n2, e2, Int.le_trans l2 l1⟩
/-- one more shape, wherever it stands -/
theorem best_try {S : Nat → Option Ht} {P : Nat → Prop} {b : Ht} {n : Nat} (hi : ∀ k h, S k = some h → h.i = (k : Int)) (hb : Best S P b) :
  Best S (fun k => P k ∨ k = n) (match S n with | none => b | some h => if betterF h b then h else b) := by
 unfold betterF
 cases hs : S n with
 | none =>
  dsimp only
  rcases hb with ⟨e, h⟩ | ⟨k, pk, sk, h⟩
  ·
   exact .inl ⟨e, fun k hk => hk.elim (h k) (fun e => e ▸ hs)⟩
  ·
   exact .inr ⟨k, .inl pk, sk, fun k' h' hp hq => hp.elim (fun p => h k' h' p hq) (fun e => by rw [e, hs] at hq; cases hq)⟩
 | some x =>
  dsimp only
  have xi := hi n x hs
  rcases hb with ⟨e, h⟩ | ⟨k, pk, sk, h⟩
  ·
   have : b.i < 0 := by rw [e]; decide
   rw [if_pos (by rw [decide_eq_true this]; rfl)]
   refine .inr ⟨n, .inr rfl, hs, fun k' h' hp hq => ?_⟩
   rcases hp with p | e2
   ·
    rw [h k' p] at hq; cases hq
   ·
    subst e2; rw [hs] at hq; cases hq; exact .inr ⟨rfl, Nat.le_refl _⟩
  ·
   have bi := hi k b sk
   by_cases ht : x.t < b.t ∨ (x.t = b.t ∧ x.i < b.i)
   ·
    rw [if_pos (by simp only [Bool.or_eq_true, Bool.and_eq_true, decide_eq_true_eq]; rcases ht with h1 | h1; exact .inl (.inr h1); exact .inr h1)]
    refine .inr ⟨n, .inr rfl, hs, fun k' h' hp hq => ?_⟩
    rcases hp with p | e2
    ·
     have := h k' h' p hq; omega
    ·
     subst e2; rw [hs] at hq; cases hq; exact .inr ⟨rfl, Nat.le_refl _⟩
   ·
    rw [if_neg (by simp only [Bool.or_eq_true, Bool.and_eq_true, decide_eq_true_eq]; omega)]
    refine .inr ⟨k, .inl pk, sk, fun k' h' hp hq => ?_⟩
    rcases hp with p | e2
    ·
     exact h k' h' p hq
    ·
     subst e2; rw [hs] at hq; cases hq; omega
/-- shapes that cannot be nearer -/
theorem best_skip {S : Nat → Option Ht} {P Q : Nat → Prop} {b : Ht} (hb : Best S P b) (hq : ∀ k h, Q k → S k = some h → 0 ≤ b.i ∧ b.t < h.t) : Best S (fun k => P k ∨ Q k) b := by
 rcases hb with ⟨e, h⟩ | ⟨k, pk, sk, h⟩
 ·
  refine .inl ⟨e, fun k hk => hk.elim (h k) (fun q => ?_)⟩
  cases hs : S k with
  | none => rfl
  | some x => have := hq k x q hs; rw [e] at this; have := this.1; unfold htN at this; dsimp only at this; omega
 ·
  exact .inr ⟨k, .inl pk, sk, fun k' h' hp hs => hp.elim (fun p => h k' h' p hs) (fun q => .inl (hq k' h' q hs).2)⟩
theorem fold_best (m : Msh) (r : Ry) (least : Int) (l : List Nat) : ∀ (P : Nat → Prop) (b : Ht), Best (fun k => shapeF m (k : Int) r least) P b → Best (fun k => shapeF m (k : Int) r least) (fun k => P k ∨ k ∈ l) (l.foldl (tryF m r least) b) := by
 induction l with
 | nil => intro P b h; exact best_congr (fun k => by simp) h
 | cons x l ih =>
  intro P b h
  have h2 := best_try (n := x) (shape_in m r least) h
  exact best_congr (fun k => by rw [List.mem_cons, or_assoc]) (ih _ _ h2)
theorem ask_best (m : Msh) (r : Ry) (least : Int) : ∀ (t : Tr), t.good → ∀ (P : Nat → Prop) (b : Ht), Best (fun k => shapeF m (k : Int) r least) P b → Best (fun k => shapeF m (k : Int) r least) (fun k => P k ∨ k ∈ t.l) (askT m r least t b).1 := by
 have skip : ∀ (l : List Nat) (P : Nat → Prop) (b : Ht), Best (fun k => shapeF m (k : Int) r least) P b → (boxH r (boxL m l) = none ∨ ∃ near, boxH r (boxL m l) = some near ∧ 0 ≤ b.i ∧ b.t < near) → Best (fun k => shapeF m (k : Int) r least) (fun k => P k ∨ k ∈ l) b := by
  intro l P b hb hn
  refine best_skip hb (fun k h hk hs => ?_)
  obtain ⟨n, e, hle⟩ := hit_behind hk hs
  rcases hn with hn | ⟨near, hn, h1, h2⟩
  ·
   rw [hn] at e; cases e
  ·
   rw [hn] at e; cases e; exact ⟨h1, by omega⟩
 intro t
 induction t with
 | leaf l =>
  intro hg P b hb
  unfold askT
  cases e : boxH r (boxL m l) with
  | none => exact skip l P b hb (.inl e)
  | some near =>
   dsimp only
   split
   ·
    rename_i h; exact skip l P b hb (.inr ⟨near, e, h.1, h.2⟩)
   ·
    exact fold_best m r least l P b hb
 | node l x y ihx ihy =>
  intro hg P b hb
  unfold askT
  cases e : boxH r (boxL m l) with
  | none => exact skip l P b hb (.inl e)
  | some near =>
   dsimp only
   split
   ·
    rename_i h; exact skip l P b hb (.inr ⟨near, e, h.1, h.2⟩)
   ·
    have := ihy hg.2.1 _ _ (ihx hg.1 P b hb)
    refine best_congr (fun k => ?_) this
    have hm : k ∈ x.l ++ y.l ↔ k ∈ l := hg.2.2.mem_iff
    rw [or_assoc, ← List.mem_append, hm]
    exact Iff.rfl
/-! the whole tree -/
/-- the tree finds what the scan finds -/
theorem nearest_scan (m : Msh) (r : Ry) (least : Int) : (nearestF m r least).1 = scanF m r least := by
 unfold nearestF
 by_cases h : m.ts.length + m.bs.length = 0
 ·
  rw [if_pos h]
  exact best_unique (P := fun k => k < m.ts.length + m.bs.length) (best_congr (fun k => ⟨fun h => h.elim, fun h2 => by omega⟩) (best_none _)) (scanF_best m r least)
 ·
  rw [if_neg h]
  refine best_unique (best_congr (fun k => ?_) (ask_best m r least (wholeT m) (whole_good m h) _ htN (best_none _))) (scanF_best m r least)
  rw [whole_l]
  unfold allL
  rw [List.mem_range]
  exact ⟨fun h => h.elim (fun f => f.elim) id, .inr⟩
end Go.Proofs.YtdaokkgenfpmhaaGreat.BvhM

/- A region that draws its order, with calls that write among its operations, each waiting for the one before it ('put(put(put(out, a), b), c)'): the others are quiet (each yields one value whatever has been written by then). No program is named here. -/
set_option linter.unusedVariables false
set_option linter.unusedSimpArgs false
namespace Go.Proofs.YtdaokkgenfpmhaaGreat.Qw
open Go.RowKit Go.Sort Qb Qt

section
variable {P : Program} {ops : Array Oper} {md : Region.Mode} {n : Nat} {σ : Type} {D : σ → World → Prop}

/-- one writing call of the chain -/
theorem Chain.call {K : Act → σ → Prop} {k : Nat} {ks : List Nat} {a : Act} {s : σ} {o : Oper} (f : FuncId) (args : Array Value) (Post : Value → σ → Prop) (ho : ops[k]? = some o) (hw : Region.wanted o (yielded ops a.tmps) = true)
  (hr : ∀ w, (execOp a.eval o).run P w = .ok (.enter f args) w) (hc : ∀ w, D s w → Calls P f args w (fun e w' => ∃ v s', e = .returned v ∧ Post v s' ∧ D s' w'))
  (hn : ∀ v s', Post v s' → Chain P ops D K ks (a.put o.dst v) s') : Chain P ops D K (k :: ks) a s := by
 refine ⟨o, ho, hw, Post, fun w hD => ?_, hn⟩
 rw [hr w]
 exact hc w hD
end
end Go.Proofs.YtdaokkgenfpmhaaGreat.Qw

/- How the document's trees lie in the world: nodes within nodes. -/
set_option linter.unusedVariables false
set_option linter.unusedSimpArgs false
namespace Go.Proofs.YtdaokkgenfpmhaaGreat.BvhO
open Go Go.RowKit Go.Sort Go.Lib FixM Base Num VecW VecV VecU LightQ MeshM Rec MeshA MeshD MeshP HitM HitN HitS BvhM BvhA BvhB BvhS BvhE BvhF BvhQ
theorem NodeAt.len {m : Msh} {w : World} {T : Tr} {cs : List Value} (h : NodeAt m w T cs) : cs.length = 8 := by
 obtain ⟨a, n, c, kd, e, -⟩ := h.cells; rw [e]; rfl
end Go.Proofs.YtdaokkgenfpmhaaGreat.BvhO

/- The walk of the document's count. -/
set_option linter.unusedVariables false
set_option linter.unusedSimpArgs false
namespace Go.Proofs.YtdaokkgenfpmhaaGreat.BvhN
open Go Go.RowKit Go.Sort Go.Lib FixM Base Num FixW Qb Qt Qa Qf Qg VecW VecV VecU LightQ MeshM Rec MeshA MeshC MeshD MeshP HitM HitN HitS BvhM BvhA BvhB BvhS BvhE BvhF BvhQ BvhO
def CntTo (w : World) (ts : List Tr) (e : Ending) (w' : World) : Prop := e = .returned (.tuple #[.int .i64 (allN ts : Int), .int .i64 (maxD ts : Int)]) ∧ w = w'
theorem allN_at (l : List Tr) (k : Nat) (h : k < l.length) : allN (l.take k) + nodesT l[k] ≤ allN l := by
 induction l generalizing k with
 | nil => simp at h
 | cons t l ih =>
  cases k with
  | zero => show 0 + nodesT t ≤ nodesT t + allN l; omega
  | succ k =>
   rw [List.take_succ_cons]
   show nodesT t + allN _ + _ ≤ nodesT t + allN l
   have := ih k (by simpa using h)
   simp only [List.getElem_cons_succ]
   omega
theorem maxD_le (l : List Tr) (d : Nat) (h : ∀ t ∈ l, deepT t ≤ d) : maxD l ≤ d := by
 induction l with
 | nil => exact Nat.zero_le _
 | cons t l ih => exact Nat.max_le.2 ⟨h t (List.mem_cons_self ..), ih (fun x hx => h x (List.mem_cons_of_mem _ hx))⟩
theorem kids_deep {t : Tr} {d : Nat} (h : deepT t ≤ d + 1) : ∀ x ∈ kidsT t, deepT x ≤ d := by
 intro x hx
 cases t with
 | leaf l => simp [kidsT] at hx
 | node l a b =>
  have e : deepT (.node l a b) = 1 + max (deepT a) (deepT b) := rfl
  simp [kidsT] at hx
  rcases hx with rfl | rfl <;> omega
theorem kids_len (t : Tr) : (kidsT t).length ≤ 2 := by cases t <;> simp [kidsT]
set_option maxRecDepth 100000 in
set_option maxHeartbeats 16000000 in
theorem count_walk (m : Msh) : ∀ (d : Nat) (ts : List Tr) (v : Value) (w : World), KidsAt m w v ts → (∀ t ∈ ts, deepT t ≤ d) → d ≤ 100000 → allN ts ≤ 100000 → ts.length ≤ 2 → Calls Tryz.prog 28 #[v] w (CntTo w ts) := by
 intro d
 induction d with
 | zero =>
  intro ts v w hk hd _ _ _
  have e : ts = [] := by
   cases ts with
   | nil => rfl
   | cons t l => have := hd t (List.mem_cons_self ..); have := deep_pos t; omega
  subst e
  obtain ⟨a, cp, rfl, -⟩ := hk
  clear hd
  go_enter Tryz.func28, Tryz.ntmps28
  go_wp2_with fail
  go_loopg [4, 5, 6] 0 (fun r n4 n5 n6 wr => n4 = .int .i64 0 ∧ n5 = .int .i64 0 ∧ n6 = .int .i64 0 ∧ wr = w)
  case atStart => exact ⟨rfl, rfl, rfl, rfl⟩
  case round =>
   obtain ⟨rfl, rfl, rfl, rfl⟩ := hrel
   go_wp2_with fail
   refine bodyPost_ret (results_tmp2 rfl _ _ _) rfl ?_
   exact ⟨rfl, rfl⟩
 | succ d ih =>
  intro ts v w hk hd hd2 hn hl
  have IH := Lib.hid ih
  have HD := Lib.hid hd
  have HB := Lib.hid (And.intro hd2 (And.intro hn hl))
  obtain ⟨a, cp, rfl, hcells⟩ := hk
  have HC := Lib.hid hcells
  have HTO := Lib.hid (show CntTo w ts = fun e w' => e = .returned (.tuple #[.int .i64 (allN ts : Int), .int .i64 (maxD ts : Int)]) ∧ w = w' from rfl)
  obtain ⟨QQ, hQQ⟩ : ∃ Q, Q = CntTo w ts := ⟨_, rfl⟩
  rw [← hQQ] at HTO ⊢
  obtain ⟨n, hn2⟩ : ∃ x, x = ts.length := ⟨_, rfl⟩
  have HNL := Lib.hid hn2
  rw [← hn2]
  clear ih hd hd2 hn hl hcells hQQ hn2
  go_enter Tryz.func28, Tryz.ntmps28
  go_wp2_with fail
  go_loopg [4, 5, 6] n (fun r n4 n5 n6 wr => ∃ k A D : Nat, k + r = n ∧ n6 = .int .i64 (k : Int) ∧ n4 = .int .i64 (A : Int) ∧ n5 = .int .i64 (D : Int) ∧ wr = w ∧ Hid (A = allN (ts.take k) ∧ D = maxD (ts.take k)))
  case atStart => exact ⟨0, 0, 0, by omega, rfl, rfl, rfl, rfl, Lib.hid ⟨rfl, rfl⟩⟩
  case round =>
   obtain ⟨k, A, D, hkr, rfl, rfl, rfl, rfl, hAD⟩ := hrel
   by_cases hk : k < n
   ·
    have d1 : decide ((k : Int) < (n : Int)) = true := decide_eq_true (by omega)
    have d1b : decide (k < n) = true := decide_eq_true hk
    have HMS := Lib.hid (show n - (k + 1) < gk by omega)
    have HKR := Lib.hid (show k + 1 + (n - (k + 1)) = n by omega)
    have hkl : k < ts.length := by have := HNL.out; omega
    have HKB := Lib.hid (show k ≤ 2 by have := HB.out.2.2; omega)
    obtain ⟨b, off, cs, rfl, hb, hc, hnode⟩ := HC.out k hkl
    have hmem := List.getElem_mem hkl
    have hA := allN_at ts k hkl
    have hA2 := allN_take ts k hkl
    have hD2 := maxD_take ts k hkl
    obtain ⟨T, hT⟩ : ∃ x, x = ts[k] := ⟨_, rfl⟩
    rw [← hT] at hnode hmem hA hA2 hD2
    have hdT := HD.out T hmem
    obtain ⟨kd, h7, hkids⟩ := hnode.kids
    have z7 := hc 7 kd h7
    have hnk := nodes_kids T
    have hdk := deep_kids T
    have CK := Lib.hid (IH.out (kidsT T) kd wr hkids (kids_deep hdT) (by have := HB.out.1; omega) (by have := HB.out.2.1; omega) (kids_len T))
    have hml := maxD_le (kidsT T) d (kids_deep hdT)
    unfold CntTo at CK
    obtain ⟨p, hp⟩ : ∃ x, x = allN (kidsT T) := ⟨_, rfl⟩
    obtain ⟨q, hq⟩ : ∃ x, x = maxD (kidsT T) := ⟨_, rfl⟩
    rw [← hp] at CK hnk
    rw [← hq] at CK hdk hml
    obtain ⟨a2, cp2, rfl, -⟩ := hkids
    obtain ⟨A1, hA1⟩ : ∃ x, x = A + 1 := ⟨_, rfl⟩
    obtain ⟨A2, hA22⟩ : ∃ x, x = A1 + p := ⟨_, rfl⟩
    obtain ⟨q1, hq1⟩ : ∃ x, x = q + 1 := ⟨_, rfl⟩
    have hAe := hAD.out.1
    have hbn := HB.out
    have i1 : IntKind.i64.wrap ((A : Int) + 1) = (A1 : Int) := by rw [wrap_in (by omega) (by omega)]; omega
    have i2 : IntKind.i64.wrap ((A1 : Int) + (p : Int)) = (A2 : Int) := by rw [wrap_in (by omega) (by omega)]; omega
    have i3 : IntKind.i64.wrap ((q : Int) + 1) = (q1 : Int) := by rw [wrap_in (by omega) (by omega)]; omega
    have i4 : IntKind.i64.wrap ((k : Int) + 1) = ((k + 1 : Nat) : Int) := by have := HKB.out; rw [wrap_in (by omega) (by omega)]; omega
    have HA2 := Lib.hid (show A2 = allN (ts.take (k + 1)) by omega)
    have HD2 := Lib.hid (show max D q1 = maxD (ts.take (k + 1)) by rw [hD2, hAD.out.2, hdk, hq1])
    obtain ⟨nk, hnk2⟩ : ∃ x, x = (kidsT T).length := ⟨_, rfl⟩
    rw [← hnk2] at CK z7
    clear hc hnode hmem hA hA2 hD2 hdT h7 hnk hdk hml hp hq hA1 hA22 hq1 hAe hbn hT hkl hkr hnk2 hb
    go_wp2_with fail
    refine CK.out.mono ?_
    rintro e _ ⟨rfl, rfl⟩
    clear CK z7
    by_cases hg : D < q1
    ·
     have d2 : decide ((D : Int) < (q1 : Int)) = true := decide_eq_true (by omega)
     have d2b : decide (D < q1) = true := decide_eq_true hg
     have HM := Lib.hid (show q1 = maxD (ts.take (k + 1)) by rw [← HD2.out]; omega)
     clear hg
     go_wp2_with fail
     go_roundg (n - (k + 1))
     case measure => exact HMS.out
     case rel => exact ⟨k + 1, A2, q1, HKR.out, by first | rfl | go_num, rfl, rfl, rfl, Lib.hid ⟨HA2.out, HM.out⟩⟩
    ·
     have d2 : decide ((D : Int) < (q1 : Int)) = false := decide_eq_false (by omega)
     have d2b : decide (D < q1) = false := decide_eq_false hg
     have HM := Lib.hid (show D = maxD (ts.take (k + 1)) by rw [← HD2.out]; omega)
     clear hg
     go_wp2_with fail
     go_roundg (n - (k + 1))
     case measure => exact HMS.out
     case rel => exact ⟨k + 1, A2, D, HKR.out, by first | rfl | go_num, rfl, rfl, rfl, Lib.hid ⟨HA2.out, HM.out⟩⟩
   ·
    have hkn : k = n := by omega
    subst hkn
    have d1 : decide ((k : Int) < (k : Int)) = false := decide_eq_false (by omega)
    have d1b : decide (k < k) = false := decide_eq_false (by omega)
    have HF := Lib.hid (show QQ (.returned (.tuple #[.int .i64 (A : Int), .int .i64 (D : Int)])) wr by rw [HTO.out]; exact ⟨by rw [hAD.out.1, hAD.out.2, HNL.out, List.take_length], rfl⟩)
    go_wp2_with fail
    exact HF.out
end Go.Proofs.YtdaokkgenfpmhaaGreat.BvhN

/- The walk of the document's Build. -/
set_option linter.unusedVariables false
set_option linter.unusedSimpArgs false
namespace Go.Proofs.YtdaokkgenfpmhaaGreat.BvhRa
open Go Go.RowKit Go.Sort Go.Lib FixM Base Num FixW Qb Qt Qa Qf Qg VecW VecV VecU LightQ LightC MeshM Rec MeshA MeshC MeshD MeshE MeshP MeshQ MeshR HitM HitT HitX HitN HitS BvhM BvhA BvhB BvhS BvhD BvhE BvhF BvhQ BvhO BvhR BvhSa BvhZ BvhN
theorem tree_size : (Tryz.prog.info? 35).map (·.size) = some 4 := by kernel_rfl
theorem store_tree {ops : Array Oper} {rest : List Oper} {o : Oper} {a : Act} {w : World} {Q : Exit → Act → World → Prop} (hgd : o.guard = none) (x y : Operand) (ho : o.op = .store 35 x y) (hd : o.dst = none)
  (g : Nat) (a0 : Option Addr) (n0 c0 : Nat) (a1 : Option Addr) (n1 c1 : Nat) (a2 : Option Addr) (n2 c2 : Nat) (a3 : Option Addr) (n3 c3 : Nat) (hx : a.eval x = .pointer (some ⟨g, 0, none⟩)) (hy : a.eval y = .agg #[.slice a0 n0 c0, .slice a1 n1 c1, .slice a2 n2 c2, .slice a3 n3 c3]) (cur : Array Value) (hg : w.heap[g]? = some (.cells cur 35)) (hc2 : cur.size = 4)
  (h : wpList Tryz.prog ops Q rest a (w.setRow g #[.slice a0 n0 c0, .slice a1 n1 c1, .slice a2 n2 c2, .slice a3 n3 c3])) : wpList Tryz.prog ops Q (o :: rest) a w :=
 wpList_store_arr hgd 35 x y ho g _ hx hy 35 cur hg tree_size (by rw [hc2]; rfl) (by intro v hv; simp at hv; rcases hv with rfl | rfl | rfl | rfl <;> rfl) hd h
/-- the first node, if there is one, lies from B on -/
def FirstAt (B : Nat) (m : Msh) (w : World) (a3 : Option Addr) (n3 : Nat) : Prop :=
 if cntM m = 0 then n3 = 0 else ∃ g cx, a3 = some ⟨g, 0, none⟩ ∧ n3 = 1 ∧ B ≤ g ∧ g < w.heap.size ∧ (∀ k x, cx[k]? = some x → w.cell? ⟨g, 0 + k, none⟩ = some x) ∧ NodeZ B m w (wholeT m) cx
theorem FirstAt.below {B : Nat} {m : Msh} {w w' : World} {a3 : Option Addr} {n3 : Nat} (h : FirstAt B m w a3 n3) (hb : Below w.heap.size w w') : FirstAt B m w' a3 n3 := by
 unfold FirstAt at *
 by_cases hc : cntM m = 0
 ·
  rw [if_pos hc] at *; exact h
 ·
  rw [if_neg hc] at *
  obtain ⟨g, cx, e1, e2, h1, h2, h3, h4⟩ := h
  exact ⟨g, cx, e1, e2, h1, Nat.lt_of_lt_of_le h2 hb.size, fun k x hk => (hb.cell (p := ⟨g, 0 + k, none⟩) h2).trans (h3 k x hk), NodeZ.below hb _ _ h4⟩
theorem FirstAt.keep {B : Nat} {m : Msh} {S : Nat → Prop} {w w' : World} {a3 : Option Addr} {n3 : Nat} (h : FirstAt B m w a3 n3) (hk : Keeps S w w') (hS : ∀ k, S k → k < B) : FirstAt B m w' a3 n3 := by
 unfold FirstAt at *
 by_cases hc : cntM m = 0
 ·
  rw [if_pos hc] at *; exact h
 ·
  rw [if_neg hc] at *
  obtain ⟨g, cx, e1, e2, h1, h2, h3, h4⟩ := h
  refine ⟨g, cx, e1, e2, h1, Nat.lt_of_lt_of_le h2 hk.size, fun k x hx => ?_, NodeZ.keep hk (fun k e => .inl (hS k e)) _ _ h4⟩
  have e := hk.block g h2 (fun e => by have := hS g e; omega)
  have h := h3 k x hx
  unfold World.cell? at h ⊢
  rw [e]; exact h
theorem Sb.base {B B' : Nat} {w : World} {b : Nat} (h : Sb B' w b) (hB : B ≤ B') : Sb B w b := ⟨Nat.le_trans hB h.1, h.2⟩
theorem NodeZ.base {B B' : Nat} {m : Msh} {w : World} (hB : B ≤ B') : ∀ (T : Tr) (cs : List Value), NodeZ B' m w T cs → NodeZ B m w T cs := by
 intro T
 induction T with
 | leaf l => rintro cs ⟨a, n, c, a2, c2, e, h, hs⟩; exact ⟨a, n, c, a2, c2, e, h, fun b off n c e => Sb.base (hs b off n c e) hB⟩
 | node l x y ihx ihy =>
  rintro cs ⟨a, n, c, g, off, cp, cx, cy, e, h, hg, l1, l2, h1, h2, hx, hy⟩
  exact ⟨a, n, c, g, off, cp, cx, cy, e, ⟨h.1, fun b off n c e => Sb.base (h.2 b off n c e) hB⟩, Sb.base hg hB, l1, l2, h1, h2, ihx _ hx, ihy _ hy⟩
theorem first_cells {w : World} {g : Nat} {cs : List Value} {T : TypeId} {row : Array Value} (hr : row = cs.toArray) (h : w.heap[g]? = some (.cells row T)) : ∀ k v, cs[k]? = some v → w.cell? ⟨g, 0 + k, none⟩ = some v := by
 subst hr
 intro k v hk
 refine cell_row h (0 + k) v ?_
 rw [Nat.zero_add, List.getElem?_toArray]; exact hk
def RBTo (w : World) (m : Msh) (a0 : Option Addr) (n0 c0 : Nat) (a1 : Option Addr) (n1 c1 : Nat) (a2 : Option Addr) (n2 c2 : Nat) (steps : Int) (B : Nat) (e : Ending) (w' : World) : Prop :=
 Below w.heap.size w w' ∧ (if checkF m ≠ 0 then e = .returned (.tuple #[.agg #[.slice none 0 0, .slice none 0 0, .slice none 0 0, .slice none 0 0], .int .i64 0, .int .i64 (checkF m)])
  else if steps < (stepsM m : Int) then e = .returned (.tuple #[.agg #[.slice none 0 0, .slice none 0 0, .slice none 0 0, .slice none 0 0], .int .i64 0, .int .i64 15])
  else ∃ a3 n3 c3, e = .returned (.tuple #[.agg #[.slice a0 n0 c0, .slice a1 n1 c1, .slice a2 n2 c2, .slice a3 n3 c3], .int .i64 (stepsM m : Int), .int .i64 0]) ∧ FirstAt B m w' a3 n3)
theorem whole_steps (m : Msh) (hc : cntM m ≠ 0) (hl : cntM m ≤ 4096) : stepsT (wholeT m) ≤ 1000000 := by
 have h1 := (steps_le _ (whole_good m hc)).2
 have h2 := whole_deep m hl
 rw [whole_l] at h1
 have h3 : (allL m).length = cntM m := by unfold allL; rw [List.length_range]; rfl
 rw [h3] at h1
 have h4 : deepT (wholeT m) * cntM m ≤ 12 * 4096 := Nat.mul_le_mul h2 hl
 omega
set_option maxRecDepth 100000 in
set_option maxHeartbeats 16000000 in
theorem rbuild_any (m : Msh) (w : World) (a0 : Option Addr) (n0 c0 : Nat) (a1 : Option Addr) (n1 c1 : Nat) (a2 : Option Addr) (n2 c2 : Nat) (hm : IsMesh w (.agg #[.slice a0 n0 c0, .slice a1 n1 c1, .slice a2 n2 c2]) m) (ok : m.ok) (hl : m.ts.length + m.bs.length ≤ 9223372036854775807) (steps : Int) (B : Nat) (hBw : B ≤ w.heap.size) :
  Calls Tryz.prog 7 #[.agg #[.slice a0 n0 c0, .slice a1 n1 c1, .slice a2 n2 c2], .int .i64 steps] w (RBTo w m a0 n0 c0 a1 n1 c1 a2 n2 c2 steps B) := by
 have HM := Lib.hid hm
 have HOK := Lib.hid (And.intro ok hl)
 have HBW := Lib.hid hBw
 have hA := alloc2_0 w (.cells #[.slice a0 n0 c0, .slice a1 n1 c1, .slice a2 n2 c2] 31) (.cells #[.slice none 0 0, .slice none 0 0, .slice none 0 0, .slice none 0 0] 35)
 have hB := alloc2_1 w (.cells #[.slice a0 n0 c0, .slice a1 n1 c1, .slice a2 n2 c2] 31) (.cells #[.slice none 0 0, .slice none 0 0, .slice none 0 0, .slice none 0 0] 35)
 have hB0 := alloc2_below w (.cells #[.slice a0 n0 c0, .slice a1 n1 c1, .slice a2 n2 c2] 31) (.cells #[.slice none 0 0, .slice none 0 0, .slice none 0 0, .slice none 0 0] 35)
 obtain ⟨W, hW⟩ : ∃ ww, ww = (w.alloc (.cells #[.slice a0 n0 c0, .slice a1 n1 c1, .slice a2 n2 c2] 31)).alloc (.cells #[.slice none 0 0, .slice none 0 0, .slice none 0 0, .slice none 0 0] 35) := ⟨_, rfl⟩
 rw [← hW] at hA hB hB0
 have CC := Lib.hid (rcheck_any _ m W (hm.below hB0) hl)
 have HP := Lib.hid hA
 have HZ := Lib.hid hB
 have HB := Lib.hid hB0
 have HWW := Lib.hid hW
 have HTO := Lib.hid (show RBTo w m a0 n0 c0 a1 n1 c1 a2 n2 c2 steps B = fun e w' => Below w.heap.size w w' ∧ (if checkF m ≠ 0 then e = .returned (.tuple #[.agg #[.slice none 0 0, .slice none 0 0, .slice none 0 0, .slice none 0 0], .int .i64 0, .int .i64 (checkF m)]) else if steps < (stepsM m : Int) then e = .returned (.tuple #[.agg #[.slice none 0 0, .slice none 0 0, .slice none 0 0, .slice none 0 0], .int .i64 0, .int .i64 15]) else ∃ a3 n3 c3, e = .returned (.tuple #[.agg #[.slice a0 n0 c0, .slice a1 n1 c1, .slice a2 n2 c2, .slice a3 n3 c3], .int .i64 (stepsM m : Int), .int .i64 0]) ∧ FirstAt B m w' a3 n3) from rfl)
 obtain ⟨QQ, hQQ⟩ : ∃ Q, Q = RBTo w m a0 n0 c0 a1 n1 c1 a2 n2 c2 steps B := ⟨_, rfl⟩
 obtain ⟨cd, hcd⟩ : ∃ c, c = checkF m := ⟨_, rfl⟩
 rw [← hQQ] at HTO ⊢
 rw [← hcd] at HTO CC
 have HCD := Lib.hid hcd
 clear hA hB hB0 hW hQQ hcd hm ok hl hBw
 go_enter Tryz.func7, Tryz.ntmps7
 go_upto_region 1 with (fail)
 rw [← HWW.out]
 clear HWW
 have p0 := cell_row HP.out 0 _ rfl
 have p1 := cell_row HP.out 1 _ rfl
 have p2 := cell_row HP.out 2 _ rfl
 go_wp2_with fail
 refine CC.out.mono ?_
 rintro e W1 ⟨rfl, hb⟩
 have HP1 := Lib.hid (vec_step HP.out hb)
 have HZ1 := Lib.hid (vec_step HZ.out hb)
 have HB1 := Lib.hid (HB.out.trans (hb.mono HB.out.size))
 clear hb p0 p1 p2 CC HP HZ HB
 clear W
 by_cases hc : cd = 0
 ·
  subst hc
  have p0 := cell_row HP1.out 0 _ rfl
  have p1 := cell_row HP1.out 1 _ rfl
  have p2 := cell_row HP1.out 2 _ rfl
  go_upto_region 5 with (with_reducible refine store_tree rfl (.tmp 8) (.tmp 21) rfl rfl W1.heap.size a0 n0 c0 a1 n1 c1 a2 n2 c2 none 0 0 rfl rfl _ (heap_alloc_new _ _) rfl ?_)
  clear p0 p1 p2
  have h8 : ((W1.alloc (.cells #[.slice none 0 0, .slice none 0 0, .slice none 0 0, .slice none 0 0] 35)).setRow W1.heap.size #[.slice a0 n0 c0, .slice a1 n1 c1, .slice a2 n2 c2, .slice none 0 0]).heap[W1.heap.size]? = some (.cells #[.slice a0 n0 c0, .slice a1 n1 c1, .slice a2 n2 c2, .slice none 0 0] 35) := setRow_heap _ _ _ _ _ _ (heap_alloc_new W1 (.cells #[.slice none 0 0, .slice none 0 0, .slice none 0 0, .slice none 0 0] 35))
  have hx := below_setRow (ext_alloc W1 (.cells #[.slice none 0 0, .slice none 0 0, .slice none 0 0, .slice none 0 0] 35)) (Nat.le_refl _) #[.slice a0 n0 c0, .slice a1 n1 c1, .slice a2 n2 c2, .slice none 0 0]
  obtain ⟨W2, hW⟩ : ∃ ww, ww = (W1.alloc (.cells #[.slice none 0 0, .slice none 0 0, .slice none 0 0, .slice none 0 0] 35)).setRow W1.heap.size #[.slice a0 n0 c0, .slice a1 n1 c1, .slice a2 n2 c2, .slice none 0 0] := ⟨_, rfl⟩
  rw [← hW] at h8 hx ⊢
  have HG8 := Lib.hid (show w.heap.size + 1 < W1.heap.size by have h1 := Base.lt_of_heap HZ1.out; exact h1)
  have HP2 := Lib.hid (vec_step HP1.out hx)
  have HZ2 := Lib.hid (vec_step HZ1.out hx)
  have HB2 := Lib.hid (HB1.out.trans (hx.mono HB1.out.size))
  have H82 := Lib.hid h8
  clear hx hW h8 HP1 HZ1 HB1
  generalize W1.heap.size = g8 at H82 HG8 ⊢
  clear W1
  obtain ⟨cnt, hcnt⟩ : ∃ c, c = cntM m := ⟨_, rfl⟩
  have CN := Lib.hid (fun w2 (hb : Below w.heap.size w w2) => (show Calls Tryz.prog 26 #[.agg #[.slice a0 n0 c0, .slice a1 n1 c1, .slice a2 n2 c2]] w2 (VTo (.int .i64 (cnt : Int)) w2) by rw [hcnt]; exact rcount_any _ m w2 (HM.out.below hb) HOK.out.2))
  have HCN := Lib.hid (And.intro hcnt (show cnt ≤ 4096 by rw [hcnt]; exact cnt_of HCD.out.symm))
  clear hcnt
  go_wp2_with fail
  obtain ⟨NB, hNB⟩ : ∃ x, x = W2.heap.size := ⟨_, rfl⟩
  have HO2 := Lib.hid (show Or6 W2 W2 NB (.slice none 0 0) (List.range 0) from ⟨Own.nil _ _ _ _ _, Below.refl _ _, by rw [hNB]; exact Nat.le_refl _⟩)
  have HNB := Lib.hid hNB
  have HGN := Lib.hid (show g8 < NB by rw [hNB]; exact Base.lt_of_heap H82.out)
  clear hNB
  go_loopg [10, 11] cnt (fun r n10 n11 wr => ∃ (k : Nat) (vo : Value), k + r = cnt ∧ n10 = vo ∧ n11 = .int .i64 (k : Int) ∧ Hid (Or6 W2 wr NB vo (List.range k)))
  case atStart => exact ⟨0, _, by omega, rfl, rfl, HO2⟩
  case round =>
   obtain ⟨k, vo, hkr, rfl, rfl, hin⟩ := hrel
   have HKB := Lib.hid (show Below W2.heap.size W2 wr by rw [← HNB.out]; exact hin.out.kb)
   have HP3 := Lib.hid (vec_step HP2.out HKB.out)
   have HB3 := Lib.hid (HB2.out.trans (HKB.out.mono HB2.out.size))
   obtain ⟨ao, no, co, hvo⟩ := hin.out.o.slice_
   subst hvo
   have p0 := cell_row HP3.out 0 _ rfl
   have p1 := cell_row HP3.out 1 _ rfl
   have p2 := cell_row HP3.out 2 _ rfl
   have CN2 := Lib.hid (CN.out wr HB3.out)
   go_upto_region 8 with (fail)
   go_wp2_with fail
   refine CN2.out.mono ?_
   rintro e x1 ⟨rfl, hb⟩
   have HO3 := Lib.hid (hin.out.step hb)
   clear hin p0 p1 p2 CN2 HKB HP3 HB3 hb
   by_cases hk : k < cnt
   ·
    have d1 : decide ((k : Int) < (cnt : Int)) = true := decide_eq_true (by omega)
    have d1b : decide (k < cnt) = true := decide_eq_true hk
    have HKK := Lib.hid (show k < 4096 by have := HCN.out.2; omega)
    have HMS := Lib.hid (show cnt - (k + 1) < gk by omega)
    have HKR := Lib.hid (show k + 1 + (cnt - (k + 1)) = cnt by omega)
    have HO4 := Lib.hid (HO3.out.step (ext_alloc x1 (.cells #[.int .i64 (k : Int)] 3)))
    have R1 := Lib.hid (nums_one .i64 9223372036854775808 3 x1 k (by have := HKK.out; omega))
    have HA := Lib.hid (show ((List.range k).length + [k].length) * 8 ≤ 140737488355328 by rw [List.length_range]; have := HKK.out; simp; omega)
    have HA2 := Lib.hid (show (List.range k).length + [k].length ≤ 140737488355328 by rw [List.length_range]; have := HKK.out; simp; omega)
    clear hkr hk
    go_upto_region 9 with (at_builtin; refine wpList_append_nums_at rfl (.tmp 28) (.tmp 30) 22 3 rfl .i64 9223372036854775808 8 NB ints (.slice ao no co) (List.range k) rfl HO4.out.o _ [k] rfl R1.out HA.out HA2.out HO4.out.nb ?_; intro v7 w7 hown7 hgr7 hv7; have HO5 := Lib.hid (HO4.out.grown hgr7 hown7); obtain ⟨a7, n7, c7, rfl⟩ := hown7.slice_; clear hown7 hgr7 hv7)
    clear d1 d1b HO3 HO4 R1 HA HA2
    have i9 : IntKind.i64.wrap ((k : Int) + 1) = ((k + 1 : Nat) : Int) := by have := HKK.out; rw [wrap_in (by omega) (by omega)]; omega
    go_wp2_with fail
    go_roundg (cnt - (k + 1))
    case measure => exact HMS.out
    case rel => exact ⟨k + 1, _, HKR.out, rfl, by first | rfl | go_num, Lib.hid (by rw [List.range_succ]; exact HO5.out)⟩
   ·
    have hkk : k = cnt := by omega
    subst hkk
    have d1 : decide ((k : Int) < (k : Int)) = false := decide_eq_false (by omega)
    have d2 : decide (k < k) = false := decide_eq_false (by omega)
    have hno : no = k := by have h := HO3.out.o.slice_len; simpa using h
    subst hno
    have HKB := Lib.hid (show Below W2.heap.size W2 x1 by rw [← HNB.out]; exact HO3.out.kb)
    have HP3 := Lib.hid (vec_step HP2.out HKB.out)
    have HZ3 := Lib.hid (vec_step HZ2.out HKB.out)
    have H83 := Lib.hid (vec_step H82.out HKB.out)
    have HB3 := Lib.hid (HB2.out.trans (HKB.out.mono HB2.out.size))
    have HBN := Lib.hid (show B ≤ NB by have h1 := HBW.out; have h2 := HB2.out.size; have h3 := HNB.out; omega)
    clear hkr hk HKB HP2 HZ2 H82 HB2 HO2 CN
    go_upto_region 11 with (fail)
    clear d1 d2
    by_cases hz : no = 0
    ·
     subst hz
     have HC0 := Lib.hid (show cntM m = 0 from HCN.out.1.symm)
     have HSM := Lib.hid (show (0 : Int) = (stepsM m : Int) by unfold stepsM; rw [if_pos HC0.out]; rfl)
     have HF1 := Lib.hid (show steps < 0 → ∀ w', Below w.heap.size w w' → QQ (.returned (.tuple #[.agg #[.slice none 0 0, .slice none 0 0, .slice none 0 0, .slice none 0 0], .int .i64 0, .int .i64 15])) w' by rw [HTO.out]; exact fun hs w' h => ⟨h, by rw [if_neg (fun h => h rfl), if_pos (by rw [← HSM.out]; exact hs)]⟩)
     have HF2 := Lib.hid (show ¬ steps < 0 → ∀ w' a3 n3 c3, Below w.heap.size w w' → FirstAt B m w' a3 n3 → QQ (.returned (.tuple #[.agg #[.slice a0 n0 c0, .slice a1 n1 c1, .slice a2 n2 c2, .slice a3 n3 c3], .int .i64 0, .int .i64 0])) w' by rw [HTO.out]; exact fun hs w' a3 n3 c3 h hf => ⟨h, by rw [if_neg (fun h => h rfl), if_neg (by rw [← HSM.out]; exact hs)]; exact ⟨a3, n3, c3, by rw [← HSM.out], hf⟩⟩)
     by_cases hs : steps < 0
     ·
      have d4 : decide (steps < 0) = true := decide_eq_true hs
      have HF := Lib.hid (HF1.out (by omega))
      clear hs
      go_wp2_with (with_reducible refine store_tree rfl (.tmp 4) (.tmp 48) rfl rfl (w.heap.size + 1) none 0 0 none 0 0 none 0 0 none 0 0 rfl rfl _ HZ3.out rfl ?_)
      refine bodyPost_ret (results_row_tmp2 rfl _ _ _ (w.heap.size + 1) 35 _ _ _ rfl (setRow_heap _ _ _ _ _ _ HZ3.out) Tryz.underlying35 tree_size) rfl ?_
      exact HF.out _ (below_setRow HB3.out (Nat.le_succ _) _)
     ·
      have d4 : decide (steps < 0) = false := decide_eq_false hs
      have HF := Lib.hid (fun w2 a3 n3 c3 h1 h2 => HF2.out (by omega) w2 a3 n3 c3 h1 h2)
      clear hs
      have t0 := cell_row H83.out 0 _ rfl
      have t1 := cell_row H83.out 1 _ rfl
      have t2 := cell_row H83.out 2 _ rfl
      have t3 := cell_row H83.out 3 _ rfl
      go_wp2_with (with_reducible refine store_tree rfl (.tmp 4) (.tmp 49) rfl rfl (w.heap.size + 1) a0 n0 c0 a1 n1 c1 a2 n2 c2 none 0 0 rfl rfl _ HZ3.out rfl ?_)
      refine bodyPost_ret (results_row_tmp2 rfl _ _ _ (w.heap.size + 1) 35 _ _ _ rfl (setRow_heap _ _ _ _ _ _ HZ3.out) Tryz.underlying35 tree_size) rfl ?_
      exact HF.out _ _ _ _ (below_setRow HB3.out (Nat.le_succ _) _) (by unfold FirstAt; rw [if_pos HC0.out])
    ·
     have hc0 : cntM m ≠ 0 := by rw [← HCN.out.1]; exact hz
     have d5 : decide (0 < (no : Int)) = true := decide_eq_true (by omega)
     have d5b : decide (0 < no) = true := decide_eq_true (by omega)
     obtain ⟨sm, hsm⟩ : ∃ x, x = stepsT (wholeT m) := ⟨_, rfl⟩
     have HSM := Lib.hid (show (sm : Int) = (stepsM m : Int) by unfold stepsM; rw [if_neg hc0, hsm])
     have HF1 := Lib.hid (show steps < (sm : Int) → ∀ w', Below w.heap.size w w' → QQ (.returned (.tuple #[.agg #[.slice none 0 0, .slice none 0 0, .slice none 0 0, .slice none 0 0], .int .i64 0, .int .i64 15])) w' by rw [HTO.out]; exact fun hs w' h => ⟨h, by rw [if_neg (fun h => h rfl), if_pos (by rw [← HSM.out]; exact hs)]⟩)
     have HF2 := Lib.hid (show ¬ steps < (sm : Int) → ∀ w' a3 n3 c3, Below w.heap.size w w' → FirstAt B m w' a3 n3 → QQ (.returned (.tuple #[.agg #[.slice a0 n0 c0, .slice a1 n1 c1, .slice a2 n2 c2, .slice a3 n3 c3], .int .i64 (sm : Int), .int .i64 0])) w' by rw [HTO.out]; exact fun hs w' a3 n3 c3 h hf => ⟨h, by rw [if_neg (fun h => h rfl), if_neg (by rw [← HSM.out]; exact hs)]; exact ⟨a3, n3, c3, by rw [← HSM.out], hf⟩⟩)
     have hal : allL m = List.range no := by unfold allL; rw [HCN.out.1]; rfl
     have CNW := Lib.hid (node_walk m HOK.out.1 HOK.out.2 (.agg #[.slice a0 n0 c0, .slice a1 n1 c1, .slice a2 n2 c2]) NB no (List.range no) (.slice ao no co) x1 (HM.out.below HB3.out) HO3.out.o.nums (sf_own HO3.out.o (Nat.le_refl _)) HO3.out.nb (by simp) (by simp; omega) (by simp; have := HCN.out.2; omega) (fun T e => by
      have h := whole_steps m hc0 (by rw [← HCN.out.1]; exact HCN.out.2)
      rw [e]
      unfold wholeT at h
      rw [hal] at h
      have e2 : m.ts.length + m.bs.length = no := HCN.out.1.symm
      rw [e2] at h
      exact h))
     have e3 : treeF m no (List.range no) = wholeT m := by
      unfold wholeT
      have e2 : m.ts.length + m.bs.length = no := HCN.out.1.symm
      rw [hal, e2]
     rw [e3, ← hsm] at CNW
     have HC0 := Lib.hid hc0
     have HN8 := HGN 
     have HNL := Lib.hid HO3.out.nb
     clear e3 hal hsm hc0 hz HTO HO3
     have p0 := cell_row HP3.out 0 _ rfl
     have p1 := cell_row HP3.out 1 _ rfl
     have p2 := cell_row HP3.out 2 _ rfl
     go_wp2_with fail
     refine CNW.out.mono ?_
     rintro e x2 ⟨cs, rfl, hn, hb⟩
     have HP4 := Lib.hid (vec_step HP3.out hb)
     have HZ4 := Lib.hid (vec_step HZ3.out hb)
     have H84 := Lib.hid (vec_step H83.out hb)
     have HB4 := Lib.hid (HB3.out.trans (hb.mono HB3.out.size))
     have HNL2 := Lib.hid (Nat.le_trans HNL.out hb.size)
     clear d5 d5b p0 p1 p2 hb CNW HP3 HZ3 H83 HB3
     obtain ⟨b1, m1, c1', b2, m2, c2', ecs⟩ := NodeZ.form hn
     obtain ⟨bW, hbW⟩ : ∃ x, x = boxL m (wholeT m).l := ⟨_, rfl⟩
     rw [← hbW] at ecs
     clear hbW
     subst ecs
     have hcs : (ncells (.slice b1 m1 c1') bW (.slice b2 m2 c2')).toArray = #[.slice b1 m1 c1', .int .i64 bW.lo.x, .int .i64 bW.lo.y, .int .i64 bW.lo.z, .int .i64 bW.hi.x, .int .i64 bW.hi.y, .int .i64 bW.hi.z, .slice b2 m2 c2'] := rfl
     rw [hcs]
     have HNZ := Lib.hid hn
     clear hcs hn
     go_upto_region 13 with (with_reducible refine store_nd rfl (.tmp 12) (.tmp 39) rfl rfl x2.heap.size b1 m1 c1' bW b2 m2 c2' rfl rfl _ (heap_alloc_new _ _) rfl ?_)
     have h12 : ((x2.alloc (.cells #[.slice none 0 0, .int .i64 0, .int .i64 0, .int .i64 0, .int .i64 0, .int .i64 0, .int .i64 0, .slice none 0 0] 77)).setRow x2.heap.size #[.slice b1 m1 c1', .int .i64 bW.lo.x, .int .i64 bW.lo.y, .int .i64 bW.lo.z, .int .i64 bW.hi.x, .int .i64 bW.hi.y, .int .i64 bW.hi.z, .slice b2 m2 c2']).heap[x2.heap.size]? = some (.cells #[.slice b1 m1 c1', .int .i64 bW.lo.x, .int .i64 bW.lo.y, .int .i64 bW.lo.z, .int .i64 bW.hi.x, .int .i64 bW.hi.y, .int .i64 bW.hi.z, .slice b2 m2 c2'] 77) := setRow_heap _ _ _ _ _ _ (heap_alloc_new _ _)
     have hx := below_setRow (ext_alloc x2 (.cells #[.slice none 0 0, .int .i64 0, .int .i64 0, .int .i64 0, .int .i64 0, .int .i64 0, .int .i64 0, .slice none 0 0] 77)) (Nat.le_refl _) #[.slice b1 m1 c1', .int .i64 bW.lo.x, .int .i64 bW.lo.y, .int .i64 bW.lo.z, .int .i64 bW.hi.x, .int .i64 bW.hi.y, .int .i64 bW.hi.z, .slice b2 m2 c2']
     obtain ⟨x3, hW⟩ : ∃ ww, ww = (x2.alloc (.cells #[.slice none 0 0, .int .i64 0, .int .i64 0, .int .i64 0, .int .i64 0, .int .i64 0, .int .i64 0, .slice none 0 0] 77)).setRow x2.heap.size #[.slice b1 m1 c1', .int .i64 bW.lo.x, .int .i64 bW.lo.y, .int .i64 bW.lo.z, .int .i64 bW.hi.x, .int .i64 bW.hi.y, .int .i64 bW.hi.z, .slice b2 m2 c2'] := ⟨_, rfl⟩
     rw [← hW] at h12 hx ⊢
     have H12 := Lib.hid h12
     have HZ5 := Lib.hid (vec_step HZ4.out hx)
     have H85 := Lib.hid (vec_step H84.out hx)
     have HB5 := Lib.hid (HB4.out.trans (hx.mono HB4.out.size))
     have HNZ2 := Lib.hid (NodeZ.below hx _ _ HNZ.out)
     have HS2 := Lib.hid (show NB ≤ x3.heap.size by have h1 := HN8.out; have h2 := HBN.out; have h3 := hx.size; have h4 := HNL2.out; omega)
     clear hW h12 hx HP4 HZ4 H84 HB4 HNZ
     clear HNL2
     generalize x2.heap.size = g12 at H12 ⊢
     clear x2
     have hkn := heap_alloc_new x3 (.cells #[.slice b1 m1 c1', .int .i64 bW.lo.x, .int .i64 bW.lo.y, .int .i64 bW.lo.z, .int .i64 bW.hi.x, .int .i64 bW.hi.y, .int .i64 bW.hi.z, .slice b2 m2 c2'] 77)
     have hkx := ext_alloc x3 (.cells #[.slice b1 m1 c1', .int .i64 bW.lo.x, .int .i64 bW.lo.y, .int .i64 bW.lo.z, .int .i64 bW.hi.x, .int .i64 bW.hi.y, .int .i64 bW.hi.z, .slice b2 m2 c2'] 77)
     have N9 := vec_step H85.out hkx
     have fz : (x3.alloc (.cells #[.slice b1 m1 c1', .int .i64 bW.lo.x, .int .i64 bW.lo.y, .int .i64 bW.lo.z, .int .i64 bW.hi.x, .int .i64 bW.hi.y, .int .i64 bW.hi.z, .slice b2 m2 c2'] 77)).frozen? ⟨g8, 3, none⟩ = false := frozen_of_row _ _ _ _ _ N9
     have k6 : (x3.alloc (.cells #[.slice b1 m1 c1', .int .i64 bW.lo.x, .int .i64 bW.lo.y, .int .i64 bW.lo.z, .int .i64 bW.hi.x, .int .i64 bW.hi.y, .int .i64 bW.hi.z, .slice b2 m2 c2'] 77)).cell? ⟨g8, 3, none⟩ = some (.slice none 0 0) := cell_row N9 3 _ rfl
     have HKN := Lib.hid hkn
     have HKX := Lib.hid hkx
     have HN9 := Lib.hid N9
     clear hkn hkx N9
     have u0 := cell_row H12.out 0 _ rfl
     have u1 := cell_row H12.out 1 _ rfl
     have u2 := cell_row H12.out 2 _ rfl
     have u3 := cell_row H12.out 3 _ rfl
     have u4 := cell_row H12.out 4 _ rfl
     have u5 := cell_row H12.out 5 _ rfl
     have u6 := cell_row H12.out 6 _ rfl
     have u7 := cell_row H12.out 7 _ rfl
     go_upto_region 15 with (fail)
     have hkp := (Keeps.refl (fun k => k = g8) (x3.alloc (.cells #[.slice b1 m1 c1', .int .i64 bW.lo.x, .int .i64 bW.lo.y, .int .i64 bW.lo.z, .int .i64 bW.hi.x, .int .i64 bW.hi.y, .int .i64 bW.hi.z, .slice b2 m2 c2'] 77))).setCell g8 3 (.slice (some ⟨x3.heap.size, 0, none⟩) 1 1) (.inl rfl)
     have m9 : ((x3.alloc (.cells #[.slice b1 m1 c1', .int .i64 bW.lo.x, .int .i64 bW.lo.y, .int .i64 bW.lo.z, .int .i64 bW.hi.x, .int .i64 bW.hi.y, .int .i64 bW.hi.z, .slice b2 m2 c2'] 77)).setCell ⟨g8, 3, none⟩ (.slice (some ⟨x3.heap.size, 0, none⟩) 1 1)).heap[g8]? = some (.cells #[.slice a0 n0 c0, .slice a1 n1 c1, .slice a2 n2 c2, .slice (some ⟨x3.heap.size, 0, none⟩) 1 1] 35) := heap_setCell_same _ _ _ _ _ _ HN9.out
     obtain ⟨x4, hW⟩ : ∃ ww, ww = (x3.alloc (.cells #[.slice b1 m1 c1', .int .i64 bW.lo.x, .int .i64 bW.lo.y, .int .i64 bW.lo.z, .int .i64 bW.hi.x, .int .i64 bW.hi.y, .int .i64 bW.hi.z, .slice b2 m2 c2'] 77)).setCell ⟨g8, 3, none⟩ (.slice (some ⟨x3.heap.size, 0, none⟩) 1 1) := ⟨_, rfl⟩
     rw [← hW] at hkp m9 ⊢
     have HM9 := Lib.hid m9
     have HK9 := Lib.hid (keep_cell hkp HKN.out (fun e => by have h1 := HN8.out; have h2 := HS2.out; omega))
     have HZ9 := Lib.hid (keep_cell hkp (vec_step HZ5.out HKX.out) (fun e => by have := HG8.out; omega))
     have HB9 := Lib.hid (hkp.below w.heap.size (Nat.le_trans HB5.out.size HKX.out.size) (fun k e => by have := HG8.out; omega))
     have HB10 := Lib.hid ((HB5.out.trans (HKX.out.mono HB5.out.size)).trans HB9.out)
     have HNZ3 := Lib.hid (NodeZ.keep hkp (fun k e => .inl (by rw [e]; exact HN8.out)) _ _ (NodeZ.below HKX.out _ _ HNZ2.out))
     have HKB := Lib.hid (show B ≤ x3.heap.size by have h1 := HBN.out; have h2 := HS2.out; omega)
     clear hkp m9 hW HKN HKX HN9 HB9 HZ5 H85 HB5 HNZ2 k6 fz u0 u1 u2 u3 u4 u5 u6 u7 H12
     clear HS2
     generalize x3.heap.size = kb at HM9 HK9 HKB ⊢
     clear x3
     have HFA := Lib.hid (fun (row : Array Value) => (show FirstAt B m (x4.setRow (w.heap.size + 1) row) (some ⟨kb, 0, none⟩) 1 by
      unfold FirstAt
      rw [if_neg HC0.out]
      have hk := (Keeps.refl (fun k => k = w.heap.size + 1) x4).setRow (w.heap.size + 1) row (.inl rfl)
      have hne : kb ≠ w.heap.size + 1 := fun e => by have h1 := HK9.out; rw [e, HZ9.out] at h1; simp at h1
      have hK2 := (setRow_other x4 (w.heap.size + 1) kb row hne).trans HK9.out
      refine ⟨kb, _, rfl, rfl, HKB.out, Base.lt_of_heap hK2, first_cells (cs := ncells (.slice b1 m1 c1') bW (.slice b2 m2 c2')) rfl hK2, ?_⟩
      exact NodeZ.base HBN.out _ _ (NodeZ.keep hk (fun k e => .inl (by rw [e]; have h1 := HN8.out; have h2 := HG8.out; omega)) _ _ HNZ3.out)))
     by_cases hs : steps < (sm : Int)
     ·
      have d4 : decide (steps < (sm : Int)) = true := decide_eq_true hs
      have HF := Lib.hid (HF1.out (by omega))
      clear hs
      go_wp2_with (with_reducible refine store_tree rfl (.tmp 4) (.tmp 48) rfl rfl (w.heap.size + 1) none 0 0 none 0 0 none 0 0 none 0 0 rfl rfl _ HZ9.out rfl ?_)
      refine bodyPost_ret (results_row_tmp2 rfl _ _ _ (w.heap.size + 1) 35 _ _ _ rfl (setRow_heap _ _ _ _ _ _ HZ9.out) Tryz.underlying35 tree_size) rfl ?_
      exact HF.out _ (below_setRow HB10.out (Nat.le_succ _) _)
     ·
      have d4 : decide (steps < (sm : Int)) = false := decide_eq_false hs
      have HF := Lib.hid (fun w2 a3 n3 c3 h1 h2 => HF2.out (by omega) w2 a3 n3 c3 h1 h2)
      clear hs
      have t0 := cell_row HM9.out 0 _ rfl
      have t1 := cell_row HM9.out 1 _ rfl
      have t2 := cell_row HM9.out 2 _ rfl
      have t3 := cell_row HM9.out 3 _ rfl
      go_wp2_with (with_reducible refine store_tree rfl (.tmp 4) (.tmp 49) rfl rfl (w.heap.size + 1) a0 n0 c0 a1 n1 c1 a2 n2 c2 (some ⟨kb, 0, none⟩) 1 1 rfl rfl _ HZ9.out rfl ?_)
      refine bodyPost_ret (results_row_tmp2 rfl _ _ _ (w.heap.size + 1) 35 _ _ _ rfl (setRow_heap _ _ _ _ _ _ HZ9.out) Tryz.underlying35 tree_size) rfl ?_
      exact HF.out _ _ _ _ (below_setRow HB10.out (Nat.le_succ _) _) (HFA.out _)
 ·
  have d0 : decide (cd = 0) = false := decide_eq_false hc
  have HF := Lib.hid (show ∀ w', Below w.heap.size w w' → QQ (.returned (.tuple #[.agg #[.slice none 0 0, .slice none 0 0, .slice none 0 0, .slice none 0 0], .int .i64 0, .int .i64 cd])) w' by rw [HTO.out]; exact fun w' h => ⟨h, by rw [if_pos hc]⟩)
  go_wp2_with (with_reducible refine store_tree rfl (.tmp 4) (.tmp 18) rfl rfl (w.heap.size + 1) none 0 0 none 0 0 none 0 0 none 0 0 rfl rfl _ HZ1.out rfl ?_)
  refine bodyPost_ret (results_row_tmp2 rfl _ _ _ (w.heap.size + 1) 35 _ _ _ rfl (setRow_heap _ _ _ _ _ _ HZ1.out) Tryz.underlying35 tree_size) rfl ?_
  exact HF.out _ (below_setRow HB1.out (Nat.le_succ _) _)
end Go.Proofs.YtdaokkgenfpmhaaGreat.BvhRa

/- The walk of the document's ask. -/
set_option linter.unusedVariables false
set_option linter.unusedSimpArgs false
namespace Go.Proofs.YtdaokkgenfpmhaaGreat.BvhY
open Go Go.RowKit Go.Sort Go.Lib FixM Base Num FixW Qb Qt Qa Qf Qg VecW VecV VecU LightQ LightC MeshM Rec MeshA MeshC MeshD MeshP HitM HitT HitX HitN HitS HitV HitR HitR2 HitR3 BvhM BvhA BvhB BvhS BvhX BvhE BvhF BvhQ BvhO BvhN
theorem al5 (w : World) (A B C D E : Obj) : (((((w.alloc A).alloc B).alloc C).alloc D).alloc E).heap[w.heap.size]? = some A ∧ (((((w.alloc A).alloc B).alloc C).alloc D).alloc E).heap[w.heap.size + 1]? = some B ∧ (((((w.alloc A).alloc B).alloc C).alloc D).alloc E).heap[w.heap.size + 1 + 1]? = some C ∧ (((((w.alloc A).alloc B).alloc C).alloc D).alloc E).heap[w.heap.size + 1 + 1 + 1]? = some D ∧ (((((w.alloc A).alloc B).alloc C).alloc D).alloc E).heap[w.heap.size + 1 + 1 + 1 + 1]? = some E ∧ Below w.heap.size w (((((w.alloc A).alloc B).alloc C).alloc D).alloc E) := by
 obtain ⟨h0, h1, h2, h3, hb⟩ := al4 w A B C D
 obtain ⟨W, hW⟩ : ∃ W, W = (((w.alloc A).alloc B).alloc C).alloc D := ⟨_, rfl⟩
 have sz : W.heap.size = w.heap.size + 1 + 1 + 1 + 1 := by rw [hW]; simp
 rw [← hW] at h0 h1 h2 h3 hb ⊢
 have hx := ext_alloc W E
 have e0 := heap_alloc_new W E
 rw [sz] at e0
 exact ⟨vec_step h0 hx, vec_step h1 hx, vec_step h2 hx, vec_step h3 hx, e0, hb.trans (hx.mono hb.size)⟩
theorem ask_stop (m : Msh) (r : Ry) (least : Int) (T : Tr) (h : Ht) (hs : boxH r (boxL m T.l) = none ∨ ∃ near, boxH r (boxL m T.l) = some near ∧ 0 ≤ h.i ∧ h.t < near) : askT m r least T h = (h, 1) := by
 cases T with
 | leaf l =>
  unfold askT
  rcases hs with e | ⟨near, e, h1, h2⟩
  ·
   have e' : boxH r (boxL m l) = none := e
   rw [e']
  ·
   have e' : boxH r (boxL m l) = some near := e
   rw [e']; dsimp only; rw [if_pos ⟨h1, h2⟩]
 | node l a b =>
  unfold askT
  rcases hs with e | ⟨near, e, h1, h2⟩
  ·
   have e' : boxH r (boxL m l) = none := e
   rw [e']
  ·
   have e' : boxH r (boxL m l) = some near := e
   rw [e']; dsimp only; rw [if_pos ⟨h1, h2⟩]
theorem ask_leaf (m : Msh) (r : Ry) (least : Int) (l : List Nat) (h : Ht) (near : Int) (e : boxH r (boxL m l) = some near) (hn : ¬ (0 ≤ h.i ∧ h.t < near)) : askT m r least (.leaf l) h = (l.foldl (tryF m r least) h, 1 + l.length) := by
 unfold askT; rw [e]; dsimp only; rw [if_neg hn]
theorem ask_node (m : Msh) (r : Ry) (least : Int) (l : List Nat) (a b : Tr) (h : Ht) (near : Int) (e : boxH r (boxL m l) = some near) (hn : ¬ (0 ≤ h.i ∧ h.t < near)) : askT m r least (.node l a b) h = ((askT m r least b (askT m r least a h).1).1, 1 + (askT m r least a h).2 + (askT m r least b (askT m r least a h).1).2) := by
 conv => lhs; unfold askT
 rw [e]; dsimp only; rw [if_neg hn]
theorem ask_le (m : Msh) (r : Ry) (least : Int) (T : Tr) (hg : T.good) (h : nodesT T + T.l.length ≤ 100000) (b : Ht) : (askT m r least T b).2 ≤ 100000 := Nat.le_trans (ask_cost m r least T hg b) h
theorem kids_fit {l : List Nat} {a b : Tr} (hg : (Tr.node l a b).good) (h : nodesT (.node l a b) + (Tr.node l a b).l.length ≤ 100000) : (a.good ∧ nodesT a + a.l.length ≤ 100000) ∧ b.good ∧ nodesT b + b.l.length ≤ 100000 := by
 have hp := hg.2.2.length_eq
 rw [List.length_append] at hp
 have e1 : nodesT (.node l a b) = 1 + nodesT a + nodesT b := rfl
 have e2 : (Tr.node l a b).l.length = l.length := rfl
 exact ⟨⟨hg.1, by omega⟩, hg.2.1, by omega⟩
theorem alloc_hitY (w : World) : (Instr.alloc 42 true (.tuple #[])).run Tryz.prog w = .ok (.pointer (some ⟨w.heap.size, 0, none⟩)) (w.alloc (.cells #[.int .i64 0, .int .i64 0, .int .i64 0, .int .i64 0] 42)) := by kernel_rfl
theorem row_one4 (a b c d : Int) : (#[Value.int .i64 a, .int .i64 b, .int .i64 c, .int .i64 d] : Array Value).all (·.oneCell') = true := by
 rw [Array.all_eq_true']; intro v hv; simp at hv; rcases hv with rfl | rfl | rfl | rfl <;> rfl
def AskTo (w : World) (res : Ht × Nat) (e : Ending) (w' : World) : Prop := e = .returned (.tuple #[hitV res.1, .int .i64 (res.2 : Int)]) ∧ Below w.heap.size w w'
set_option maxRecDepth 100000 in
set_option maxHeartbeats 16000000 in
theorem ask_walk (m : Msh) (ok : m.ok) (hl : m.ts.length + m.bs.length ≤ 9223372036854775807) (r : Ry) (hr : r.ok) (least : Int) (s0 s1 s2 fv : Value) :
  ∀ (d : Nat) (T : Tr) (cs : List Value) (w : World) (best : Ht), NodeAt m w T cs → deepT T ≤ d → T.good → nodesT T + T.l.length ≤ 100000 → IsMesh w (.agg #[s0, s1, s2]) m → Calls Tryz.prog 32 #[.agg #[s0, s1, s2, fv], .agg cs.toArray, rayV r, .int .i64 least, hitV best] w (AskTo w (askT m r least T best)) := by
 intro d
 induction d with
 | zero => intro T cs w best _ h; have := deep_pos T; omega
 | succ d ih =>
  intro T cs w best hn hd hg hc hm
  have IH := Lib.hid ih
  obtain ⟨bx, hbx⟩ : ∃ x, x = boxL m T.l := ⟨_, rfl⟩
  have ob : HitM.Bx.ok bx := by rw [hbx, ← boxS_boxes]; exact BvhX.ok_boxS (ok_boxes m ok) _
  have CB := Lib.hid (fun w2 => rhbox_any r bx hr ob w2)
  obtain ⟨sa, sn, sc, kd, rfl, hsh⟩ := hn.cells
  rw [← hbx] at hn ⊢
  have HN := Lib.hid hn
  have HM := Lib.hid hm
  have HSH := Lib.hid hsh
  have HBX := Lib.hid hbx
  have HD := Lib.hid hd
  have HC := Lib.hid hc
  have HG := Lib.hid hg
  have HTL := Lib.hid (ask_le m r least T hg hc)
  have CS := Lib.hid (fun (w2 : World) (h2 : IsMesh w2 (.agg #[s0, s1, s2]) m) (i : Nat) (hi : i < 9223372036854775808) => rshape_any _ m w2 h2 ok hl (i : Int) ⟨by omega, by omega⟩ r hr least)
  obtain ⟨sh, hsh2⟩ : ∃ f : Nat → Option Ht, f = fun (i : Nat) => shapeF m (i : Int) r least := ⟨_, rfl⟩
  have CS2 := Lib.hid (fun (w2 : World) (h2 : IsMesh w2 (.agg #[s0, s1, s2]) m) (i : Nat) (hi : i < 9223372036854775808) => (show Calls Tryz.prog 57 #[.agg #[s0, s1, s2], .int .i64 (i : Int), rayV r, .int .i64 least] w2 (VTo (shapeR (sh i)) w2) by rw [hsh2]; exact CS.out w2 h2 i hi))
  have HTF := Lib.hid (show ∀ h i, tryF m r least h i = match sh i with | none => h | some x => if betterF x h then x else h by rw [hsh2]; intro h i; rfl)
  have HA0 := Lib.hid (fun (h : Ht) (e : boxH r (boxL m T.l) = none ∨ ∃ near, boxH r (boxL m T.l) = some near ∧ 0 ≤ h.i ∧ h.t < near) => ask_stop m r least T h e)
  have HA1 := Lib.hid (fun (l : List Nat) (h : Ht) (near : Int) (e : boxH r (boxL m l) = some near) (hn : ¬ (0 ≤ h.i ∧ h.t < near)) => ask_leaf m r least l h near e hn)
  have HA2 := Lib.hid (fun (l : List Nat) (a b : Tr) (h : Ht) (near : Int) (e : boxH r (boxL m l) = some near) (hn : ¬ (0 ≤ h.i ∧ h.t < near)) => ask_node m r least l a b h near e hn)
  obtain ⟨tf, htf⟩ : ∃ x, x = tryF m r least := ⟨_, rfl⟩
  rw [← htf] at HTF HA1
  rw [← hbx] at HA0
  obtain ⟨bh, hbh⟩ : ∃ x, x = boxH r bx := ⟨_, rfl⟩
  rw [← hbh] at CB HA0
  have HBH := Lib.hid hbh
  obtain ⟨bt, bi, bu, bv⟩ := best
  obtain ⟨⟨oX, oY, oZ⟩, ⟨dX, dY, dZ⟩⟩ := r
  dsimp only [rayV, hitV, boxV] at CB CS2 IH ⊢
  obtain ⟨res, hres⟩ : ∃ x, x = askT m ⟨⟨oX, oY, oZ⟩, ⟨dX, dY, dZ⟩⟩ least T ⟨bt, bi, bu, bv⟩ := ⟨_, rfl⟩
  rw [← hres]
  have HRS := Lib.hid hres
  obtain ⟨hA, hB, hC, hD, hE, hB0⟩ := al5 w (.cells #[s0, s1, s2, fv] 35) (.cells #[.slice sa sn sc, .int .i64 bx.lo.x, .int .i64 bx.lo.y, .int .i64 bx.lo.z, .int .i64 bx.hi.x, .int .i64 bx.hi.y, .int .i64 bx.hi.z, kd] 77) (.cells #[.int .i64 oX, .int .i64 oY, .int .i64 oZ, .int .i64 dX, .int .i64 dY, .int .i64 dZ] 48) (.cells #[.int .i64 bt, .int .i64 bi, .int .i64 bu, .int .i64 bv] 42) (.cells #[.int .i64 0, .int .i64 0, .int .i64 0, .int .i64 0] 42)
  obtain ⟨W, hW⟩ : ∃ ww, ww = ((((w.alloc (.cells #[s0, s1, s2, fv] 35)).alloc (.cells #[.slice sa sn sc, .int .i64 bx.lo.x, .int .i64 bx.lo.y, .int .i64 bx.lo.z, .int .i64 bx.hi.x, .int .i64 bx.hi.y, .int .i64 bx.hi.z, kd] 77)).alloc (.cells #[.int .i64 oX, .int .i64 oY, .int .i64 oZ, .int .i64 dX, .int .i64 dY, .int .i64 dZ] 48)).alloc (.cells #[.int .i64 bt, .int .i64 bi, .int .i64 bu, .int .i64 bv] 42)).alloc (.cells #[.int .i64 0, .int .i64 0, .int .i64 0, .int .i64 0] 42) := ⟨_, rfl⟩
  rw [← hW] at hA hB hC hD hE hB0
  have HT := Lib.hid hA
  have HN8 := Lib.hid hB
  have HY := Lib.hid hC
  have HZ := Lib.hid hE
  have HB := Lib.hid hB0
  have HS0 := Lib.hid (show Sc w W W (w.heap.size + 1 + 1 + 1) ⟨bt, bi, bu, bv⟩ from ⟨hD, hB0, Keeps.refl _ _⟩)
  have HWW := Lib.hid hW
  clear hA hB hC hD hE hB0 hW hn hd hg hc hm ob hbx hsh hsh2 htf hbh hres CS ih
  have hcs : (ncells (.slice sa sn sc) bx kd).toArray = #[.slice sa sn sc, .int .i64 bx.lo.x, .int .i64 bx.lo.y, .int .i64 bx.lo.z, .int .i64 bx.hi.x, .int .i64 bx.hi.y, .int .i64 bx.hi.z, kd] := rfl
  rw [hcs]
  clear hcs
  go_enter Tryz.func32, Tryz.ntmps32
  go_upto_region 1 with (fail)
  rw [← HWW.out]
  clear HWW
  have y0 := cell_row HY.out 0 _ rfl
  have y1 := cell_row HY.out 1 _ rfl
  have y2 := cell_row HY.out 2 _ rfl
  have y3 := cell_row HY.out 3 _ rfl
  have y4 := cell_row HY.out 4 _ rfl
  have y5 := cell_row HY.out 5 _ rfl
  have n0 := cell_row HN8.out 0 _ rfl
  have n1 := cell_row HN8.out 1 _ rfl
  have n2 := cell_row HN8.out 2 _ rfl
  have n3 := cell_row HN8.out 3 _ rfl
  have n4 := cell_row HN8.out 4 _ rfl
  have n5 := cell_row HN8.out 5 _ rfl
  have n6 := cell_row HN8.out 6 _ rfl
  have n7 := cell_row HN8.out 7 _ rfl
  go_wp2_with fail
  refine (CB.out _).mono ?_
  rintro e x1 ⟨rfl, hb⟩
  have HS9 := Lib.hid (HS0.out.step hb)
  have HT9 := Lib.hid (vec_step HT.out hb)
  have HN89 := Lib.hid (vec_step HN8.out hb)
  have HY9 := Lib.hid (vec_step HY.out hb)
  have HZ9 := Lib.hid (vec_step HZ.out hb)
  have HB9 := Lib.hid (HB.out.trans (hb.mono HB.out.size))
  clear hb y0 y1 y2 y3 y4 y5 n0 n1 n2 n3 n4 n5 n6 n7 CB HS0 HT HN8 HY HZ HB
  obtain ⟨gR, hgR⟩ : ∃ zz, zz = w.heap.size + 1 + 1 + 1 + 1 := ⟨_, rfl⟩
  rw [← hgR] at HZ9 ⊢
  obtain ⟨gB, hgB⟩ : ∃ zz, zz = w.heap.size + 1 + 1 + 1 := ⟨_, rfl⟩
  rw [← hgB] at HS9 ⊢
  have HGE := Lib.hid (show w.heap.size + 1 + 1 < gB ∧ gB ≠ gR ∧ w.heap.size ≤ gR by omega)
  clear hgR hgB
  have HS1 := Lib.hid (show Sc w x1 x1 gB ⟨bt, bi, bu, bv⟩ from ⟨HS9.out.row, HS9.out.hb, Keeps.refl _ _⟩)
  have c0 := cell_row HS9.out.row 0 _ rfl
  have c1 := cell_row HS9.out.row 1 _ rfl
  have c2 := cell_row HS9.out.row 2 _ rfl
  have c3 := cell_row HS9.out.row 3 _ rfl
  cases hbh : bh with
  | none =>
   have HRE := Lib.hid (show res = (⟨bt, bi, bu, bv⟩, 1) by rw [HRS.out]; exact HA0.out _ (.inl hbh))
   dsimp only [boxR, Option.getD_none, Option.isSome_none]
   go_wp2_with (with_reducible refine store_hit rfl (.tmp 10) (.tmp 42) rfl rfl gR bt bi bu bv rfl rfl _ HZ9.out rfl ?_)
   refine bodyPost_ret (results_row_tmp rfl _ _ _ gR 42 _ _ _ rfl (setRow_heap _ _ _ _ _ _ HZ9.out) Tryz.underlying42 hit_size) rfl ?_
   rw [HRE.out]
   exact ⟨rfl, below_setRow HS9.out.hb HGE.out.2.2 _⟩
  | some near =>
   dsimp only [boxR, Option.getD_some, Option.isSome_some]
   by_cases hN : 0 ≤ bi ∧ bt < near
   ·
    have d1 : decide (0 ≤ bi) = true := decide_eq_true hN.1
    have d2 : decide (bt < near) = true := decide_eq_true hN.2
    have HRE := Lib.hid (show res = (⟨bt, bi, bu, bv⟩, 1) by rw [HRS.out]; exact HA0.out _ (.inr ⟨near, hbh, hN.1, hN.2⟩))
    go_wp2_with (with_reducible refine store_hit rfl (.tmp 10) (.tmp 42) rfl rfl gR bt bi bu bv rfl rfl _ HZ9.out rfl ?_)
    refine bodyPost_ret (results_row_tmp rfl _ _ _ gR 42 _ _ _ rfl (setRow_heap _ _ _ _ _ _ HZ9.out) Tryz.underlying42 hit_size) rfl ?_
    rw [HRE.out]
    exact ⟨rfl, below_setRow HS9.out.hb HGE.out.2.2 _⟩
   ·
    have HNO := Lib.hid hN
    have HNR := Lib.hid (show boxH ⟨⟨oX, oY, oZ⟩, ⟨dX, dY, dZ⟩⟩ bx = some near by rw [← HBH.out]; exact hbh)
    clear hbh HA0 hN
    go_upto_region 2 with (fail)
    go_cut [41] from 29 to 41 (fun n41 wc => n41 = .bool false ∧ x1 = wc)
    case first =>
     have hN := HNO.out
     by_cases h1 : 0 ≤ bi
     ·
      have d1 : decide (0 ≤ bi) = true := decide_eq_true h1
      have d2 : decide (bt < near) = false := decide_eq_false (fun h => hN ⟨h1, h⟩)
      clear hN
      go_wp2_with fail
      go_meet
      case rel => exact ⟨rfl, rfl⟩
     ·
      have d1 : decide (0 ≤ bi) = false := decide_eq_false h1
      clear hN
      go_wp2_with fail
      go_meet
      case rel => exact ⟨rfl, rfl⟩
    case rest =>
     obtain ⟨rfl, rfl⟩ := hcut
     go_upto_region 5 with (fail)
     clear c0 c1 c2 c3
     cases T with
     | leaf l =>
      obtain ⟨a9, n9, c9, a2, c2, e9, hnm⟩ := HN.out
      have e7 : kd = .slice a2 0 c2 := congrArg (fun l => l.getD 7 undef) e9
      subst e7
      obtain ⟨av, lc, hvl, -, hbd, hco⟩ := HSH.out.open_
      have hlp : 1 ≤ l.length := HG.out.1
      have hle : l.length ≤ 100000 := by have h := HC.out; exact Nat.le_trans (Nat.le_add_left _ _) h
      obtain ⟨lb, lo, rfl, hlb, hlc⟩ := hco 0 (by show 0 < l.length; omega)
      simp only [Value.slice.injEq] at hvl
      obtain ⟨rfl, hsn, rfl⟩ := hvl
      have HSN := Lib.hid (show sn = l.length from hsn)
      have HLB := Lib.hid hlb
      have HLC := Lib.hid (show ∀ i (h : i < l.length), w.cell? ⟨lb, lo + i, none⟩ = some (.int .i64 (l[i] : Int)) from hlc)
      have HBD := Lib.hid (show ∀ x ∈ l, x < 9223372036854775808 from hbd)
      have HRL := Lib.hid (show res = (l.foldl tf ⟨bt, bi, bu, bv⟩, 1 + l.length) by rw [HRS.out]; exact HA1.out l _ near (by rw [← show bx = boxL m l from HBX.out]; exact HNR.out) HNO.out)
      have HLE := Lib.hid hle
      clear e9 hnm hsn hlb hlc hbd hco hle HRS HA1 HA2 HBX HSH HN IH HD HG HC HTL HNR HNO HBH
      have HS2 := Lib.hid (show Sc w x1 x1 gB ((l.take 0).foldl tf ⟨bt, bi, bu, bv⟩) from HS1.out)
      have n0 := cell_row HN89.out 0 _ rfl
      have n1 := cell_row HN89.out 1 _ rfl
      have n2 := cell_row HN89.out 2 _ rfl
      have n3 := cell_row HN89.out 3 _ rfl
      have n4 := cell_row HN89.out 4 _ rfl
      have n5 := cell_row HN89.out 5 _ rfl
      have n6 := cell_row HN89.out 6 _ rfl
      have n7 := cell_row HN89.out 7 _ rfl
      go_wp2_with fail
      clear n0 n1 n2 n3 n4 n5 n6 n7
      go_loopg [14, 19] sn (fun r n14 n19 wr => ∃ k c : Nat, k + r = sn ∧ n14 = .int .i64 (c : Int) ∧ n19 = .int .i64 (k : Int) ∧ Hid (c = k + 1 ∧ Sc w x1 wr gB ((l.take k).foldl tf ⟨bt, bi, bu, bv⟩)))
      case atStart => exact ⟨0, 1, by omega, rfl, rfl, Lib.hid ⟨rfl, HS2.out⟩⟩
      case round =>
       obtain ⟨k, c, hkr, rfl, rfl, hin⟩ := hrel
       have HT := Lib.hid (keep_cell hin.out.2.k HT9.out (fun e => by have := HGE.out; omega))
       have HN8 := Lib.hid (keep_cell hin.out.2.k HN89.out (fun e => by have := HGE.out; omega))
       have HY := Lib.hid (keep_cell hin.out.2.k HY9.out (fun e => by have := HGE.out; omega))
       have HZ := Lib.hid (keep_cell hin.out.2.k HZ9.out (fun e => by have := HGE.out; omega))
       by_cases hk : k < sn
       ·
        have d1 : decide ((k : Int) < (sn : Int)) = true := decide_eq_true (by omega)
        have d1b : decide (k < sn) = true := decide_eq_true hk
        have HMS := Lib.hid (show sn - (k + 1) < gk by omega)
        have HKR := Lib.hid (show k + 1 + (sn - (k + 1)) = sn by omega)
        have hkl : k < l.length := by have := HSN.out; omega
        have HCB := Lib.hid (show c = k + 1 ∧ k < 100000 by have h1 := hin.out.1; have h2 := HLE.out; omega)
        have HFD := Lib.hid (show (l.take (k + 1)).foldl tf ⟨bt, bi, bu, bv⟩ = tf ((l.take k).foldl tf ⟨bt, bi, bu, bv⟩) l[k] by rw [List.take_add_one, List.getElem?_eq_getElem hkl, List.foldl_append]; rfl)
        have z0 := (hin.out.2.hb.cell (p := ⟨lb, lo + k, none⟩) HLB.out).trans (HLC.out k hkl)
        have hib := HBD.out _ (List.getElem_mem hkl)
        obtain ⟨i, hi⟩ : ∃ x, x = l[k] := ⟨_, rfl⟩
        rw [← hi] at HFD z0 hib
        obtain ⟨bs, hbs⟩ : ∃ x, x = (l.take k).foldl tf ⟨bt, bi, bu, bv⟩ := ⟨_, rfl⟩
        rw [← hbs] at HFD
        have hs1 := hin.out.2
        rw [← hbs] at hs1
        have HS3 := Lib.hid hs1
        have HFE := Lib.hid (HFD.out.trans (HTF.out bs i))
        obtain ⟨ct, ci, cu, cv⟩ := bs
        have CS3 := Lib.hid (fun w2 (hb : Below wr.heap.size wr w2) => CS2.out w2 (HM.out.below (hin.out.2.hb.trans (hb.mono hin.out.2.hb.size))) i hib)
        have Z0 := Lib.hid z0
        obtain ⟨cn, hc2⟩ : ∃ x, x = c + 1 := ⟨_, rfl⟩
        have HC2 := Lib.hid (show cn = k + 1 + 1 by have := HCB.out.1; omega)
        have i1 : IntKind.i64.wrap ((c : Int) + 1) = (cn : Int) := by have := HCB.out; rw [wrap_in (by omega) (by omega)]; omega
        have i2 : IntKind.i64.wrap ((k : Int) + 1) = ((k + 1 : Nat) : Int) := by have := HCB.out; rw [wrap_in (by omega) (by omega)]; omega
        clear hkr hkl hi hbs hs1 hin z0 hib hc2 HFD
        have I2 := Lib.hid i2
        clear i2
        have n0 := cell_row HN8.out 0 _ rfl
        go_upto_region 13 with (fail)
        clear n0 d1 d1b i1
        cases hsh : sh i with
        | none =>
         have CS4 := Lib.hid (fun w2 (hb : Below wr.heap.size wr w2) => (show Calls Tryz.prog 57 #[.agg #[s0, s1, s2], .int .i64 (i : Int), .agg #[.int .i64 oX, .int .i64 oY, .int .i64 oZ, .int .i64 dX, .int .i64 dY, .int .i64 dZ], .int .i64 least] w2 (VTo (.tuple #[.agg #[.int .i64 0, .int .i64 (-1), .int .i64 0, .int .i64 0], .bool false]) w2) by have h := CS3.out w2 hb; rw [hsh] at h; exact h))
         have HFG := HFE.out
         rw [hsh] at HFG
         dsimp only at HFG
         have HFH := Lib.hid HFG
         clear HFG HFE CS3 hsh
         refine wp_region_free 129 [0, 1, 2, 3, 4, 5, 6, 7, 8, 9, 10, 11, 12, 15] [⟨13, 20, #[.int .i64 0, .int .i64 0, .int .i64 0, .int .i64 0], 42, 14, 97, #[.int .i64 0, .int .i64 (-1), .int .i64 0, .int .i64 0]⟩] (by kernel_rfl) rfl (by kernel_rfl) (by
          intro x hx
          simp only [List.mem_cons, List.not_mem_nil, or_false] at hx
          subst hx
          exact ⟨⟨_, rfl, ⟨⟨_, rfl, alloc_hitY⟩, rfl, rfl⟩⟩, _, rfl, ⟨⟨_, rfl, hit_size⟩, rfl, rfl, rfl, row_one4 _ _ _ _⟩⟩) ?_
         refine Walk.step (A := ?Aq10) (o := ?oq10) ?eq10 ?wq10 87 ?dq10 (by simp) ?hq10 ?nq10
         case eq10 => simp only [List.getElem?_toArray, List.getElem?_cons_succ, List.getElem?_cons_zero]; exact rfl
         case wq10 => exact rfl
         case dq10 => exact rfl
         case hq10 =>
          intro W9 hW9
          go_big_quiet_op
          exact rfl
         refine Walk.step (A := ?Aq11) (o := ?oq11) ?eq11 ?wq11 88 ?dq11 (by simp) ?hq11 ?nq11
         case eq11 => simp only [List.getElem?_toArray, List.getElem?_cons_succ, List.getElem?_cons_zero]; exact rfl
         case wq11 => exact rfl
         case dq11 => exact rfl
         case hq11 =>
          intro W9 hW9
          have z0 := fun d os => cell_regrown (cell_row (vec_step HT.out hW9) 0 _ rfl) d os
          have z1 := fun d os => cell_regrown (cell_row (vec_step HT.out hW9) 1 _ rfl) d os
          have z2 := fun d os => cell_regrown (cell_row (vec_step HT.out hW9) 2 _ rfl) d os
          go_big_quiet_op
          exact rfl
         refine Walk.step (A := ?Aq12) (o := ?oq12) ?eq12 ?wq12 89 ?dq12 (by simp) ?hq12 ?nq12
         case eq12 => simp only [List.getElem?_toArray, List.getElem?_cons_succ, List.getElem?_cons_zero]; exact rfl
         case wq12 => exact rfl
         case dq12 => exact rfl
         case hq12 =>
          intro W9 hW9
          go_big_quiet_op
          exact rfl
         refine Walk.step (A := ?Aq13) (o := ?oq13) ?eq13 ?wq13 90 ?dq13 (by simp) ?hq13 ?nq13
         case eq13 => simp only [List.getElem?_toArray, List.getElem?_cons_succ, List.getElem?_cons_zero]; exact rfl
         case wq13 => exact rfl
         case dq13 => exact rfl
         case hq13 =>
          intro W9 hW9
          have z0 := fun d os => cell_regrown (cell_row (vec_step HN8.out hW9) 0 _ rfl) d os
          go_big_quiet_op
          exact rfl
         refine Walk.step (A := ?Aq14) (o := ?oq14) ?eq14 ?wq14 91 ?dq14 (by simp) ?hq14 ?nq14
         case eq14 => simp only [List.getElem?_toArray, List.getElem?_cons_succ, List.getElem?_cons_zero]; exact rfl
         case wq14 => exact rfl
         case dq14 => exact rfl
         case hq14 =>
          intro W9 hW9
          go_big_quiet_op
          exact rfl
         refine Walk.step (A := ?Aq15) (o := ?oq15) ?eq15 ?wq15 92 ?dq15 (by simp) ?hq15 ?nq15
         case eq15 => simp only [List.getElem?_toArray, List.getElem?_cons_succ, List.getElem?_cons_zero]; exact rfl
         case wq15 => exact rfl
         case dq15 => exact rfl
         case hq15 =>
          intro W9 hW9
          have z0 := hk
          go_big_quiet_op
          exact rfl
         refine Walk.step (A := ?Aq16) (o := ?oq16) ?eq16 ?wq16 93 ?dq16 (by simp) ?hq16 ?nq16
         case eq16 => simp only [List.getElem?_toArray, List.getElem?_cons_succ, List.getElem?_cons_zero]; exact rfl
         case wq16 => exact rfl
         case dq16 => exact rfl
         case hq16 =>
          intro W9 hW9
          have z0 := fun d os => cell_regrown ((hW9.cell (p := ⟨lb, lo + k, none⟩) (Nat.lt_of_lt_of_le HLB.out HS3.out.hb.size)).trans Z0.out) d os
          go_big_quiet_op
          exact rfl
         refine Walk.step (A := ?Aq17) (o := ?oq17) ?eq17 ?wq17 94 ?dq17 (by simp) ?hq17 ?nq17
         case eq17 => simp only [List.getElem?_toArray, List.getElem?_cons_succ, List.getElem?_cons_zero]; exact rfl
         case wq17 => exact rfl
         case dq17 => exact rfl
         case hq17 =>
          intro W9 hW9
          have z0 := fun d os => cell_regrown (cell_row (vec_step HY.out hW9) 0 _ rfl) d os
          have z1 := fun d os => cell_regrown (cell_row (vec_step HY.out hW9) 1 _ rfl) d os
          have z2 := fun d os => cell_regrown (cell_row (vec_step HY.out hW9) 2 _ rfl) d os
          have z3 := fun d os => cell_regrown (cell_row (vec_step HY.out hW9) 3 _ rfl) d os
          have z4 := fun d os => cell_regrown (cell_row (vec_step HY.out hW9) 4 _ rfl) d os
          have z5 := fun d os => cell_regrown (cell_row (vec_step HY.out hW9) 5 _ rfl) d os
          go_big_quiet_op
          exact rfl
         refine Walk.step (A := ?Aq18) (o := ?oq18) ?eq18 ?wq18 95 ?dq18 (by simp) ?hq18 ?nq18
         case eq18 => simp only [List.getElem?_toArray, List.getElem?_cons_succ, List.getElem?_cons_zero]; exact rfl
         case wq18 => exact rfl
         case dq18 => exact rfl
         case hq18 =>
          intro W9 hW9
          go_big_quiet_op
          exact rfl
         refine Walk.step (A := ?Aq19) (o := ?oq19) ?eq19 ?wq19 96 ?dq19 (by simp) ?hq19 ?nq19
         case eq19 => simp only [List.getElem?_toArray, List.getElem?_cons_succ, List.getElem?_cons_zero]; exact rfl
         case wq19 => exact rfl
         case dq19 => exact rfl
         case hq19 =>
          intro W9 hW9
          have Q9 := qb (P := Tryz.prog) (W := W9) (fun w2 hb => CS4.out w2 (hW9.trans (hb.mono hW9.size)))
          go_big_quiet_op
          apply Exists.intro
          refine ⟨fun _ => ?_, ?_⟩
          ·
           with_reducible exact Q9 _ _
          ·
           exact rfl
         refine Walk.step (A := ?Aq110) (o := ?oq110) ?eq110 ?wq110 86 ?dq110 (by simp) ?hq110 ?nq110
         case eq110 => simp only [List.getElem?_toArray, List.getElem?_cons_succ, List.getElem?_cons_zero]; exact rfl
         case wq110 => exact rfl
         case dq110 => exact rfl
         case hq110 =>
          intro W9 hW9
          go_big_quiet_op
          exact rfl
         refine Walk.step (A := ?Aq111) (o := ?oq111) ?eq111 ?wq111 97 ?dq111 (by simp) ?hq111 ?nq111
         case eq111 => simp only [List.getElem?_toArray, List.getElem?_cons_succ, List.getElem?_cons_zero]; exact rfl
         case wq111 => exact rfl
         case dq111 => exact rfl
         case hq111 =>
          intro W9 hW9
          go_big_quiet_op
          exact rfl
         refine Walk.step (A := ?Aq112) (o := ?oq112) ?eq112 ?wq112 98 ?dq112 (by simp) ?hq112 ?nq112
         case eq112 => simp only [List.getElem?_toArray, List.getElem?_cons_succ, List.getElem?_cons_zero]; exact rfl
         case wq112 => exact rfl
         case dq112 => exact rfl
         case hq112 =>
          intro W9 hW9
          go_big_quiet_op
          exact rfl
         refine Walk.step (A := ?Aq113) (o := ?oq113) ?eq113 ?wq113 21 ?dq113 (by simp) ?hq113 ?nq113
         case eq113 => simp only [List.getElem?_toArray, List.getElem?_cons_succ, List.getElem?_cons_zero]; exact rfl
         case wq113 => exact rfl
         case dq113 => exact rfl
         case hq113 =>
          intro W9 hW9
          go_big_quiet_op
          exact rfl
         refine ⟨?_, ?_⟩
         ·
          intro x hx
          simp only [List.mem_cons, List.not_mem_nil, or_false] at hx
          subst hx
          rfl
         intro G hG hne x2 hb hk
         have k9 := hk _ (List.mem_cons_self ..)
         dsimp only at k9
         clear hG hne hk
         simp only [lay, Act.put, List.setIfInBounds_toArray, List.set_cons_succ, List.set_cons_zero, ptr]
         generalize G 13 = gh at k9 ⊢
         clear G
         have HS4 := Lib.hid (HS3.out.step hb)
         have HH := Lib.hid k9
         clear k9 CS4 HT HN8 HY HZ Z0
         have hb2 := hb
         clear hb hb2
         clear HS3
         have c0 := cell_row HS4.out.row 0 (.int .i64 ct) rfl
         have c1 := cell_row HS4.out.row 1 (.int .i64 ci) rfl
         have c2 := cell_row HS4.out.row 2 (.int .i64 cu) rfl
         have c3 := cell_row HS4.out.row 3 (.int .i64 cv) rfl
         have h0 := cell_row HH.out 0 _ rfl
         have h1 := cell_row HH.out 1 _ rfl
         have h2 := cell_row HH.out 2 _ rfl
         have h3 := cell_row HH.out 3 _ rfl
         have i2 := I2.out
         go_wp2_with fail
         go_roundg (sn - (k + 1))
         case measure => exact HMS.out
         case rel => exact ⟨k + 1, cn, HKR.out, rfl, by first | rfl | go_num, Lib.hid ⟨HC2.out, by rw [HFH.out]; exact HS4.out⟩⟩
        | some hh =>
         obtain ⟨ht, hi, hu, hv⟩ := hh
         have CS4 := Lib.hid (fun w2 (hb : Below wr.heap.size wr w2) => (show Calls Tryz.prog 57 #[.agg #[s0, s1, s2], .int .i64 (i : Int), .agg #[.int .i64 oX, .int .i64 oY, .int .i64 oZ, .int .i64 dX, .int .i64 dY, .int .i64 dZ], .int .i64 least] w2 (VTo (.tuple #[.agg #[.int .i64 ht, .int .i64 hi, .int .i64 hu, .int .i64 hv], .bool true]) w2) by have h := CS3.out w2 hb; rw [hsh] at h; exact h))
         have HFG := HFE.out
         rw [hsh] at HFG
         dsimp only at HFG
         have HFH := Lib.hid HFG
         clear HFG HFE CS3 hsh
         refine wp_region_free 129 [0, 1, 2, 3, 4, 5, 6, 7, 8, 9, 10, 11, 12, 15] [⟨13, 20, #[.int .i64 0, .int .i64 0, .int .i64 0, .int .i64 0], 42, 14, 97, #[.int .i64 ht, .int .i64 hi, .int .i64 hu, .int .i64 hv]⟩] (by kernel_rfl) rfl (by kernel_rfl) (by
          intro x hx
          simp only [List.mem_cons, List.not_mem_nil, or_false] at hx
          subst hx
          exact ⟨⟨_, rfl, ⟨⟨_, rfl, alloc_hitY⟩, rfl, rfl⟩⟩, _, rfl, ⟨⟨_, rfl, hit_size⟩, rfl, rfl, rfl, row_one4 _ _ _ _⟩⟩) ?_
         refine Walk.step (A := ?Ap10) (o := ?op10) ?ep10 ?wp10 87 ?dp10 (by simp) ?hp10 ?np10
         case ep10 => simp only [List.getElem?_toArray, List.getElem?_cons_succ, List.getElem?_cons_zero]; exact rfl
         case wp10 => exact rfl
         case dp10 => exact rfl
         case hp10 =>
          intro W9 hW9
          go_big_quiet_op
          exact rfl
         refine Walk.step (A := ?Ap11) (o := ?op11) ?ep11 ?wp11 88 ?dp11 (by simp) ?hp11 ?np11
         case ep11 => simp only [List.getElem?_toArray, List.getElem?_cons_succ, List.getElem?_cons_zero]; exact rfl
         case wp11 => exact rfl
         case dp11 => exact rfl
         case hp11 =>
          intro W9 hW9
          have z0 := fun d os => cell_regrown (cell_row (vec_step HT.out hW9) 0 _ rfl) d os
          have z1 := fun d os => cell_regrown (cell_row (vec_step HT.out hW9) 1 _ rfl) d os
          have z2 := fun d os => cell_regrown (cell_row (vec_step HT.out hW9) 2 _ rfl) d os
          go_big_quiet_op
          exact rfl
         refine Walk.step (A := ?Ap12) (o := ?op12) ?ep12 ?wp12 89 ?dp12 (by simp) ?hp12 ?np12
         case ep12 => simp only [List.getElem?_toArray, List.getElem?_cons_succ, List.getElem?_cons_zero]; exact rfl
         case wp12 => exact rfl
         case dp12 => exact rfl
         case hp12 =>
          intro W9 hW9
          go_big_quiet_op
          exact rfl
         refine Walk.step (A := ?Ap13) (o := ?op13) ?ep13 ?wp13 90 ?dp13 (by simp) ?hp13 ?np13
         case ep13 => simp only [List.getElem?_toArray, List.getElem?_cons_succ, List.getElem?_cons_zero]; exact rfl
         case wp13 => exact rfl
         case dp13 => exact rfl
         case hp13 =>
          intro W9 hW9
          have z0 := fun d os => cell_regrown (cell_row (vec_step HN8.out hW9) 0 _ rfl) d os
          go_big_quiet_op
          exact rfl
         refine Walk.step (A := ?Ap14) (o := ?op14) ?ep14 ?wp14 91 ?dp14 (by simp) ?hp14 ?np14
         case ep14 => simp only [List.getElem?_toArray, List.getElem?_cons_succ, List.getElem?_cons_zero]; exact rfl
         case wp14 => exact rfl
         case dp14 => exact rfl
         case hp14 =>
          intro W9 hW9
          go_big_quiet_op
          exact rfl
         refine Walk.step (A := ?Ap15) (o := ?op15) ?ep15 ?wp15 92 ?dp15 (by simp) ?hp15 ?np15
         case ep15 => simp only [List.getElem?_toArray, List.getElem?_cons_succ, List.getElem?_cons_zero]; exact rfl
         case wp15 => exact rfl
         case dp15 => exact rfl
         case hp15 =>
          intro W9 hW9
          have z0 := hk
          go_big_quiet_op
          exact rfl
         refine Walk.step (A := ?Ap16) (o := ?op16) ?ep16 ?wp16 93 ?dp16 (by simp) ?hp16 ?np16
         case ep16 => simp only [List.getElem?_toArray, List.getElem?_cons_succ, List.getElem?_cons_zero]; exact rfl
         case wp16 => exact rfl
         case dp16 => exact rfl
         case hp16 =>
          intro W9 hW9
          have z0 := fun d os => cell_regrown ((hW9.cell (p := ⟨lb, lo + k, none⟩) (Nat.lt_of_lt_of_le HLB.out HS3.out.hb.size)).trans Z0.out) d os
          go_big_quiet_op
          exact rfl
         refine Walk.step (A := ?Ap17) (o := ?op17) ?ep17 ?wp17 94 ?dp17 (by simp) ?hp17 ?np17
         case ep17 => simp only [List.getElem?_toArray, List.getElem?_cons_succ, List.getElem?_cons_zero]; exact rfl
         case wp17 => exact rfl
         case dp17 => exact rfl
         case hp17 =>
          intro W9 hW9
          have z0 := fun d os => cell_regrown (cell_row (vec_step HY.out hW9) 0 _ rfl) d os
          have z1 := fun d os => cell_regrown (cell_row (vec_step HY.out hW9) 1 _ rfl) d os
          have z2 := fun d os => cell_regrown (cell_row (vec_step HY.out hW9) 2 _ rfl) d os
          have z3 := fun d os => cell_regrown (cell_row (vec_step HY.out hW9) 3 _ rfl) d os
          have z4 := fun d os => cell_regrown (cell_row (vec_step HY.out hW9) 4 _ rfl) d os
          have z5 := fun d os => cell_regrown (cell_row (vec_step HY.out hW9) 5 _ rfl) d os
          go_big_quiet_op
          exact rfl
         refine Walk.step (A := ?Ap18) (o := ?op18) ?ep18 ?wp18 95 ?dp18 (by simp) ?hp18 ?np18
         case ep18 => simp only [List.getElem?_toArray, List.getElem?_cons_succ, List.getElem?_cons_zero]; exact rfl
         case wp18 => exact rfl
         case dp18 => exact rfl
         case hp18 =>
          intro W9 hW9
          go_big_quiet_op
          exact rfl
         refine Walk.step (A := ?Ap19) (o := ?op19) ?ep19 ?wp19 96 ?dp19 (by simp) ?hp19 ?np19
         case ep19 => simp only [List.getElem?_toArray, List.getElem?_cons_succ, List.getElem?_cons_zero]; exact rfl
         case wp19 => exact rfl
         case dp19 => exact rfl
         case hp19 =>
          intro W9 hW9
          have Q9 := qb (P := Tryz.prog) (W := W9) (fun w2 hb => CS4.out w2 (hW9.trans (hb.mono hW9.size)))
          go_big_quiet_op
          apply Exists.intro
          refine ⟨fun _ => ?_, ?_⟩
          ·
           with_reducible exact Q9 _ _
          ·
           exact rfl
         refine Walk.step (A := ?Ap110) (o := ?op110) ?ep110 ?wp110 86 ?dp110 (by simp) ?hp110 ?np110
         case ep110 => simp only [List.getElem?_toArray, List.getElem?_cons_succ, List.getElem?_cons_zero]; exact rfl
         case wp110 => exact rfl
         case dp110 => exact rfl
         case hp110 =>
          intro W9 hW9
          go_big_quiet_op
          exact rfl
         refine Walk.step (A := ?Ap111) (o := ?op111) ?ep111 ?wp111 97 ?dp111 (by simp) ?hp111 ?np111
         case ep111 => simp only [List.getElem?_toArray, List.getElem?_cons_succ, List.getElem?_cons_zero]; exact rfl
         case wp111 => exact rfl
         case dp111 => exact rfl
         case hp111 =>
          intro W9 hW9
          go_big_quiet_op
          exact rfl
         refine Walk.step (A := ?Ap112) (o := ?op112) ?ep112 ?wp112 98 ?dp112 (by simp) ?hp112 ?np112
         case ep112 => simp only [List.getElem?_toArray, List.getElem?_cons_succ, List.getElem?_cons_zero]; exact rfl
         case wp112 => exact rfl
         case dp112 => exact rfl
         case hp112 =>
          intro W9 hW9
          go_big_quiet_op
          exact rfl
         refine Walk.step (A := ?Ap113) (o := ?op113) ?ep113 ?wp113 21 ?dp113 (by simp) ?hp113 ?np113
         case ep113 => simp only [List.getElem?_toArray, List.getElem?_cons_succ, List.getElem?_cons_zero]; exact rfl
         case wp113 => exact rfl
         case dp113 => exact rfl
         case hp113 =>
          intro W9 hW9
          go_big_quiet_op
          exact rfl
         refine ⟨?_, ?_⟩
         ·
          intro x hx
          simp only [List.mem_cons, List.not_mem_nil, or_false] at hx
          subst hx
          rfl
         intro G hG hne x2 hb hk
         have k9 := hk _ (List.mem_cons_self ..)
         dsimp only at k9
         clear hG hne hk
         simp only [lay, Act.put, List.setIfInBounds_toArray, List.set_cons_succ, List.set_cons_zero, ptr]
         generalize G 13 = gh at k9 ⊢
         clear G
         have HS4 := Lib.hid (HS3.out.step hb)
         have HH := Lib.hid k9
         clear k9 CS4 HT HN8 HY HZ Z0
         have hb2 := hb
         clear hb hb2
         clear HS3
         have c0 := cell_row HS4.out.row 0 (.int .i64 ct) rfl
         have c1 := cell_row HS4.out.row 1 (.int .i64 ci) rfl
         have c2 := cell_row HS4.out.row 2 (.int .i64 cu) rfl
         have c3 := cell_row HS4.out.row 3 (.int .i64 cv) rfl
         have h0 := cell_row HH.out 0 _ rfl
         have h1 := cell_row HH.out 1 _ rfl
         have h2 := cell_row HH.out 2 _ rfl
         have h3 := cell_row HH.out 3 _ rfl
         have i2 := I2.out
         by_cases b1 : ci < 0
         ·
          have w1 : decide (ci < 0) = true := decide_eq_true b1
          have HBT := Lib.hid (show betterF ⟨ht, hi, hu, hv⟩ ⟨ct, ci, cu, cv⟩ = true by unfold betterF; simp only [w1]; simp)
          go_wp2_with (with_reducible refine store_hit rfl (.tmp 9) (.tmp 126) rfl rfl gB ht hi hu hv rfl rfl _ HS4.out.row rfl ?_)
          go_roundg (sn - (k + 1))
          case measure => exact HMS.out
          case rel => exact ⟨k + 1, cn, HKR.out, rfl, by first | rfl | go_num, Lib.hid ⟨HC2.out, by rw [HFH.out, if_pos HBT.out]; exact HS4.out.put (h' := ⟨ht, hi, hu, hv⟩) (by have := HGE.out; omega)⟩⟩
         ·
          have w1 : decide (ci < 0) = false := decide_eq_false b1
          by_cases b2 : ht < ct
          ·
           have w2 : decide (ht < ct) = true := decide_eq_true b2
           have HBT := Lib.hid (show betterF ⟨ht, hi, hu, hv⟩ ⟨ct, ci, cu, cv⟩ = true by unfold betterF; simp only [w1, w2]; simp)
           go_wp2_with (with_reducible refine store_hit rfl (.tmp 9) (.tmp 126) rfl rfl gB ht hi hu hv rfl rfl _ HS4.out.row rfl ?_)
           go_roundg (sn - (k + 1))
           case measure => exact HMS.out
           case rel => exact ⟨k + 1, cn, HKR.out, rfl, by first | rfl | go_num, Lib.hid ⟨HC2.out, by rw [HFH.out, if_pos HBT.out]; exact HS4.out.put (h' := ⟨ht, hi, hu, hv⟩) (by have := HGE.out; omega)⟩⟩
          ·
           have w2 : decide (ht < ct) = false := decide_eq_false b2
           by_cases b3 : ht = ct
           ·
            have w3 : decide (ht = ct) = true := decide_eq_true b3
            have w3b : (ht == ct) = true := beq_iff_eq.2 b3
            have B3 := Lib.hid b3
            clear b3
            by_cases b4 : hi < ci
            ·
             have w4 : decide (hi < ci) = true := decide_eq_true b4
             have HBT := Lib.hid (show betterF ⟨ht, hi, hu, hv⟩ ⟨ct, ci, cu, cv⟩ = true by unfold betterF; simp only [w1, w2, w3, w4]; simp)
             go_wp2_with (with_reducible refine store_hit rfl (.tmp 9) (.tmp 126) rfl rfl gB ht hi hu hv rfl rfl _ HS4.out.row rfl ?_)
             go_roundg (sn - (k + 1))
             case measure => exact HMS.out
             case rel => exact ⟨k + 1, cn, HKR.out, rfl, by first | rfl | go_num, Lib.hid ⟨HC2.out, by rw [HFH.out, if_pos HBT.out]; exact HS4.out.put (h' := ⟨ht, hi, hu, hv⟩) (by have := HGE.out; omega)⟩⟩
            ·
             have w4 : decide (hi < ci) = false := decide_eq_false b4
             have HBT := Lib.hid (show ¬ betterF ⟨ht, hi, hu, hv⟩ ⟨ct, ci, cu, cv⟩ = true by unfold betterF; simp only [w1, w2, w3, w4]; simp)
             go_wp2_with fail
             go_roundg (sn - (k + 1))
             case measure => exact HMS.out
             case rel => exact ⟨k + 1, cn, HKR.out, rfl, by first | rfl | go_num, Lib.hid ⟨HC2.out, by rw [HFH.out, if_neg HBT.out]; exact HS4.out⟩⟩
           ·
            have w3 : decide (ht = ct) = false := decide_eq_false b3
            have w3b : (ht == ct) = false := beq_eq_false_iff_ne.2 b3
            have HBT := Lib.hid (show ¬ betterF ⟨ht, hi, hu, hv⟩ ⟨ct, ci, cu, cv⟩ = true by unfold betterF; simp only [w1, w2, w3]; simp)
            go_wp2_with fail
            go_roundg (sn - (k + 1))
            case measure => exact HMS.out
            case rel => exact ⟨k + 1, cn, HKR.out, rfl, by first | rfl | go_num, Lib.hid ⟨HC2.out, by rw [HFH.out, if_neg HBT.out]; exact HS4.out⟩⟩
       ·
        have hkn : k = sn := by omega
        have d1 : decide ((k : Int) < (sn : Int)) = false := decide_eq_false (by omega)
        have d1b : decide (k < sn) = false := decide_eq_false hk
        obtain ⟨bs, hbs⟩ : ∃ x, x = (l.take k).foldl tf ⟨bt, bi, bu, bv⟩ := ⟨_, rfl⟩
        have hs1 := hin.out.2
        rw [← hbs] at hs1
        have HRE := Lib.hid (show res = (bs, c) by rw [HRL.out, hbs, hin.out.1, hkn, HSN.out, List.take_length, Nat.add_comm])
        obtain ⟨ct, ci, cu, cv⟩ := bs
        clear HS9
        have HS9 := Lib.hid hs1
        clear HZ9
        have HZ9 := Lib.hid HZ.out
        clear hin hbs hs1 hkr hkn
        have n0 := cell_row HN8.out 0 _ rfl
        have c0 := cell_row HS9.out.row 0 (.int .i64 ct) rfl
        have c1 := cell_row HS9.out.row 1 (.int .i64 ci) rfl
        have c2 := cell_row HS9.out.row 2 (.int .i64 cu) rfl
        have c3 := cell_row HS9.out.row 3 (.int .i64 cv) rfl
        go_wp2_with (with_reducible refine store_hit rfl (.tmp 10) (.tmp 127) rfl rfl gR ct ci cu cv rfl rfl _ HZ9.out rfl ?_)
        refine bodyPost_ret (results_row_tmp rfl _ _ _ gR 42 _ _ _ rfl (setRow_heap _ _ _ _ _ _ HZ9.out) Tryz.underlying42 hit_size) rfl ?_
        rw [HRE.out]
        exact ⟨rfl, below_setRow HS9.out.hb HGE.out.2.2 _⟩
     | node l a b =>
      obtain ⟨a9, n9, c9, g, off, cp, cx, cy, e9, hnm, hg, -, -, hx, hy, hna, hnb⟩ := HN.out
      have e7 : kd = .slice (some ⟨g, off, none⟩) 2 cp := congrArg (fun l => l.getD 7 undef) e9
      subst e7
      obtain ⟨a1, n1, c1, k1, ex, -⟩ := hna.cells
      obtain ⟨a2, n2, c2, k2, ey, -⟩ := hnb.cells
      obtain ⟨bA, hbA⟩ : ∃ x, x = boxL m a.l := ⟨_, rfl⟩
      obtain ⟨bB, hbB⟩ : ∃ x, x = boxL m b.l := ⟨_, rfl⟩
      rw [← hbA] at ex
      rw [← hbB] at ey
      subst ex ey
      have HGL := Lib.hid hg
      have HX := Lib.hid hx
      have HXY := Lib.hid hy
      have HNA := Lib.hid hna
      have HNB := Lib.hid hnb
      have HKF := Lib.hid (kids_fit HG.out HC.out)
      have HDD := Lib.hid (show deepT a ≤ d ∧ deepT b ≤ d by have h := HD.out; have e : deepT (.node l a b) = 1 + max (deepT a) (deepT b) := rfl; omega)
      have HRL := Lib.hid (HRS.out.trans (HA2.out l a b _ near (by rw [← show bx = boxL m l from HBX.out]; exact HNR.out) HNO.out))
      obtain ⟨rA, hrA⟩ : ∃ x, x = askT m ⟨⟨oX, oY, oZ⟩, ⟨dX, dY, dZ⟩⟩ least a ⟨bt, bi, bu, bv⟩ := ⟨_, rfl⟩
      have HLA := Lib.hid (show rA.2 ≤ 100000 by rw [hrA]; exact ask_le m _ least a HKF.out.1.1 HKF.out.1.2 _)
      have CA := Lib.hid (fun w2 (hb : Below w.heap.size w w2) => (show Calls Tryz.prog 32 #[.agg #[s0, s1, s2, fv], .agg #[.slice a1 n1 c1, .int .i64 bA.lo.x, .int .i64 bA.lo.y, .int .i64 bA.lo.z, .int .i64 bA.hi.x, .int .i64 bA.hi.y, .int .i64 bA.hi.z, k1], .agg #[.int .i64 oX, .int .i64 oY, .int .i64 oZ, .int .i64 dX, .int .i64 dY, .int .i64 dZ], .int .i64 least, .agg #[.int .i64 bt, .int .i64 bi, .int .i64 bu, .int .i64 bv]] w2 (VTo (.tuple #[hitV rA.1, .int .i64 (rA.2 : Int)]) w2) by rw [hrA]; exact IH.out a _ w2 ⟨bt, bi, bu, bv⟩ (HNA.out.below hb) HDD.out.1 HKF.out.1.1 HKF.out.1.2 (HM.out.below hb)))
      rw [← hrA] at HRL
      obtain ⟨⟨ht, hi, hu, hv⟩, ca⟩ := rA
      dsimp only [hitV] at CA HRL HLA
      obtain ⟨rB, hrB⟩ : ∃ x, x = askT m ⟨⟨oX, oY, oZ⟩, ⟨dX, dY, dZ⟩⟩ least b ⟨ht, hi, hu, hv⟩ := ⟨_, rfl⟩
      have HLB := Lib.hid (show rB.2 ≤ 100000 by rw [hrB]; exact ask_le m _ least b HKF.out.2.1 HKF.out.2.2 _)
      have CC := Lib.hid (fun w2 (hb : Below w.heap.size w w2) => (show Calls Tryz.prog 32 #[.agg #[s0, s1, s2, fv], .agg #[.slice a2 n2 c2, .int .i64 bB.lo.x, .int .i64 bB.lo.y, .int .i64 bB.lo.z, .int .i64 bB.hi.x, .int .i64 bB.hi.y, .int .i64 bB.hi.z, k2], .agg #[.int .i64 oX, .int .i64 oY, .int .i64 oZ, .int .i64 dX, .int .i64 dY, .int .i64 dZ], .int .i64 least, .agg #[.int .i64 ht, .int .i64 hi, .int .i64 hu, .int .i64 hv]] w2 (VTo (.tuple #[hitV rB.1, .int .i64 (rB.2 : Int)]) w2) by rw [hrB]; exact IH.out b _ w2 ⟨ht, hi, hu, hv⟩ (HNB.out.below hb) HDD.out.2 HKF.out.2.1 HKF.out.2.2 (HM.out.below hb)))
      rw [← hrB] at HRL
      obtain ⟨⟨it, ii, iu, iv⟩, cb⟩ := rB
      dsimp only [hitV] at CC HRL HLB
      obtain ⟨c12, hc12⟩ : ∃ x, x = 1 + ca := ⟨_, rfl⟩
      obtain ⟨c13, hc13⟩ : ∃ x, x = c12 + cb := ⟨_, rfl⟩
      have HRE := Lib.hid (show res = (⟨it, ii, iu, iv⟩, c13) by rw [HRL.out, hc13, hc12])
      have i1 : IntKind.i64.wrap (1 + (ca : Int)) = (c12 : Int) := by have := HLA.out; rw [wrap_in (by omega) (by omega)]; omega
      have i2 : IntKind.i64.wrap ((c12 : Int) + (cb : Int)) = (c13 : Int) := by have := HLA.out; have := HLB.out; rw [wrap_in (by omega) (by omega)]; omega
      have I1 := Lib.hid i1
      have I2 := Lib.hid i2
      clear e9 hnm hg hx hy hna hnb hbA hbB hrA hrB hc12 hc13 i1 i2 HRS HA1 HA2 HBX HSH HN IH HD HG HC HTL HNR HNO HBH HRL
      have n7 := cell_row HN89.out 7 _ rfl
      go_upto_region 6 with (fail)
      clear n7
      have HSR := Lib.hid (show x1.heap[gB]? = some (.cells #[.int .i64 bt, .int .i64 bi, .int .i64 bu, .int .i64 bv] 42) from HS9.out.row)
      refine wp_region_free 129 [0, 1, 2, 3, 4, 5, 6, 7, 8, 9, 10, 11, 14] [⟨12, 15, #[.int .i64 0, .int .i64 0, .int .i64 0, .int .i64 0], 42, 13, 57, #[.int .i64 ht, .int .i64 hi, .int .i64 hu, .int .i64 hv]⟩] (by kernel_rfl) rfl (by kernel_rfl) (by
       intro x hx
       simp only [List.mem_cons, List.not_mem_nil, or_false] at hx
       subst hx
       exact ⟨⟨_, rfl, ⟨⟨_, rfl, alloc_hitY⟩, rfl, rfl⟩⟩, _, rfl, ⟨⟨_, rfl, hit_size⟩, rfl, rfl, rfl, row_one4 _ _ _ _⟩⟩) ?_
      refine Walk.step (A := ?Am10) (o := ?om10) ?em10 ?wm10 48 ?dm10 (by simp) ?hm10 ?nm10
      case em10 => simp only [List.getElem?_toArray, List.getElem?_cons_succ, List.getElem?_cons_zero]; exact rfl
      case wm10 => exact rfl
      case dm10 => exact rfl
      case hm10 =>
       intro W9 hW9
       have z0 := fun d os => cell_regrown (cell_row (vec_step HT9.out hW9) 0 _ rfl) d os
       have z1 := fun d os => cell_regrown (cell_row (vec_step HT9.out hW9) 1 _ rfl) d os
       have z2 := fun d os => cell_regrown (cell_row (vec_step HT9.out hW9) 2 _ rfl) d os
       have z3 := fun d os => cell_regrown (cell_row (vec_step HT9.out hW9) 3 _ rfl) d os
       go_big_quiet_op
       exact rfl
      refine Walk.step (A := ?Am11) (o := ?om11) ?em11 ?wm11 49 ?dm11 (by simp) ?hm11 ?nm11
      case em11 => simp only [List.getElem?_toArray, List.getElem?_cons_succ, List.getElem?_cons_zero]; exact rfl
      case wm11 => exact rfl
      case dm11 => exact rfl
      case hm11 =>
       intro W9 hW9
       go_big_quiet_op
       exact rfl
      refine Walk.step (A := ?Am12) (o := ?om12) ?em12 ?wm12 50 ?dm12 (by simp) ?hm12 ?nm12
      case em12 => simp only [List.getElem?_toArray, List.getElem?_cons_succ, List.getElem?_cons_zero]; exact rfl
      case wm12 => exact rfl
      case dm12 => exact rfl
      case hm12 =>
       intro W9 hW9
       have z7 := fun d os => cell_regrown (cell_row (vec_step HN89.out hW9) 7 _ rfl) d os
       go_big_quiet_op
       exact rfl
      refine Walk.step (A := ?Am13) (o := ?om13) ?em13 ?wm13 51 ?dm13 (by simp) ?hm13 ?nm13
      case em13 => simp only [List.getElem?_toArray, List.getElem?_cons_succ, List.getElem?_cons_zero]; exact rfl
      case wm13 => exact rfl
      case dm13 => exact rfl
      case hm13 =>
       intro W9 hW9
       go_big_quiet_op
       exact rfl
      refine Walk.step (A := ?Am14) (o := ?om14) ?em14 ?wm14 52 ?dm14 (by simp) ?hm14 ?nm14
      case em14 => simp only [List.getElem?_toArray, List.getElem?_cons_succ, List.getElem?_cons_zero]; exact rfl
      case wm14 => exact rfl
      case dm14 => exact rfl
      case hm14 =>
       intro W9 hW9
       have z0 : ∀ d os, (grow (redrawn W9 d) os).cell? ⟨g, off, none⟩ = some (.slice a1 n1 c1) := fun d os => cell_regrown ((hW9.cell (p := ⟨g, off, none⟩) (Nat.lt_of_lt_of_le HGL.out HB9.out.size)).trans ((HB9.out.cell (p := ⟨g, off, none⟩) HGL.out).trans (HX.out 0 _ rfl))) d os
       have z1 : ∀ d os, (grow (redrawn W9 d) os).cell? ⟨g, off + 1, none⟩ = some (.int .i64 bA.lo.x) := fun d os => cell_regrown ((hW9.cell (p := ⟨g, off + 1, none⟩) (Nat.lt_of_lt_of_le HGL.out HB9.out.size)).trans ((HB9.out.cell (p := ⟨g, off + 1, none⟩) HGL.out).trans (HX.out 1 _ rfl))) d os
       have z2 : ∀ d os, (grow (redrawn W9 d) os).cell? ⟨g, off + 2, none⟩ = some (.int .i64 bA.lo.y) := fun d os => cell_regrown ((hW9.cell (p := ⟨g, off + 2, none⟩) (Nat.lt_of_lt_of_le HGL.out HB9.out.size)).trans ((HB9.out.cell (p := ⟨g, off + 2, none⟩) HGL.out).trans (HX.out 2 _ rfl))) d os
       have z3 : ∀ d os, (grow (redrawn W9 d) os).cell? ⟨g, off + 3, none⟩ = some (.int .i64 bA.lo.z) := fun d os => cell_regrown ((hW9.cell (p := ⟨g, off + 3, none⟩) (Nat.lt_of_lt_of_le HGL.out HB9.out.size)).trans ((HB9.out.cell (p := ⟨g, off + 3, none⟩) HGL.out).trans (HX.out 3 _ rfl))) d os
       have z4 : ∀ d os, (grow (redrawn W9 d) os).cell? ⟨g, off + 4, none⟩ = some (.int .i64 bA.hi.x) := fun d os => cell_regrown ((hW9.cell (p := ⟨g, off + 4, none⟩) (Nat.lt_of_lt_of_le HGL.out HB9.out.size)).trans ((HB9.out.cell (p := ⟨g, off + 4, none⟩) HGL.out).trans (HX.out 4 _ rfl))) d os
       have z5 : ∀ d os, (grow (redrawn W9 d) os).cell? ⟨g, off + 5, none⟩ = some (.int .i64 bA.hi.y) := fun d os => cell_regrown ((hW9.cell (p := ⟨g, off + 5, none⟩) (Nat.lt_of_lt_of_le HGL.out HB9.out.size)).trans ((HB9.out.cell (p := ⟨g, off + 5, none⟩) HGL.out).trans (HX.out 5 _ rfl))) d os
       have z6 : ∀ d os, (grow (redrawn W9 d) os).cell? ⟨g, off + 6, none⟩ = some (.int .i64 bA.hi.z) := fun d os => cell_regrown ((hW9.cell (p := ⟨g, off + 6, none⟩) (Nat.lt_of_lt_of_le HGL.out HB9.out.size)).trans ((HB9.out.cell (p := ⟨g, off + 6, none⟩) HGL.out).trans (HX.out 6 _ rfl))) d os
       have z7 : ∀ d os, (grow (redrawn W9 d) os).cell? ⟨g, off + 7, none⟩ = some (k1) := fun d os => cell_regrown ((hW9.cell (p := ⟨g, off + 7, none⟩) (Nat.lt_of_lt_of_le HGL.out HB9.out.size)).trans ((HB9.out.cell (p := ⟨g, off + 7, none⟩) HGL.out).trans (HX.out 7 _ rfl))) d os
       go_big_quiet_op
       exact rfl
      refine Walk.step (A := ?Am15) (o := ?om15) ?em15 ?wm15 53 ?dm15 (by simp) ?hm15 ?nm15
      case em15 => simp only [List.getElem?_toArray, List.getElem?_cons_succ, List.getElem?_cons_zero]; exact rfl
      case wm15 => exact rfl
      case dm15 => exact rfl
      case hm15 =>
       intro W9 hW9
       have z0 := fun d os => cell_regrown (cell_row (vec_step HY9.out hW9) 0 _ rfl) d os
       have z1 := fun d os => cell_regrown (cell_row (vec_step HY9.out hW9) 1 _ rfl) d os
       have z2 := fun d os => cell_regrown (cell_row (vec_step HY9.out hW9) 2 _ rfl) d os
       have z3 := fun d os => cell_regrown (cell_row (vec_step HY9.out hW9) 3 _ rfl) d os
       have z4 := fun d os => cell_regrown (cell_row (vec_step HY9.out hW9) 4 _ rfl) d os
       have z5 := fun d os => cell_regrown (cell_row (vec_step HY9.out hW9) 5 _ rfl) d os
       go_big_quiet_op
       exact rfl
      refine Walk.step (A := ?Am16) (o := ?om16) ?em16 ?wm16 54 ?dm16 (by simp) ?hm16 ?nm16
      case em16 => simp only [List.getElem?_toArray, List.getElem?_cons_succ, List.getElem?_cons_zero]; exact rfl
      case wm16 => exact rfl
      case dm16 => exact rfl
      case hm16 =>
       intro W9 hW9
       go_big_quiet_op
       exact rfl
      refine Walk.step (A := ?Am17) (o := ?om17) ?em17 ?wm17 55 ?dm17 (by simp) ?hm17 ?nm17
      case em17 => simp only [List.getElem?_toArray, List.getElem?_cons_succ, List.getElem?_cons_zero]; exact rfl
      case wm17 => exact rfl
      case dm17 => exact rfl
      case hm17 =>
       intro W9 hW9
       have z0 := fun d os => cell_regrown (cell_row (vec_step HSR.out hW9) 0 _ rfl) d os
       have z1 := fun d os => cell_regrown (cell_row (vec_step HSR.out hW9) 1 _ rfl) d os
       have z2 := fun d os => cell_regrown (cell_row (vec_step HSR.out hW9) 2 _ rfl) d os
       have z3 := fun d os => cell_regrown (cell_row (vec_step HSR.out hW9) 3 _ rfl) d os
       go_big_quiet_op
       exact rfl
      refine Walk.step (A := ?Am18) (o := ?om18) ?em18 ?wm18 56 ?dm18 (by simp) ?hm18 ?nm18
      case em18 => simp only [List.getElem?_toArray, List.getElem?_cons_succ, List.getElem?_cons_zero]; exact rfl
      case wm18 => exact rfl
      case dm18 => exact rfl
      case hm18 =>
       intro W9 hW9
       have Q9 := qb (P := Tryz.prog) (W := W9) (fun w2 hb => CA.out w2 (HB9.out.trans ((hW9.trans (hb.mono hW9.size)).mono HB9.out.size)))
       go_big_quiet_op
       apply Exists.intro
       refine ⟨fun _ => ?_, ?_⟩
       ·
        with_reducible exact Q9 _ _
       ·
        exact rfl
      refine Walk.step (A := ?Am19) (o := ?om19) ?em19 ?wm19 47 ?dm19 (by simp) ?hm19 ?nm19
      case em19 => simp only [List.getElem?_toArray, List.getElem?_cons_succ, List.getElem?_cons_zero]; exact rfl
      case wm19 => exact rfl
      case dm19 => exact rfl
      case hm19 =>
       intro W9 hW9
       go_big_quiet_op
       exact rfl
      refine Walk.step (A := ?Am110) (o := ?om110) ?em110 ?wm110 57 ?dm110 (by simp) ?hm110 ?nm110
      case em110 => simp only [List.getElem?_toArray, List.getElem?_cons_succ, List.getElem?_cons_zero]; exact rfl
      case wm110 => exact rfl
      case dm110 => exact rfl
      case hm110 =>
       intro W9 hW9
       go_big_quiet_op
       exact rfl
      refine Walk.step (A := ?Am111) (o := ?om111) ?em111 ?wm111 58 ?dm111 (by simp) ?hm111 ?nm111
      case em111 => simp only [List.getElem?_toArray, List.getElem?_cons_succ, List.getElem?_cons_zero]; exact rfl
      case wm111 => exact rfl
      case dm111 => exact rfl
      case hm111 =>
       intro W9 hW9
       go_big_quiet_op
       exact rfl
      refine Walk.step (A := ?Am112) (o := ?om112) ?em112 ?wm112 16 ?dm112 (by simp) ?hm112 ?nm112
      case em112 => simp only [List.getElem?_toArray, List.getElem?_cons_succ, List.getElem?_cons_zero]; exact rfl
      case wm112 => exact rfl
      case dm112 => exact rfl
      case hm112 =>
       intro W9 hW9
       go_big_quiet_op
       exact rfl
      refine ⟨?_, ?_⟩
      ·
       intro x hx
       simp only [List.mem_cons, List.not_mem_nil, or_false] at hx
       subst hx
       rfl
      intro G hG hne x2 hb hk
      have k9 := hk _ (List.mem_cons_self ..)
      dsimp only at k9
      clear hG hne hk
      simp only [lay, Act.put, List.setIfInBounds_toArray, List.set_cons_succ, List.set_cons_zero, ptr]
      generalize G 12 = ga at k9 ⊢
      clear G
      have HS8 := Lib.hid (HS9.out.step hb)
      have HH := Lib.hid k9
      have HT8 := Lib.hid (vec_step HT9.out hb)
      have HN88 := Lib.hid (vec_step HN89.out hb)
      have HY8 := Lib.hid (vec_step HY9.out hb)
      have HZ8 := Lib.hid (vec_step HZ9.out hb)
      have HB8 := Lib.hid (HB9.out.trans (hb.mono HB9.out.size))
      clear k9 hb HT9 HN89 HY9 HZ9 HB9 HS9 HS1 CA HSR
      go_upto_region 7 with (fail)
      refine wp_region_free 129 [0, 1, 2, 3, 4, 5, 6, 7, 8, 9, 10, 11, 14] [⟨12, 17, #[.int .i64 0, .int .i64 0, .int .i64 0, .int .i64 0], 42, 13, 69, #[.int .i64 it, .int .i64 ii, .int .i64 iu, .int .i64 iv]⟩] (by kernel_rfl) rfl (by kernel_rfl) (by
       intro x hx
       simp only [List.mem_cons, List.not_mem_nil, or_false] at hx
       subst hx
       exact ⟨⟨_, rfl, ⟨⟨_, rfl, alloc_hitY⟩, rfl, rfl⟩⟩, _, rfl, ⟨⟨_, rfl, hit_size⟩, rfl, rfl, rfl, row_one4 _ _ _ _⟩⟩) ?_
      refine Walk.step (A := ?An10) (o := ?on10) ?en10 ?wn10 60 ?dn10 (by simp) ?hn10 ?nn10
      case en10 => simp only [List.getElem?_toArray, List.getElem?_cons_succ, List.getElem?_cons_zero]; exact rfl
      case wn10 => exact rfl
      case dn10 => exact rfl
      case hn10 =>
       intro W9 hW9
       have z0 := fun d os => cell_regrown (cell_row (vec_step HT8.out hW9) 0 _ rfl) d os
       have z1 := fun d os => cell_regrown (cell_row (vec_step HT8.out hW9) 1 _ rfl) d os
       have z2 := fun d os => cell_regrown (cell_row (vec_step HT8.out hW9) 2 _ rfl) d os
       have z3 := fun d os => cell_regrown (cell_row (vec_step HT8.out hW9) 3 _ rfl) d os
       go_big_quiet_op
       exact rfl
      refine Walk.step (A := ?An11) (o := ?on11) ?en11 ?wn11 61 ?dn11 (by simp) ?hn11 ?nn11
      case en11 => simp only [List.getElem?_toArray, List.getElem?_cons_succ, List.getElem?_cons_zero]; exact rfl
      case wn11 => exact rfl
      case dn11 => exact rfl
      case hn11 =>
       intro W9 hW9
       go_big_quiet_op
       exact rfl
      refine Walk.step (A := ?An12) (o := ?on12) ?en12 ?wn12 62 ?dn12 (by simp) ?hn12 ?nn12
      case en12 => simp only [List.getElem?_toArray, List.getElem?_cons_succ, List.getElem?_cons_zero]; exact rfl
      case wn12 => exact rfl
      case dn12 => exact rfl
      case hn12 =>
       intro W9 hW9
       have z7 := fun d os => cell_regrown (cell_row (vec_step HN88.out hW9) 7 _ rfl) d os
       go_big_quiet_op
       exact rfl
      refine Walk.step (A := ?An13) (o := ?on13) ?en13 ?wn13 63 ?dn13 (by simp) ?hn13 ?nn13
      case en13 => simp only [List.getElem?_toArray, List.getElem?_cons_succ, List.getElem?_cons_zero]; exact rfl
      case wn13 => exact rfl
      case dn13 => exact rfl
      case hn13 =>
       intro W9 hW9
       go_big_quiet_op
       exact rfl
      refine Walk.step (A := ?An14) (o := ?on14) ?en14 ?wn14 64 ?dn14 (by simp) ?hn14 ?nn14
      case en14 => simp only [List.getElem?_toArray, List.getElem?_cons_succ, List.getElem?_cons_zero]; exact rfl
      case wn14 => exact rfl
      case dn14 => exact rfl
      case hn14 =>
       intro W9 hW9
       have z0 : ∀ d os, (grow (redrawn W9 d) os).cell? ⟨g, off + 8, none⟩ = some (.slice a2 n2 c2) := fun d os => cell_regrown ((hW9.cell (p := ⟨g, off + 8, none⟩) (Nat.lt_of_lt_of_le HGL.out HB8.out.size)).trans ((HB8.out.cell (p := ⟨g, off + 8, none⟩) HGL.out).trans (HXY.out 0 _ rfl))) d os
       have z1 : ∀ d os, (grow (redrawn W9 d) os).cell? ⟨g, off + 8 + 1, none⟩ = some (.int .i64 bB.lo.x) := fun d os => cell_regrown ((hW9.cell (p := ⟨g, off + 8 + 1, none⟩) (Nat.lt_of_lt_of_le HGL.out HB8.out.size)).trans ((HB8.out.cell (p := ⟨g, off + 8 + 1, none⟩) HGL.out).trans (HXY.out 1 _ rfl))) d os
       have z2 : ∀ d os, (grow (redrawn W9 d) os).cell? ⟨g, off + 8 + 2, none⟩ = some (.int .i64 bB.lo.y) := fun d os => cell_regrown ((hW9.cell (p := ⟨g, off + 8 + 2, none⟩) (Nat.lt_of_lt_of_le HGL.out HB8.out.size)).trans ((HB8.out.cell (p := ⟨g, off + 8 + 2, none⟩) HGL.out).trans (HXY.out 2 _ rfl))) d os
       have z3 : ∀ d os, (grow (redrawn W9 d) os).cell? ⟨g, off + 8 + 3, none⟩ = some (.int .i64 bB.lo.z) := fun d os => cell_regrown ((hW9.cell (p := ⟨g, off + 8 + 3, none⟩) (Nat.lt_of_lt_of_le HGL.out HB8.out.size)).trans ((HB8.out.cell (p := ⟨g, off + 8 + 3, none⟩) HGL.out).trans (HXY.out 3 _ rfl))) d os
       have z4 : ∀ d os, (grow (redrawn W9 d) os).cell? ⟨g, off + 8 + 4, none⟩ = some (.int .i64 bB.hi.x) := fun d os => cell_regrown ((hW9.cell (p := ⟨g, off + 8 + 4, none⟩) (Nat.lt_of_lt_of_le HGL.out HB8.out.size)).trans ((HB8.out.cell (p := ⟨g, off + 8 + 4, none⟩) HGL.out).trans (HXY.out 4 _ rfl))) d os
       have z5 : ∀ d os, (grow (redrawn W9 d) os).cell? ⟨g, off + 8 + 5, none⟩ = some (.int .i64 bB.hi.y) := fun d os => cell_regrown ((hW9.cell (p := ⟨g, off + 8 + 5, none⟩) (Nat.lt_of_lt_of_le HGL.out HB8.out.size)).trans ((HB8.out.cell (p := ⟨g, off + 8 + 5, none⟩) HGL.out).trans (HXY.out 5 _ rfl))) d os
       have z6 : ∀ d os, (grow (redrawn W9 d) os).cell? ⟨g, off + 8 + 6, none⟩ = some (.int .i64 bB.hi.z) := fun d os => cell_regrown ((hW9.cell (p := ⟨g, off + 8 + 6, none⟩) (Nat.lt_of_lt_of_le HGL.out HB8.out.size)).trans ((HB8.out.cell (p := ⟨g, off + 8 + 6, none⟩) HGL.out).trans (HXY.out 6 _ rfl))) d os
       have z7 : ∀ d os, (grow (redrawn W9 d) os).cell? ⟨g, off + 8 + 7, none⟩ = some (k2) := fun d os => cell_regrown ((hW9.cell (p := ⟨g, off + 8 + 7, none⟩) (Nat.lt_of_lt_of_le HGL.out HB8.out.size)).trans ((HB8.out.cell (p := ⟨g, off + 8 + 7, none⟩) HGL.out).trans (HXY.out 7 _ rfl))) d os
       go_big_quiet_op
       exact rfl
      refine Walk.step (A := ?An15) (o := ?on15) ?en15 ?wn15 65 ?dn15 (by simp) ?hn15 ?nn15
      case en15 => simp only [List.getElem?_toArray, List.getElem?_cons_succ, List.getElem?_cons_zero]; exact rfl
      case wn15 => exact rfl
      case dn15 => exact rfl
      case hn15 =>
       intro W9 hW9
       have z0 := fun d os => cell_regrown (cell_row (vec_step HY8.out hW9) 0 _ rfl) d os
       have z1 := fun d os => cell_regrown (cell_row (vec_step HY8.out hW9) 1 _ rfl) d os
       have z2 := fun d os => cell_regrown (cell_row (vec_step HY8.out hW9) 2 _ rfl) d os
       have z3 := fun d os => cell_regrown (cell_row (vec_step HY8.out hW9) 3 _ rfl) d os
       have z4 := fun d os => cell_regrown (cell_row (vec_step HY8.out hW9) 4 _ rfl) d os
       have z5 := fun d os => cell_regrown (cell_row (vec_step HY8.out hW9) 5 _ rfl) d os
       go_big_quiet_op
       exact rfl
      refine Walk.step (A := ?An16) (o := ?on16) ?en16 ?wn16 66 ?dn16 (by simp) ?hn16 ?nn16
      case en16 => simp only [List.getElem?_toArray, List.getElem?_cons_succ, List.getElem?_cons_zero]; exact rfl
      case wn16 => exact rfl
      case dn16 => exact rfl
      case hn16 =>
       intro W9 hW9
       go_big_quiet_op
       exact rfl
      refine Walk.step (A := ?An17) (o := ?on17) ?en17 ?wn17 67 ?dn17 (by simp) ?hn17 ?nn17
      case en17 => simp only [List.getElem?_toArray, List.getElem?_cons_succ, List.getElem?_cons_zero]; exact rfl
      case wn17 => exact rfl
      case dn17 => exact rfl
      case hn17 =>
       intro W9 hW9
       have z0 := fun d os => cell_regrown (cell_row (vec_step HH.out hW9) 0 _ rfl) d os
       have z1 := fun d os => cell_regrown (cell_row (vec_step HH.out hW9) 1 _ rfl) d os
       have z2 := fun d os => cell_regrown (cell_row (vec_step HH.out hW9) 2 _ rfl) d os
       have z3 := fun d os => cell_regrown (cell_row (vec_step HH.out hW9) 3 _ rfl) d os
       go_big_quiet_op
       exact rfl
      refine Walk.step (A := ?An18) (o := ?on18) ?en18 ?wn18 68 ?dn18 (by simp) ?hn18 ?nn18
      case en18 => simp only [List.getElem?_toArray, List.getElem?_cons_succ, List.getElem?_cons_zero]; exact rfl
      case wn18 => exact rfl
      case dn18 => exact rfl
      case hn18 =>
       intro W9 hW9
       have Q9 := qb (P := Tryz.prog) (W := W9) (fun w2 hb => CC.out w2 (HB8.out.trans ((hW9.trans (hb.mono hW9.size)).mono HB8.out.size)))
       go_big_quiet_op
       apply Exists.intro
       refine ⟨fun _ => ?_, ?_⟩
       ·
        with_reducible exact Q9 _ _
       ·
        exact rfl
      refine Walk.step (A := ?An19) (o := ?on19) ?en19 ?wn19 59 ?dn19 (by simp) ?hn19 ?nn19
      case en19 => simp only [List.getElem?_toArray, List.getElem?_cons_succ, List.getElem?_cons_zero]; exact rfl
      case wn19 => exact rfl
      case dn19 => exact rfl
      case hn19 =>
       intro W9 hW9
       go_big_quiet_op
       exact rfl
      refine Walk.step (A := ?An110) (o := ?on110) ?en110 ?wn110 69 ?dn110 (by simp) ?hn110 ?nn110
      case en110 => simp only [List.getElem?_toArray, List.getElem?_cons_succ, List.getElem?_cons_zero]; exact rfl
      case wn110 => exact rfl
      case dn110 => exact rfl
      case hn110 =>
       intro W9 hW9
       go_big_quiet_op
       exact rfl
      refine Walk.step (A := ?An111) (o := ?on111) ?en111 ?wn111 70 ?dn111 (by simp) ?hn111 ?nn111
      case en111 => simp only [List.getElem?_toArray, List.getElem?_cons_succ, List.getElem?_cons_zero]; exact rfl
      case wn111 => exact rfl
      case dn111 => exact rfl
      case hn111 =>
       intro W9 hW9
       go_big_quiet_op
       exact rfl
      refine Walk.step (A := ?An112) (o := ?on112) ?en112 ?wn112 18 ?dn112 (by simp) ?hn112 ?nn112
      case en112 => simp only [List.getElem?_toArray, List.getElem?_cons_succ, List.getElem?_cons_zero]; exact rfl
      case wn112 => exact rfl
      case dn112 => exact rfl
      case hn112 =>
       intro W9 hW9
       go_big_quiet_op
       exact rfl
      refine ⟨?_, ?_⟩
      ·
       intro x hx
       simp only [List.mem_cons, List.not_mem_nil, or_false] at hx
       subst hx
       rfl
      intro G hG hne x3 hb hk
      have k9 := hk _ (List.mem_cons_self ..)
      dsimp only at k9
      clear hG hne hk
      simp only [lay, Act.put, List.setIfInBounds_toArray, List.set_cons_succ, List.set_cons_zero, ptr]
      generalize G 12 = gb at k9 ⊢
      clear G
      have HS9 := Lib.hid (HS8.out.step hb)
      have HI := Lib.hid k9
      have HZ9 := Lib.hid (vec_step HZ8.out hb)
      clear k9 hb HT8 HN88 HY8 HZ8 HB8 HS8 CC HH
      have c0 := cell_row HI.out 0 _ rfl
      have c1 := cell_row HI.out 1 _ rfl
      have c2 := cell_row HI.out 2 _ rfl
      have c3 := cell_row HI.out 3 _ rfl
      have i1 := I1.out
      have i2 := I2.out
      go_wp2_with (with_reducible refine store_hit rfl (.tmp 10) (.tmp 71) rfl rfl gR it ii iu iv rfl rfl _ HZ9.out rfl ?_)
      refine bodyPost_ret (results_row_tmp rfl _ _ _ gR 42 _ _ _ rfl (setRow_heap _ _ _ _ _ _ HZ9.out) Tryz.underlying42 hit_size) rfl ?_
      rw [HRE.out]
      exact ⟨rfl, below_setRow HS9.out.hb HGE.out.2.2 _⟩
end Go.Proofs.YtdaokkgenfpmhaaGreat.BvhY

/- The walks of the document's Size and Nearest. -/
set_option linter.unusedVariables false
set_option linter.unusedSimpArgs false
namespace Go.Proofs.YtdaokkgenfpmhaaGreat.BvhRb
open Go Go.RowKit Go.Sort Go.Lib FixM Base Num FixW Qb Qt Qa Qf Qg VecW VecV VecU LightQ LightC MeshM Rec MeshA MeshC MeshD MeshE MeshP MeshQ MeshR HitM HitT HitX HitN HitS HitV BvhM BvhA BvhB BvhS BvhD BvhE BvhF BvhQ BvhO BvhR BvhSa BvhZ BvhN BvhRa BvhY
def rootT (m : Msh) : List Tr := if cntM m = 0 then [] else [wholeT m]
theorem first_kids {B : Nat} {m : Msh} {w : World} {a3 : Option Addr} {n3 : Nat} (h : FirstAt B m w a3 n3) (c3 : Nat) : KidsAt m w (.slice a3 n3 c3) (rootT m) := by
 unfold FirstAt at h
 unfold rootT
 by_cases hc : cntM m = 0
 ·
  rw [if_pos hc] at h ⊢
  subst h
  exact ⟨a3, c3, rfl, fun i h => by simp at h⟩
 ·
  rw [if_neg hc] at h ⊢
  obtain ⟨g, cx, rfl, rfl, h1, h2, h3, h4⟩ := h
  refine ⟨_, c3, rfl, fun i hi => ?_⟩
  obtain rfl : i = 0 := by simp at hi; exact hi
  exact ⟨g, 0, cx, rfl, h2, fun k x hk => by rw [Nat.zero_mul]; exact h3 k x hk, NodeZ.at _ _ h4⟩
theorem root_all (m : Msh) : allN (rootT m) = (flatM m).length ∧ maxD (rootT m) = deepM m := by
 unfold rootT flatM deepM
 by_cases hc : cntM m = 0
 ·
  rw [if_pos hc, if_pos hc, if_pos hc]; exact ⟨rfl, rfl⟩
 ·
  rw [if_neg hc, if_neg hc, if_neg hc, flat_length]
  exact ⟨rfl, Nat.max_eq_left (Nat.zero_le _)⟩
theorem root_small (m : Msh) (hl : cntM m ≤ 4096) : (∀ t ∈ rootT m, deepT t ≤ 12) ∧ allN (rootT m) ≤ 100000 ∧ (rootT m).length ≤ 2 := by
 unfold rootT
 by_cases hc : cntM m = 0
 ·
  rw [if_pos hc]; exact ⟨fun t h => by simp at h, Nat.zero_le _, Nat.zero_le _⟩
 ·
  rw [if_neg hc]
  have h1 := nodes_le _ (whole_good m hc)
  rw [whole_l] at h1
  have h3 : (allL m).length = cntM m := by unfold allL; rw [List.length_range]; rfl
  refine ⟨fun t h => ?_, ?_, Nat.le_succ _⟩
  ·
   simp at h; subst h; exact whole_deep m hl
  ·
   show nodesT (wholeT m) + 0 ≤ 100000; omega
set_option maxRecDepth 100000 in
set_option maxHeartbeats 16000000 in
theorem rsize_any (m : Msh) (w : World) (a0 : Option Addr) (n0 c0 : Nat) (a1 : Option Addr) (n1 c1 : Nat) (a2 : Option Addr) (n2 c2 : Nat) (a3 : Option Addr) (n3 c3 : Nat) (B : Nat) (h : FirstAt B m w a3 n3) (hl : cntM m ≤ 4096) :
  Calls Tryz.prog 8 #[.agg #[.slice a0 n0 c0, .slice a1 n1 c1, .slice a2 n2 c2, .slice a3 n3 c3]] w (VTo (.tuple #[.int .i64 ((flatM m).length : Int), .int .i64 (deepM m : Int)]) w) := by
 have hA := heap_alloc_new w (.cells #[.slice a0 n0 c0, .slice a1 n1 c1, .slice a2 n2 c2, .slice a3 n3 c3] 35)
 have hB := ext_alloc w (.cells #[.slice a0 n0 c0, .slice a1 n1 c1, .slice a2 n2 c2, .slice a3 n3 c3] 35)
 obtain ⟨W, hW⟩ : ∃ ww, ww = w.alloc (.cells #[.slice a0 n0 c0, .slice a1 n1 c1, .slice a2 n2 c2, .slice a3 n3 c3] 35) := ⟨_, rfl⟩
 rw [← hW] at hA hB
 have hs := root_small m hl
 have CC := Lib.hid (count_walk m 12 (rootT m) (.slice a3 n3 c3) W (first_kids (h.below hB) c3) hs.1 (by decide) hs.2.1 hs.2.2)
 unfold CntTo at CC
 rw [(root_all m).1, (root_all m).2] at CC
 generalize (flatM m).length = nn at CC ⊢
 generalize deepM m = dd at CC ⊢
 have HB := Lib.hid hB
 have HWW := Lib.hid hW
 have q3 := cell_row hA 3 _ rfl
 clear hA hB hW hs h hl
 go_enter Tryz.func8, Tryz.ntmps8
 go_upto_region 1 with (fail)
 rw [← HWW.out]
 clear HWW
 go_wp2_with fail
 refine CC.out.mono ?_
 rintro e _ ⟨rfl, rfl⟩
 go_wp2_with fail
 first | (refine bodyPost_ret (results_tmp2 rfl _ _ _) rfl ?_; exact ⟨rfl, HB.out⟩) | exact ⟨rfl, HB.out⟩
set_option maxRecDepth 100000 in
set_option maxHeartbeats 16000000 in
theorem rnear_any (m : Msh) (w : World) (ok : m.ok) (r : Ry) (hr : r.ok) (least : Int) (a0 : Option Addr) (n0 c0 : Nat) (a1 : Option Addr) (n1 c1 : Nat) (a2 : Option Addr) (n2 c2 : Nat) (a3 : Option Addr) (n3 c3 : Nat) (B : Nat) (hm : IsMesh w (.agg #[.slice a0 n0 c0, .slice a1 n1 c1, .slice a2 n2 c2]) m) (h : FirstAt B m w a3 n3) (hl : cntM m ≤ 4096) :
  Calls Tryz.prog 13 #[.agg #[.slice a0 n0 c0, .slice a1 n1 c1, .slice a2 n2 c2, .slice a3 n3 c3], rayV r, .int .i64 least] w (VTo (.tuple #[hitV (nearestF m r least).1, .int .i64 ((nearestF m r least).2 : Int)]) w) := by
 have HOK := Lib.hid (And.intro ok (And.intro hr hl))
 have HM := Lib.hid hm
 have HFI := Lib.hid h
 have HCO := Lib.hid (fun (hc : cntM m ≠ 0) => ask_le m r least (wholeT m) (whole_good m hc) (by
  have h1 := nodes_le _ (whole_good m hc)
  rw [whole_l] at h1 ⊢
  have h3 : (allL m).length = cntM m := by unfold allL; rw [List.length_range]; rfl
  omega))
 have HKA := Lib.hid (fun (hc : cntM m ≠ 0) => (show (wholeT m).good ∧ nodesT (wholeT m) + (wholeT m).l.length ≤ 100000 from ⟨whole_good m hc, by
  have h1 := nodes_le _ (whole_good m hc)
  rw [whole_l] at h1 ⊢
  have h3 : (allL m).length = cntM m := by unfold allL; rw [List.length_range]; rfl
  omega⟩))
 have HR0 := Lib.hid (fun (hc : cntM m = 0) => ans_none m r least hc)
 have HR1 := Lib.hid (fun (hc : cntM m ≠ 0) => (show nearestF m r least = askT m r least (wholeT m) htN by unfold nearestF; exact if_neg hc))
 have CA := Lib.hid (fun (hc : cntM m ≠ 0) (cs : List Value) (w2 : World) (h1 : NodeAt m w2 (wholeT m) cs) (h2 : IsMesh w2 (.agg #[.slice a0 n0 c0, .slice a1 n1 c1, .slice a2 n2 c2]) m) => ask_walk m ok (by have h : m.ts.length + m.bs.length ≤ 4096 := hl; omega) r hr least (.slice a0 n0 c0) (.slice a1 n1 c1) (.slice a2 n2 c2) (.slice a3 n3 c3) 12 (wholeT m) cs w2 htN h1 (whole_deep m hl) (HKA.out hc).1 (HKA.out hc).2 h2)
 unfold AskTo at CA
 obtain ⟨res, hres⟩ : ∃ x, x = nearestF m r least := ⟨_, rfl⟩
 rw [← hres] at HR0 HR1 ⊢
 obtain ⟨⟨oX, oY, oZ⟩, ⟨dX, dY, dZ⟩⟩ := r
 dsimp only [rayV] at CA ⊢
 obtain ⟨hA, hB_, hC, hB0⟩ := al3h w (.cells #[.slice a0 n0 c0, .slice a1 n1 c1, .slice a2 n2 c2, .slice a3 n3 c3] 35) (.cells #[.int .i64 oX, .int .i64 oY, .int .i64 oZ, .int .i64 dX, .int .i64 dY, .int .i64 dZ] 48) (.cells #[.int .i64 0, .int .i64 0, .int .i64 0, .int .i64 0] 42)
 obtain ⟨W, hW⟩ : ∃ ww, ww = ((w.alloc (.cells #[.slice a0 n0 c0, .slice a1 n1 c1, .slice a2 n2 c2, .slice a3 n3 c3] 35)).alloc (.cells #[.int .i64 oX, .int .i64 oY, .int .i64 oZ, .int .i64 dX, .int .i64 dY, .int .i64 dZ] 48)).alloc (.cells #[.int .i64 0, .int .i64 0, .int .i64 0, .int .i64 0] 42) := ⟨_, rfl⟩
 rw [← hW] at hA hB_ hC hB0
 have HT0 := Lib.hid hA
 have HY0 := Lib.hid hB_
 have HZ0 := Lib.hid hC
 have HB0 := Lib.hid hB0
 have HWW := Lib.hid hW
 clear hA hB_ hC hB0 hW hm h ok hr hl hres HCO HKA
 go_enter Tryz.func13, Tryz.ntmps13
 go_upto_region 1 with (fail)
 rw [← HWW.out]
 clear HWW
 go_upto_region 2 with (with_reducible refine store_hit rfl (.tmp 8) (.tmp 9) rfl rfl W.heap.size 0 (-1) 0 0 rfl rfl _ (heap_alloc_new _ _) rfl ?_)
 have hx : Below W.heap.size W ((W.alloc (.cells #[.int .i64 0, .int .i64 0, .int .i64 0, .int .i64 0] 42)).setRow W.heap.size #[.int .i64 0, .int .i64 (-1), .int .i64 0, .int .i64 0]) := below_setRow (ext_alloc W (.cells #[.int .i64 0, .int .i64 0, .int .i64 0, .int .i64 0] 42)) (Nat.le_refl _) _
 have hn : ((W.alloc (.cells #[.int .i64 0, .int .i64 0, .int .i64 0, .int .i64 0] 42)).setRow W.heap.size #[.int .i64 0, .int .i64 (-1), .int .i64 0, .int .i64 0]).heap[W.heap.size]? = some (.cells #[.int .i64 0, .int .i64 (-1), .int .i64 0, .int .i64 0] 42) := setRow_heap _ _ _ _ _ _ (heap_alloc_new _ _)
 obtain ⟨W2, hW⟩ : ∃ ww, ww = (W.alloc (.cells #[.int .i64 0, .int .i64 0, .int .i64 0, .int .i64 0] 42)).setRow W.heap.size #[.int .i64 0, .int .i64 (-1), .int .i64 0, .int .i64 0] := ⟨_, rfl⟩
 rw [← hW] at hx hn ⊢
 have HT1 := Lib.hid (vec_step HT0.out hx)
 have HY1 := Lib.hid (vec_step HY0.out hx)
 have HZ1 := Lib.hid (vec_step HZ0.out hx)
 have HB1 := Lib.hid (HB0.out.trans (hx.mono HB0.out.size))
 have HH := Lib.hid hn
 clear hW hx hn HT0 HY0 HZ0 HB0
 generalize W.heap.size = g8 at HH ⊢
 clear W
 have t3 := cell_row HT1.out 3 _ rfl
 by_cases hc : cntM m = 0
 ·
  have h3 := HFI.out
  unfold FirstAt at h3
  rw [if_pos hc] at h3
  subst h3
  have HRE := Lib.hid (HR0.out hc)
  clear HR0 HR1 CA HFI hc
  have e0 := cell_row HH.out 0 _ rfl
  have e1 := cell_row HH.out 1 _ rfl
  have e2 := cell_row HH.out 2 _ rfl
  have e3 := cell_row HH.out 3 _ rfl
  go_wp2_with (with_reducible refine store_hit rfl (.tmp 6) (.tmp 14) rfl rfl (w.heap.size + 1 + 1) 0 (-1) 0 0 rfl rfl _ HZ1.out rfl ?_)
  refine bodyPost_ret (results_row_tmp rfl _ _ _ (w.heap.size + 1 + 1) 42 _ _ _ rfl (setRow_heap _ _ _ _ _ _ HZ1.out) Tryz.underlying42 hit_size) rfl ?_
  rw [HRE.out]
  exact ⟨rfl, below_setRow HB1.out (by omega) _⟩
 ·
  have h3 := HFI.out
  unfold FirstAt at h3
  rw [if_neg hc] at h3
  obtain ⟨g, cx, rfl, rfl, hg1, hg2, hcl, hnz⟩ := h3
  obtain ⟨b1, m1, c1', b2, m2, c2', ecs⟩ := NodeZ.form hnz
  obtain ⟨bW, hbW⟩ : ∃ x, x = boxL m (wholeT m).l := ⟨_, rfl⟩
  rw [← hbW] at ecs
  subst ecs
  have HRE := Lib.hid (HR1.out hc)
  have HNA := Lib.hid (NodeZ.at _ _ hnz)
  have HCL := Lib.hid hcl
  have HG2 := Lib.hid hg2
  have CB := Lib.hid (fun w2 (hb : Below w.heap.size w w2) => (show Calls Tryz.prog 32 #[.agg #[.slice a0 n0 c0, .slice a1 n1 c1, .slice a2 n2 c2, .slice (some ⟨g, 0, none⟩) 1 c3], .agg #[.slice b1 m1 c1', .int .i64 bW.lo.x, .int .i64 bW.lo.y, .int .i64 bW.lo.z, .int .i64 bW.hi.x, .int .i64 bW.hi.y, .int .i64 bW.hi.z, .slice b2 m2 c2'], .agg #[.int .i64 oX, .int .i64 oY, .int .i64 oZ, .int .i64 dX, .int .i64 dY, .int .i64 dZ], .int .i64 least, .agg #[.int .i64 0, .int .i64 (-1), .int .i64 0, .int .i64 0]] w2 (VTo (.tuple #[hitV res.1, .int .i64 (res.2 : Int)]) w2) by rw [HRE.out]; exact CA.out hc _ w2 (HNA.out.below hb) (HM.out.below hb)))
  clear HRE HR0 HR1 CA HFI hc hg1 hg2 hcl hnz hbW HNA
  obtain ⟨⟨ht, hi, hu, hv⟩, cc⟩ := res
  dsimp only [hitV] at CB ⊢
  go_upto_region 4 with (fail)
  clear t3
  have Q1 := Lib.hid (qb (P := Tryz.prog) (W := W2) (fun w2 hb => CB.out w2 (HB1.out.trans (hb.mono HB1.out.size))))
  have x0 := fun d os => cell_regrown (cell_row HT1.out 0 _ rfl) d os
  have x1 := fun d os => cell_regrown (cell_row HT1.out 1 _ rfl) d os
  have x2 := fun d os => cell_regrown (cell_row HT1.out 2 _ rfl) d os
  have x3 := fun d os => cell_regrown (cell_row HT1.out 3 _ rfl) d os
  have y0 := fun d os => cell_regrown (cell_row HY1.out 0 _ rfl) d os
  have y1 := fun d os => cell_regrown (cell_row HY1.out 1 _ rfl) d os
  have y2 := fun d os => cell_regrown (cell_row HY1.out 2 _ rfl) d os
  have y3 := fun d os => cell_regrown (cell_row HY1.out 3 _ rfl) d os
  have y4 := fun d os => cell_regrown (cell_row HY1.out 4 _ rfl) d os
  have y5 := fun d os => cell_regrown (cell_row HY1.out 5 _ rfl) d os
  have h0 := fun d os => cell_regrown (cell_row HH.out 0 _ rfl) d os
  have h1 := fun d os => cell_regrown (cell_row HH.out 1 _ rfl) d os
  have h2 := fun d os => cell_regrown (cell_row HH.out 2 _ rfl) d os
  have h3 := fun d os => cell_regrown (cell_row HH.out 3 _ rfl) d os
  have z0 : ∀ d os, (grow (redrawn W2 d) os).cell? ⟨g, 0, none⟩ = some (.slice b1 m1 c1') := fun d os => cell_regrown ((HB1.out.cell (p := ⟨g, 0 + 0, none⟩) HG2.out).trans (HCL.out 0 _ rfl)) d os
  have z1 : ∀ d os, (grow (redrawn W2 d) os).cell? ⟨g, 1, none⟩ = some (.int .i64 bW.lo.x) := fun d os => cell_regrown ((HB1.out.cell (p := ⟨g, 0 + 1, none⟩) HG2.out).trans (HCL.out 1 _ rfl)) d os
  have z2 : ∀ d os, (grow (redrawn W2 d) os).cell? ⟨g, 2, none⟩ = some (.int .i64 bW.lo.y) := fun d os => cell_regrown ((HB1.out.cell (p := ⟨g, 0 + 2, none⟩) HG2.out).trans (HCL.out 2 _ rfl)) d os
  have z3 : ∀ d os, (grow (redrawn W2 d) os).cell? ⟨g, 3, none⟩ = some (.int .i64 bW.lo.z) := fun d os => cell_regrown ((HB1.out.cell (p := ⟨g, 0 + 3, none⟩) HG2.out).trans (HCL.out 3 _ rfl)) d os
  have z4 : ∀ d os, (grow (redrawn W2 d) os).cell? ⟨g, 4, none⟩ = some (.int .i64 bW.hi.x) := fun d os => cell_regrown ((HB1.out.cell (p := ⟨g, 0 + 4, none⟩) HG2.out).trans (HCL.out 4 _ rfl)) d os
  have z5 : ∀ d os, (grow (redrawn W2 d) os).cell? ⟨g, 5, none⟩ = some (.int .i64 bW.hi.y) := fun d os => cell_regrown ((HB1.out.cell (p := ⟨g, 0 + 5, none⟩) HG2.out).trans (HCL.out 5 _ rfl)) d os
  have z6 : ∀ d os, (grow (redrawn W2 d) os).cell? ⟨g, 6, none⟩ = some (.int .i64 bW.hi.z) := fun d os => cell_regrown ((HB1.out.cell (p := ⟨g, 0 + 6, none⟩) HG2.out).trans (HCL.out 6 _ rfl)) d os
  have z7 : ∀ d os, (grow (redrawn W2 d) os).cell? ⟨g, 7, none⟩ = some (.slice b2 m2 c2') := fun d os => cell_regrown ((HB1.out.cell (p := ⟨g, 0 + 7, none⟩) HG2.out).trans (HCL.out 7 _ rfl)) d os
  refine wp_region_below_tail 11 (by kernel_rfl) (by kernel_rfl) ?_
  simp only [List.take_succ_cons, List.take_zero, List.drop_succ_cons, List.drop_zero]
  repeat (go_big_quiet_step (first | (with_reducible exact Q1.out _ _)))
  refine wpQuiet_nil ?_
  rintro _ ⟨⟨dq, osq⟩, rfl⟩
  have hb := below_regrown W2 dq osq
  obtain ⟨W3, hW⟩ : ∃ ww, ww = grow (redrawn W2 dq) osq := ⟨_, rfl⟩
  rw [← hW] at hb ⊢
  have HZ2 := Lib.hid (vec_step HZ1.out hb)
  have HB2 := Lib.hid (HB1.out.trans (hb.mono HB1.out.size))
  clear hW hb x0 x1 x2 x3 y0 y1 y2 y3 y4 y5 h0 h1 h2 h3 z0 z1 z2 z3 z4 z5 z6 z7 Q1
  go_wp2_with (with_reducible refine store_hit rfl (.tmp 6) (.tmp 24) rfl rfl (w.heap.size + 1 + 1) ht hi hu hv rfl rfl _ HZ2.out rfl ?_)
  refine bodyPost_ret (results_row_tmp rfl _ _ _ (w.heap.size + 1 + 1) 42 _ _ _ rfl (setRow_heap _ _ _ _ _ _ HZ2.out) Tryz.underlying42 hit_size) rfl ?_
  exact ⟨rfl, below_setRow HB2.out (by omega) _⟩
end Go.Proofs.YtdaokkgenfpmhaaGreat.BvhRb

/- The walk of layer 14's Nearest. -/
set_option linter.unusedVariables false
set_option linter.unusedSimpArgs false
namespace Go.Proofs.YtdaokkgenfpmhaaGreat.BvhG
open Go Go.RowKit Go.Sort Go.Lib FixM Base Num FixW Qb Qt Qa Qf Qg VecW VecV VecU LightQ LightC MeshM Rec MeshA MeshC MeshD MeshP HitM HitT HitX HitN HitS HitV BvhM BvhA BvhB BvhS BvhC BvhD BvhU BvhW BvhX BvhE BvhF
/-- the loop's state: the best so far in block g8, what is still to be asked in block g10 -/
structure Nx (w W wr : World) (g8 g10 : Nat) (best : Ht) (ss : List Pd) : Prop where
 row : wr.heap[g8]? = some (.cells (hrow best) 42)
 stk : ∃ cur, wr.heap[g10]? = some (.cells cur 81) ∧ cur.size = 32 ∧ ∀ k q, k < ss.length → ss[ss.length - 1 - k]? = some q → cur[k]? = some (.int .i64 (q.i : Int))
 hb : Below w.heap.size w wr
 k : Keeps (fun j => j = g8 ∨ j = g10) W wr
theorem Nx.step {w W wr w' : World} {g8 g10 : Nat} {best : Ht} {ss : List Pd} (h : Nx w W wr g8 g10 best ss) (hb : Below wr.heap.size wr w') : Nx w W w' g8 g10 best ss :=
 ⟨vec_step h.row hb, by obtain ⟨cur, h1, h2⟩ := h.stk; exact ⟨cur, vec_step h1 hb, h2⟩, h.hb.trans (hb.mono h.hb.size), h.k.trans (Keeps.of_ext hb _) (fun k hk => .inl hk)⟩
theorem root_box {m : Msh} {ns : List Nd} {ord : List Nat} {p : Pd} {nd : Nd} (h : Lies m ns ord p) (e : ns[p.i]? = some nd) : nd.b = boxL m p.T.l := by
 obtain ⟨T, i, f⟩ := p
 cases T with
 | leaf l => rw [h.leaf] at e; cases e; rfl
 | node l a b => rw [h.node] at e; cases e; rfl
theorem Nx.tail {w W wr : World} {g8 g10 : Nat} {best : Ht} {p : Pd} {ss : List Pd} (h : Nx w W wr g8 g10 best (p :: ss)) : Nx w W wr g8 g10 best ss :=
 ⟨h.row, by
  obtain ⟨cur, h1, h2, h3⟩ := h.stk
  refine ⟨cur, h1, h2, fun k q hk e => h3 k q (by rw [List.length_cons]; omega) ?_⟩
  rw [List.length_cons, show ss.length + 1 - 1 - k = (ss.length - 1 - k) + 1 by omega, List.getElem?_cons_succ]
  exact e, h.hb, h.k⟩
theorem _root_.Go.Proofs.YtdaokkgenfpmhaaGreat.BvhF.Lo.tail {m : Msh} {ns : List Nd} {ord : List Nat} {an : List Pd → Ht → Nat → Ht × Nat} {res : Ht × Nat} {p : Pd} {ss : List Pd} {best best' : Ht} {c c' : Nat} (h : Lo m ns ord an res (p :: ss) best c) (e : an (p :: ss) best c = an ss best' c') (hc : c' ≤ c + nodesT p.T + p.T.l.length) : Lo m ns ord an res ss best' c' :=
 ⟨fun q hq => h.lies q (List.mem_cons_of_mem _ hq), h.fit.2, by rw [← e]; exact h.ans, by have := h.bd; change c + (nodesT p.T + p.T.l.length + cst ss) ≤ 100000 at this; omega⟩
theorem Nx.push {w W wr : World} {g8 g10 : Nat} {best : Ht} {p q1 q2 : Pd} {ss : List Pd} {L L1 P1 P2 : Nat} (h : Nx w W wr g8 g10 best (p :: ss)) (hne : g8 ≠ g10) (hg : w.heap.size ≤ g10) (hL : L = ss.length) (h1 : L1 = L + 1) (h32 : L + 1 < 32) (e1 : q1.i = P1) (e2 : q2.i = P2) :
  Nx w W (((wr.setCell ⟨g10, L, none⟩ (.int .i64 (P2 : Int))).setCell ⟨g10, L1, none⟩ (.int .i64 (P1 : Int))).drew) g8 g10 best (q1 :: q2 :: ss) := by
 subst h1 e1 e2
 obtain ⟨cur, hc, hs, hk⟩ := h.tail.stk
 have k0 := (h.k.setCell g10 L (.int .i64 (q2.i : Int)) (.inl (.inr rfl))).setCell g10 (L + 1) (.int .i64 (q1.i : Int)) (.inl (.inr rfl))
 have b0 := setCell_below (setCell_below h.hb hg (.int .i64 (q2.i : Int)) (j := L)) hg (.int .i64 (q1.i : Int)) (j := L + 1)
 refine ⟨?_, ⟨(cur.setIfInBounds L (.int .i64 (q2.i : Int))).setIfInBounds (L + 1) (.int .i64 (q1.i : Int)), ?_, by simp [hs], ?_⟩, b0.trans ((drew_below _).mono b0.size), k0.drew⟩
 ·
  exact (heap_setCell_other _ _ _ _ hne).trans ((heap_setCell_other _ _ _ _ hne).trans h.row)
 ·
  exact heap_setCell_same _ _ _ _ _ _ (heap_setCell_same _ _ _ _ _ _ hc)
 ·
  intro k q hk2 e
  rw [List.length_cons, List.length_cons, ← hL] at e hk2
  by_cases c1 : k = L + 1
  ·
   subst c1
   rw [show L + 1 + 1 - 1 - (L + 1) = 0 by omega] at e
   simp at e; subst e
   simp [hs, h32]
  ·
   rw [Array.getElem?_setIfInBounds_ne (by omega)]
   by_cases c2 : k = L
   ·
    subst c2
    rw [show k + 1 + 1 - 1 - k = 1 by omega] at e
    simp at e; subst e
    have : k < cur.size := by omega
    simp [this]
   ·
    rw [Array.getElem?_setIfInBounds_ne (by omega)]
    rw [show L + 1 + 1 - 1 - k = (L - 1 - k) + 1 + 1 by omega, List.getElem?_cons_succ, List.getElem?_cons_succ] at e
    exact hk k q (by omega) (by rw [← hL]; exact e)
theorem Nx.put {w W wr : World} {g8 g10 : Nat} {best b' : Ht} {ss : List Pd} (h : Nx w W wr g8 g10 best ss) (hne : g8 ≠ g10) (hg : w.heap.size ≤ g8) : Nx w W (wr.setRow g8 (hrow b')) g8 g10 b' ss :=
 ⟨setRow_heap _ _ _ _ _ _ h.row, by obtain ⟨cur, h1, h2⟩ := h.stk; exact ⟨cur, (setRow_other _ _ _ _ (Ne.symm hne)).trans h1, h2⟩, below_setRow h.hb hg _, h.k.setRow g8 _ (.inl (.inl rfl))⟩
theorem cap_nums {k : IntKind} {N : Nat} {w : World} {a : Option Addr} {n c : Nat} {l : List Nat} (h : Nums k N w (.slice a n c) l) : n ≤ c ∧ c ≤ 9223372036854775807 := by
 obtain ⟨a', c', e, h1, h2, -⟩ := h.shape
 simp only [Value.slice.injEq] at e
 obtain ⟨-, rfl, rfl⟩ := e
 exact ⟨h1, h2⟩
theorem alloc_hit2 (w : World) : (Instr.alloc 42 true (.tuple #[])).run Tryz.prog w = .ok (.pointer (some ⟨w.heap.size, 0, none⟩)) (w.alloc (.cells #[.int .i64 0, .int .i64 0, .int .i64 0, .int .i64 0] 42)) := by kernel_rfl
theorem row_one4 (a b c d : Int) : (#[Value.int .i64 a, .int .i64 b, .int .i64 c, .int .i64 d] : Array Value).all (·.oneCell') = true := by
 rw [Array.all_eq_true']; intro v hv; simp at hv; rcases hv with rfl | rfl | rfl | rfl <;> rfl
def NearTo (w : World) (res : Ht × Nat) (e : Ending) (w' : World) : Prop := e = .returned (.tuple #[hitV res.1, .int .i64 (res.2 : Int)]) ∧ Below w.heap.size w w'
set_option maxRecDepth 100000 in
set_option maxHeartbeats 16000000 in
theorem near_some (w : World) (gT : Nat) (m : Msh) (h : TreeAt w gT m) (ok : m.ok) (hc : cntM m ≠ 0) (hl : cntM m ≤ 4096) (r : Ry) (hr : r.ok) (least : Int) : Calls Tryz.prog 11 #[.pointer (some ⟨gT, 0, none⟩), rayV r, .int .i64 least] w (NearTo w (nearestF m r least)) := by
 obtain ⟨v0, v1, v2, vn, vo, ht0, hmesh, hns, hord⟩ := h.is_
 have CB := Lib.hid (fun (b : Bx) (hb : HitM.Bx.ok b) (w2 : World) => hbox_any r b hr hb w2)
 have CS := Lib.hid (fun (w2 : World) (h2 : IsMesh w2 (.agg #[v0, v1, v2]) m) (i : Nat) (hi : i < cntM m) => shape_any _ m w2 h2 ok (by have : cntM m = m.ts.length + m.bs.length := rfl; omega) (i : Int) ⟨by omega, by omega⟩ r hr least)
 have HAN := Lib.hid (ans_whole m r least hc)
 have HFI := Lib.hid (fit_whole m hl)
 have HLI := Lib.hid (lies_whole m hc)
 obtain ⟨res, hres⟩ : ∃ x, x = nearestF m r least := ⟨_, rfl⟩
 rw [← hres] at HAN ⊢
 have HOK := Lib.hid (fun (l : List Nat) => (show HitM.Bx.ok (boxL m l) by rw [← boxS_boxes]; exact ok_boxS (ok_boxes m ok) l))
 have HMS := Lib.hid hmesh
 have HNS := Lib.hid hns
 have HOR := Lib.hid hord
 have HCL := Lib.hid (And.intro hc hl)
 have HNP := Lib.hid (show 0 < (flatM m).length by unfold flatM; rw [if_neg hc, flat_length]; exact nodes_pos _)
 have HOP := Lib.hid (show 0 < (ordM m).length by unfold ordM; rw [if_neg hc, leaves_length _ (whole_good m hc)]; exact good_pos _ (whole_good m hc))
 have HCW := Lib.hid (cst_whole m hc hl)
 have HOL := Lib.hid (fun i (hi : i ∈ ordM m) => ord_lt m i hi)
 obtain ⟨ns, hns2⟩ : ∃ x, x = flatM m := ⟨_, rfl⟩
 obtain ⟨ord, hord2⟩ : ∃ x, x = ordM m := ⟨_, rfl⟩
 rw [← hns2] at HNS HLI HNP
 rw [← hord2] at HOR HLI HOL HOP
 have HT := Lib.hid ht0
 have HBH := Lib.hid (show ∀ l, boxH r (boxL m l) = boxH r (boxL m l) from fun _ => rfl)
 obtain ⟨bh, hbh⟩ : ∃ f : List Nat → Option Int, f = fun l => boxH r (boxL m l) := ⟨_, rfl⟩
 have CB2 := Lib.hid (fun (l : List Nat) (w2 : World) => (show Calls Tryz.prog 29 #[rayV r, boxV (boxL m l)] w2 (VTo (boxR (bh l)) w2) by rw [hbh]; exact CB.out (boxL m l) (HOK.out l) w2))
 have HAE := Lib.hid (show ∀ h c, ansS m r least [] h c = (h, c) from fun _ _ => rfl)
 have HA1 := Lib.hid (fun (p : Pd) (ss : List Pd) (h : Ht) (c : Nat) (hs : bh p.T.l = none ∨ ∃ near, bh p.T.l = some near ∧ 0 ≤ h.i ∧ h.t < near) => ans_skip m r least p ss h c (by rw [hbh] at hs; exact hs))
 have HA2 := Lib.hid (fun (l : List Nat) (i f : Nat) (ss : List Pd) (h : Ht) (c : Nat) (near : Int) (e : bh l = some near) (hn : ¬ (0 ≤ h.i ∧ h.t < near)) => ans_leaf m r least l i f ss h c near (by rw [hbh] at e; exact e) hn)
 have HA3 := Lib.hid (fun (l : List Nat) (a b : Tr) (i f : Nat) (ss : List Pd) (h : Ht) (c : Nat) (near : Int) (e : bh l = some near) (hn : ¬ (0 ≤ h.i ∧ h.t < near)) (ia fa ib fb : Nat) => ans_node m r least l a b i f ss h c near (by rw [hbh] at e; exact e) hn ia fa ib fb)
 obtain ⟨sh, hsh⟩ : ∃ f : Nat → Option Ht, f = fun (i : Nat) => shapeF m (i : Int) r least := ⟨_, rfl⟩
 have CS2 := Lib.hid (fun (w2 : World) (h2 : IsMesh w2 (.agg #[v0, v1, v2]) m) (i : Nat) (hi : i < cntM m) => (show Calls Tryz.prog 30 #[.agg #[v0, v1, v2], .int .i64 (i : Int), rayV r, .int .i64 least] w2 (VTo (shapeR (sh i)) w2) by rw [hsh]; exact CS.out w2 h2 i hi))
 have HTF := Lib.hid (show ∀ h i, tryF m r least h i = match sh i with | none => h | some x => if betterF x h then x else h by rw [hsh]; intro h i; rfl)
 obtain ⟨tf, htf⟩ : ∃ x, x = tryF m r least := ⟨_, rfl⟩
 obtain ⟨an, han⟩ : ∃ x, x = ansS m r least := ⟨_, rfl⟩
 rw [← htf] at HTF HA2
 rw [← han] at HAN HA1 HA2 HA3 HAE
 clear hres hns2 hord2 hbh hsh htf han CB CS HBH hmesh hns hord ht0 h hc hl ok
 obtain ⟨an0, cn0, hvn, -, hcn⟩ := HNS.out.open_
 obtain ⟨bn, on, rfl, hbn, hce⟩ := hcn 0 HNP.out
 obtain ⟨ao0, co0, hvo, -, -, hco⟩ := HOR.out.open_
 obtain ⟨bo, oo, rfl, hbo, hcf⟩ := hco 0 HOP.out
 have HCE := Lib.hid (fun (w2 : World) (hb : Below w.heap.size w w2) i (h : i < ns.length) k x (hx : (encN ns[i])[k]? = some x) => (hb.cell (p := ⟨bn, on + i * 10 + k, none⟩) hbn).trans (hce i h k x hx))
 have HCF := Lib.hid (fun (w2 : World) (hb : Below w.heap.size w w2) i (h : i < ord.length) => (hb.cell (p := ⟨bo, oo + i, none⟩) hbo).trans (hcf i h))
 have HBN := Lib.hid hbn
 clear hcn hbn hce hco hbo hcf
 obtain ⟨NL, hNL⟩ : ∃ x, x = ns.length := ⟨_, rfl⟩
 obtain ⟨OL, hOL⟩ : ∃ x, x = ord.length := ⟨_, rfl⟩
 rw [← hNL] at hvn HNP
 rw [← hOL] at hvo
 subst hvn hvo
 have HLL := Lib.hid (And.intro hNL hOL)
 clear hNL hOL
 obtain ⟨⟨oX, oY, oZ⟩, ⟨dX, dY, dZ⟩⟩ := r
 dsimp only [rayV] at *
 have hA := alloc2_0 w (.cells #[.int .i64 oX, .int .i64 oY, .int .i64 oZ, .int .i64 dX, .int .i64 dY, .int .i64 dZ] 48) (.cells #[.int .i64 0, .int .i64 0, .int .i64 0, .int .i64 0] 42)
 have hB := alloc2_1 w (.cells #[.int .i64 oX, .int .i64 oY, .int .i64 oZ, .int .i64 dX, .int .i64 dY, .int .i64 dZ] 48) (.cells #[.int .i64 0, .int .i64 0, .int .i64 0, .int .i64 0] 42)
 have hB0 := alloc2_below w (.cells #[.int .i64 oX, .int .i64 oY, .int .i64 oZ, .int .i64 dX, .int .i64 dY, .int .i64 dZ] 48) (.cells #[.int .i64 0, .int .i64 0, .int .i64 0, .int .i64 0] 42)
 obtain ⟨W, hW⟩ : ∃ ww, ww = (w.alloc (.cells #[.int .i64 oX, .int .i64 oY, .int .i64 oZ, .int .i64 dX, .int .i64 dY, .int .i64 dZ] 48)).alloc (.cells #[.int .i64 0, .int .i64 0, .int .i64 0, .int .i64 0] 42) := ⟨_, rfl⟩
 rw [← hW] at hA hB hB0
 have HY0 := Lib.hid hA
 have HZ0 := Lib.hid hB
 have HB0 := Lib.hid hB0
 have HTW := Lib.hid (Base.lt_of_heap HT.out)
 have HT0 := Lib.hid (vec_step HT.out hB0)
 have HWW := Lib.hid hW
 clear hA hB hB0 hW hr HT
 go_enter Tryz.func11, Tryz.ntmps11
 go_upto_region 1 with (fail)
 rw [← HWW.out]
 clear HWW
 have d0 : ((NL : Int) == 0) = false := beq_eq_false_iff_ne.2 (by have := HNP.out; omega)
 have d0b : ¬ NL = 0 := by have := HNP.out; omega
 go_upto_region 2 with (with_reducible refine store_hit rfl (.tmp 8) (.tmp 19) rfl rfl W.heap.size 0 (-1) 0 0 rfl rfl _ (heap_alloc_new _ _) rfl ?_)
 have hx : Below W.heap.size W ((W.alloc (.cells #[.int .i64 0, .int .i64 0, .int .i64 0, .int .i64 0] 42)).setRow W.heap.size #[.int .i64 0, .int .i64 (-1), .int .i64 0, .int .i64 0]) := below_setRow (ext_alloc W (.cells #[.int .i64 0, .int .i64 0, .int .i64 0, .int .i64 0] 42)) (Nat.le_refl _) _
 have hn : ((W.alloc (.cells #[.int .i64 0, .int .i64 0, .int .i64 0, .int .i64 0] 42)).setRow W.heap.size #[.int .i64 0, .int .i64 (-1), .int .i64 0, .int .i64 0]).heap[W.heap.size]? = some (.cells (hrow htN) 42) := setRow_heap _ _ _ _ _ _ (heap_alloc_new _ _)
 obtain ⟨W2, hW⟩ : ∃ ww, ww = ((W.alloc (.cells #[.int .i64 0, .int .i64 0, .int .i64 0, .int .i64 0] 42)).setRow W.heap.size #[.int .i64 0, .int .i64 (-1), .int .i64 0, .int .i64 0]) := ⟨_, rfl⟩
 rw [← hW] at hx hn ⊢
 clear hW
 have HG8 := Lib.hid (show w.heap.size < W.heap.size from Nat.lt_of_le_of_lt (Nat.le_succ _) (Base.lt_of_heap HZ0.out))
 have HGZ := Lib.hid (Base.lt_of_heap HZ0.out)
 have HY1 := Lib.hid (vec_step HY0.out hx)
 have HZ1 := Lib.hid (vec_step HZ0.out hx)
 have HT1 := Lib.hid (vec_step HT0.out hx)
 have HB1 := Lib.hid (HB0.out.trans (hx.mono HB0.out.size))
 clear HY0 HZ0 HT0 HB0 hx  
 have HE1 := Lib.hid (hn)
 clear hn
 generalize W.heap.size = g8 at HE1 HG8 HGZ ⊢
 have cHT0 := cell_row HT1.out 0 _ rfl
 have cHT4 := cell_row HT1.out 4 _ rfl
 go_upto_region 4 with (fail)
 go_wp2_with fail
 clear cHT0 cHT4
 have hx := ext_alloc W2 (.cells #[.int .i64 0, .int .i64 0, .int .i64 0, .int .i64 0, .int .i64 0, .int .i64 0, .int .i64 0, .int .i64 0, .int .i64 0, .int .i64 0, .int .i64 0, .int .i64 0, .int .i64 0, .int .i64 0, .int .i64 0, .int .i64 0, .int .i64 0, .int .i64 0, .int .i64 0, .int .i64 0, .int .i64 0, .int .i64 0, .int .i64 0, .int .i64 0, .int .i64 0, .int .i64 0, .int .i64 0, .int .i64 0, .int .i64 0, .int .i64 0, .int .i64 0, .int .i64 0] 81)
 have hn := heap_alloc_new W2 (.cells #[.int .i64 0, .int .i64 0, .int .i64 0, .int .i64 0, .int .i64 0, .int .i64 0, .int .i64 0, .int .i64 0, .int .i64 0, .int .i64 0, .int .i64 0, .int .i64 0, .int .i64 0, .int .i64 0, .int .i64 0, .int .i64 0, .int .i64 0, .int .i64 0, .int .i64 0, .int .i64 0, .int .i64 0, .int .i64 0, .int .i64 0, .int .i64 0, .int .i64 0, .int .i64 0, .int .i64 0, .int .i64 0, .int .i64 0, .int .i64 0, .int .i64 0, .int .i64 0] 81)
 obtain ⟨W3, hW⟩ : ∃ ww, ww = W2.alloc (.cells #[.int .i64 0, .int .i64 0, .int .i64 0, .int .i64 0, .int .i64 0, .int .i64 0, .int .i64 0, .int .i64 0, .int .i64 0, .int .i64 0, .int .i64 0, .int .i64 0, .int .i64 0, .int .i64 0, .int .i64 0, .int .i64 0, .int .i64 0, .int .i64 0, .int .i64 0, .int .i64 0, .int .i64 0, .int .i64 0, .int .i64 0, .int .i64 0, .int .i64 0, .int .i64 0, .int .i64 0, .int .i64 0, .int .i64 0, .int .i64 0, .int .i64 0, .int .i64 0] 81) := ⟨_, rfl⟩
 rw [← hW] at hx hn ⊢
 clear hW
 have HGA := Lib.hid (Base.lt_of_heap HE1.out)
 have HY2 := Lib.hid (vec_step HY1.out hx)
 have HZ2 := Lib.hid (vec_step HZ1.out hx)
 have HT2 := Lib.hid (vec_step HT1.out hx)
 have HB2 := Lib.hid (HB1.out.trans (hx.mono HB1.out.size))
 have HE2 := Lib.hid (vec_step HE1.out hx)
 clear HY1 HZ1 HT1 HB1 HE1 hx  
 have HG10 := Lib.hid (show w.heap.size ≤ W2.heap.size from by have := HGA.out; have := HG8.out; omega)
 generalize W2.heap.size = g10 at hn HGA HG10 ⊢
 have HX0 := Lib.hid (show Nx w W3 W3 g8 g10 htN [⟨wholeT m, 0, 0⟩] from ⟨HE2.out, ⟨_, hn, rfl, fun k q h e => by have : k = 0 := (by simpa using h); subst this; simp at e; subst e; rfl⟩, HB2.out, Keeps.refl _ _⟩)
 have HL0 := Lib.hid (show Lo m ns ord an res [⟨wholeT m, 0, 0⟩] htN 0 from ⟨fun p hp => by rw [List.mem_singleton.1 hp]; exact HLI.out, HFI.out, HAN.out, by have := HCW.out; omega⟩)
 clear hn HLI HFI HAN HCW HE2
 go_loopg [9, 11] (wt [⟨wholeT m, 0, 0⟩]) (fun r n9 n11 wr => ∃ (ss : List Pd) (best : Ht) (c L1 : Nat), wt ss = r ∧ n9 = .int .i64 (c : Int) ∧ n11 = .int .i64 (L1 : Int) ∧ Hid (L1 = ss.length ∧ Lo m ns ord an res ss best c ∧ Nx w W3 wr g8 g10 best ss))
 case atStart => exact ⟨[⟨wholeT m, 0, 0⟩], htN, 0, 1, rfl, rfl, rfl, Lib.hid ⟨rfl, HL0.out, HX0.out⟩⟩
 case round =>
  obtain ⟨ss, best, c, L1, hwt, rfl, rfl, hin⟩ := hrel
  have HWT := Lib.hid hwt
  clear hwt HL0 HX0
  have HY9 := Lib.hid (keep_cell hin.out.2.2.k HY2.out (fun e => by have := HG8.out; have := HGA.out; have := HG10.out; have := HGZ.out; have := HTW.out; rcases e with e | e <;> omega))
  have HZ9 := Lib.hid (keep_cell hin.out.2.2.k HZ2.out (fun e => by have := HG8.out; have := HGA.out; have := HG10.out; have := HGZ.out; have := HTW.out; rcases e with e | e <;> omega))
  have HT9 := Lib.hid (keep_cell hin.out.2.2.k HT2.out (fun e => by have := HG8.out; have := HGA.out; have := HG10.out; have := HGZ.out; have := HTW.out; rcases e with e | e <;> omega))
  obtain ⟨bt, bi, bu, bv⟩ := best
  cases ss with
  | nil =>
   obtain rfl : L1 = 0 := hin.out.1
   have HRS := Lib.hid (show an [] ⟨bt, bi, bu, bv⟩ c = res from hin.out.2.1.ans)
   have HRE := Lib.hid (show res = (⟨bt, bi, bu, bv⟩, c) by rw [← HRS.out, HAE.out])
   have e0 := cell_row hin.out.2.2.row 0 _ rfl
   have e1 := cell_row hin.out.2.2.row 1 _ rfl
   have e2 := cell_row hin.out.2.2.row 2 _ rfl
   have e3 := cell_row hin.out.2.2.row 3 _ rfl
   have HB9 := Lib.hid hin.out.2.2.hb
   clear hin
   go_wp2_with (with_reducible refine store_hit rfl (.tmp 6) (.tmp 133) rfl rfl (w.heap.size + 1) bt bi bu bv rfl rfl _ HZ9.out rfl ?_)
   refine bodyPost_ret (results_row_tmp rfl _ _ _ (w.heap.size + 1) 42 _ _ _ rfl (setRow_heap _ _ _ _ _ _ HZ9.out) Tryz.underlying42 hit_size) rfl ?_
   exact ⟨by rw [HRE.out]; rfl, below_setRow HB9.out (Nat.le_succ _) _⟩
  | cons p ss =>
   obtain ⟨L, hL⟩ : ∃ x, x = ss.length := ⟨_, rfl⟩
   have HL1 := Lib.hid (show L1 = L + 1 by rw [hL]; exact hin.out.1)
   have HLN := Lib.hid hL
   clear hL
   have HLO := Lib.hid hin.out.2.1
   have HNX := Lib.hid hin.out.2.2
   have HLP := Lib.hid (HLO.out.lies p (List.mem_cons_self ..))
   have hL32 : L < 32 := by have h1 := HLO.out.fit.1; have h2 := deep_pos p.T; rw [← HLN.out] at h1; omega
   have HLB := Lib.hid (And.intro HL1.out hL32)
   have HCC := Lib.hid (show c ≤ 99999 by have h1 := HLO.out.bd; have h2 := nodes_pos p.T; change c + (nodesT p.T + p.T.l.length + cst ss) ≤ 100000 at h1; omega)
   obtain ⟨cur, hcur, hsz, hst⟩ := HNX.out.stk
   have hpi : cur[L]? = some (.int .i64 (p.i : Int)) := hst L p (by rw [List.length_cons, ← HLN.out]; exact Nat.lt_succ_self _) (by rw [List.length_cons, ← HLN.out, show L + 1 - 1 - L = 0 by omega]; rfl)
   have hpn : p.i < ns.length := by
    have h1 := HLP.out.1 0 (nodes_pos _)
    rw [Nat.add_zero, List.getElem?_eq_getElem (show 0 < (flatN m p.T p.i p.f).length by rw [flat_length]; exact nodes_pos _)] at h1
    exact (List.getElem?_eq_some_iff.1 h1).1
   have HPI := Lib.hid hpi
   have HPN := Lib.hid hpn
   have HCU := Lib.hid hcur
   have HSZ := Lib.hid hsz
   have dp : p.i < NL := by rw [HLL.out.1]; exact hpn
   have d1 : decide ((0 : Int) < (L1 : Int)) = true := decide_eq_true (by have := HLB.out; omega)
   have d1b : decide (0 < L1) = true := decide_eq_true (by have := HLB.out; omega)
   have i1 : IntKind.i64.wrap ((L1 : Int) - 1) = (L : Int) := by have := HLB.out; rw [wrap_in (by omega) (by omega)]; omega
   obtain ⟨c1, hc1⟩ : ∃ x, x = c + 1 := ⟨_, rfl⟩
   have i2 := wrap_more c c1 hc1 (Nat.le_trans HCC.out (by decide))
   have HC1 := Lib.hid hc1
   clear hpi hpn hsz hst hin hcur hc1
   have f4 := fun d os => cell_regrown (cell_row HT9.out 4 _ rfl) d os
   have f10 := fun d os => cell_regrown (cell_row HCU.out L _ HPI.out) d os
   go_upto_region 9 with (fail)
   refine wp_region_quiet_below (by kernel_rfl) (by kernel_rfl) ?_
   repeat (go_big_quiet_step (fail))
   refine wpQuiet_nil ?_
   first | (rintro _ ⟨⟨dq, osq⟩, rfl⟩) | (rintro ⟨dq, osq⟩)
   have hb := below_regrown wr dq osq
   obtain ⟨x1, hW⟩ : ∃ ww, ww = grow (redrawn wr dq) osq := ⟨_, rfl⟩
   rw [← hW] at hb ⊢
   clear hW
   have HY9_ := Lib.hid (vec_step HY9.out hb)
   clear HY9
   have HY9 := HY9_
   clear HY9_
   have HZ9_ := Lib.hid (vec_step HZ9.out hb)
   clear HZ9
   have HZ9 := HZ9_
   clear HZ9_
   have HT9_ := Lib.hid (vec_step HT9.out hb)
   clear HT9
   have HT9 := HT9_
   clear HT9_
   have HCU_ := Lib.hid (vec_step HCU.out hb)
   clear HCU
   have HCU := HCU_
   clear HCU_
   have HNX_ := Lib.hid (HNX.out.step hb)
   clear HNX
   have HNX := HNX_
   clear HNX_
   clear hb f4 f10 d1 d1b i1 dp
   obtain ⟨nd, hnd⟩ : ∃ x, x = ns[p.i]'HPN.out := ⟨_, rfl⟩
   have HND := Lib.hid (show ∀ w2, Below w.heap.size w w2 → ∀ k x, (encN nd)[k]? = some x → w2.cell? ⟨bn, on + p.i * 10 + k, none⟩ = some x from fun w2 hb k x hx => HCE.out w2 hb p.i HPN.out k x (by rw [← hnd]; exact hx))
   have HNE := Lib.hid (show ns[p.i]? = some nd by rw [hnd]; exact List.getElem?_eq_getElem HPN.out)
   clear hnd
   have HRB := Lib.hid (show nd.b = boxL m p.T.l from root_box HLP.out HNE.out)
   obtain ⟨bx, hbx⟩ : ∃ x, x = boxL m p.T.l := ⟨_, rfl⟩
   have CBX := Lib.hid (CB2.out p.T.l)
   unfold boxV at CBX
   rw [← hbx] at HRB CBX
   clear hbx
   have f0 := fun d os => cell_regrown (show x1.cell? ⟨bn, on + p.i * 10, none⟩ = some (.int .i64 bx.lo.x) from HND.out x1 HNX.out.hb 0 _ (show (encN nd)[0]? = some (.int .i64 bx.lo.x) by rw [← HRB.out]; rfl)) d os
   have f1 := fun d os => cell_regrown (show x1.cell? ⟨bn, on + p.i * 10 + 1, none⟩ = some (.int .i64 bx.lo.y) from HND.out x1 HNX.out.hb 1 _ (show (encN nd)[1]? = some (.int .i64 bx.lo.y) by rw [← HRB.out]; rfl)) d os
   have f2 := fun d os => cell_regrown (show x1.cell? ⟨bn, on + p.i * 10 + 2, none⟩ = some (.int .i64 bx.lo.z) from HND.out x1 HNX.out.hb 2 _ (show (encN nd)[2]? = some (.int .i64 bx.lo.z) by rw [← HRB.out]; rfl)) d os
   have f3 := fun d os => cell_regrown (show x1.cell? ⟨bn, on + p.i * 10 + 3, none⟩ = some (.int .i64 bx.hi.x) from HND.out x1 HNX.out.hb 3 _ (show (encN nd)[3]? = some (.int .i64 bx.hi.x) by rw [← HRB.out]; rfl)) d os
   have f4 := fun d os => cell_regrown (show x1.cell? ⟨bn, on + p.i * 10 + 4, none⟩ = some (.int .i64 bx.hi.y) from HND.out x1 HNX.out.hb 4 _ (show (encN nd)[4]? = some (.int .i64 bx.hi.y) by rw [← HRB.out]; rfl)) d os
   have f5 := fun d os => cell_regrown (show x1.cell? ⟨bn, on + p.i * 10 + 5, none⟩ = some (.int .i64 bx.hi.z) from HND.out x1 HNX.out.hb 5 _ (show (encN nd)[5]? = some (.int .i64 bx.hi.z) by rw [← HRB.out]; rfl)) d os
   have g0 := fun d os => cell_regrown (cell_row HY9.out 0 _ rfl) d os
   have g1 := fun d os => cell_regrown (cell_row HY9.out 1 _ rfl) d os
   have g2 := fun d os => cell_regrown (cell_row HY9.out 2 _ rfl) d os
   have g3 := fun d os => cell_regrown (cell_row HY9.out 3 _ rfl) d os
   have g4 := fun d os => cell_regrown (cell_row HY9.out 4 _ rfl) d os
   have g5 := fun d os => cell_regrown (cell_row HY9.out 5 _ rfl) d os
   cases hbh : bh p.T.l with
   | none =>
    rw [hbh] at CBX
    unfold boxR at CBX
    dsimp only [Option.getD_none, Option.isSome_none] at CBX
    have HBH := Lib.hid hbh
    clear hbh
    have Q1 := Lib.hid (qb (P := Tryz.prog) (W := x1) (fun w2 hb => CBX.out w2))
    go_upto_region 11 with (fail)
    refine wp_region_quiet_below (by kernel_rfl) (by kernel_rfl) ?_
    repeat (go_big_quiet_step (first | (with_reducible exact Q1.out _ _)))
    refine wpQuiet_nil ?_
    first | (rintro _ ⟨⟨dq, osq⟩, rfl⟩) | (rintro ⟨dq, osq⟩)
    have hb := below_regrown x1 dq osq
    obtain ⟨x2, hW⟩ : ∃ ww, ww = grow (redrawn x1 dq) osq := ⟨_, rfl⟩
    rw [← hW] at hb ⊢
    clear hW
    have HY9_ := Lib.hid (vec_step HY9.out hb)
    clear HY9
    have HY9 := HY9_
    clear HY9_
    have HZ9_ := Lib.hid (vec_step HZ9.out hb)
    clear HZ9
    have HZ9 := HZ9_
    clear HZ9_
    have HT9_ := Lib.hid (vec_step HT9.out hb)
    clear HT9
    have HT9 := HT9_
    clear HT9_
    have HCU_ := Lib.hid (vec_step HCU.out hb)
    clear HCU
    have HCU := HCU_
    clear HCU_
    have HNX_ := Lib.hid (HNX.out.step hb)
    clear HNX
    have HNX := HNX_
    clear HNX_
    clear hb Q1 CBX f0 g0 f1 g1 f2 g2 f3 g3 f4 g4 f5 g5
    clear x1
    have HA := Lib.hid (HA1.out p ss ⟨bt, bi, bu, bv⟩ c (.inl HBH.out))
    go_wp2_with fail
    go_roundg (wt ss)
    case measure => rw [← HWT.out]; exact wt_drop p ss
    case rel => exact ⟨ss, ⟨bt, bi, bu, bv⟩, c1, L, rfl, rfl, rfl, Lib.hid ⟨HLN.out, HLO.out.tail (by rw [HA.out, HC1.out]) (by have h1 := nodes_pos p.T; have h2 := HC1.out; omega), HNX.out.tail⟩⟩
   | some near =>
    rw [hbh] at CBX
    unfold boxR at CBX
    dsimp only [Option.getD_some, Option.isSome_some] at CBX
    have HBH := Lib.hid hbh
    clear hbh
    have Q1 := Lib.hid (qb (P := Tryz.prog) (W := x1) (fun w2 hb => CBX.out w2))
    go_upto_region 11 with (fail)
    refine wp_region_quiet_below (by kernel_rfl) (by kernel_rfl) ?_
    repeat (go_big_quiet_step (first | (with_reducible exact Q1.out _ _)))
    refine wpQuiet_nil ?_
    first | (rintro _ ⟨⟨dq, osq⟩, rfl⟩) | (rintro ⟨dq, osq⟩)
    have hb := below_regrown x1 dq osq
    obtain ⟨x2, hW⟩ : ∃ ww, ww = grow (redrawn x1 dq) osq := ⟨_, rfl⟩
    rw [← hW] at hb ⊢
    clear hW
    have HY9_ := Lib.hid (vec_step HY9.out hb)
    clear HY9
    have HY9 := HY9_
    clear HY9_
    have HZ9_ := Lib.hid (vec_step HZ9.out hb)
    clear HZ9
    have HZ9 := HZ9_
    clear HZ9_
    have HT9_ := Lib.hid (vec_step HT9.out hb)
    clear HT9
    have HT9 := HT9_
    clear HT9_
    have HCU_ := Lib.hid (vec_step HCU.out hb)
    clear HCU
    have HCU := HCU_
    clear HCU_
    have HNX_ := Lib.hid (HNX.out.step hb)
    clear HNX
    have HNX := HNX_
    clear HNX_
    clear hb Q1 CBX f0 g0 f1 g1 f2 g2 f3 g3 f4 g4 f5 g5
    clear x1
    by_cases hsk : 0 ≤ bi ∧ bt < near
    ·
     have e1 := cell_row HNX.out.row 1 (.int .i64 bi) rfl
     have e0 := cell_row HNX.out.row 0 (.int .i64 bt) rfl
     have d1 : decide (0 ≤ bi) = true := decide_eq_true hsk.1
     have d2 : decide (bt < near) = true := decide_eq_true hsk.2
     have HSK := Lib.hid hsk
     clear hsk
     have HA := Lib.hid (HA1.out p ss ⟨bt, bi, bu, bv⟩ c (.inr ⟨near, HBH.out, HSK.out⟩))
     go_wp2_with fail
     go_roundg (wt ss)
     case measure => rw [← HWT.out]; exact wt_drop p ss
     case rel => exact ⟨ss, ⟨bt, bi, bu, bv⟩, c1, L, rfl, rfl, rfl, Lib.hid ⟨HLN.out, HLO.out.tail (by rw [HA.out, HC1.out]) (by have h1 := nodes_pos p.T; have h2 := HC1.out; omega), HNX.out.tail⟩⟩
    ·
     have HSK := Lib.hid hsk
     go_upto_region 12 with (fail)
     go_cut [73] from 61 to 72 (fun b wc => b = .bool false ∧ wc = x2)
     case first =>
      have e1 := cell_row HNX.out.row 1 (.int .i64 bi) rfl
      have e0 := cell_row HNX.out.row 0 (.int .i64 bt) rfl
      by_cases h1 : 0 ≤ bi
      ·
       have d1 : decide (0 ≤ bi) = true := decide_eq_true h1
       have d2 : decide (bt < near) = false := decide_eq_false (fun h => HSK.out ⟨h1, h⟩)
       clear h1 hsk
       go_wp2_with fail
       go_meet
       case rel => exact ⟨rfl, rfl⟩
      ·
       have d1 : decide (0 ≤ bi) = false := decide_eq_false h1
       clear h1 hsk
       go_wp2_with fail
       go_meet
       case rel => exact ⟨rfl, rfl⟩
     case rest =>
      obtain ⟨rfl, rfl⟩ := hcut
      clear hsk
      rename World => x2
      obtain ⟨T, pi_, pf⟩ := p
      dsimp only at *
      cases T with
      | leaf l =>
       have HPT := Lib.hid HLP.out.part
       obtain ⟨tt, htt⟩ : ∃ x, x = pf + l.length := ⟨_, rfl⟩
       have hnd : nd = ⟨boxL m l, pf, tt, -1, -1⟩ := by
        have h1 := HNE.out
        rw [HLP.out.leaf] at h1
        rw [htt]
        exact (Option.some.inj h1).symm
       have x8 := HND.out x2 HNX.out.hb 8 (.int .i64 (-1)) (by rw [hnd]; rfl)
       have x6 := fun d os => cell_regrown (HND.out x2 HNX.out.hb 6 (.int .i64 (pf : Int)) (by rw [hnd]; rfl)) d os
       have x7 := fun d os => cell_regrown (HND.out x2 HNX.out.hb 7 (.int .i64 (tt : Int)) (by rw [hnd]; rfl)) d os
       have f5 := fun d os => cell_regrown (cell_row HT9.out 5 _ rfl) d os
       have hft : pf < tt := by have := HPT.out.1; omega
       have htl : tt ≤ OL := by rw [htt, HLL.out.2]; exact HPT.out.2.2.1
       have hcap := cap_nums HOR.out
       have HTE := Lib.hid htt
       clear htt hnd
       go_upto_region 16 with (fail)
       refine wp_region_quiet_below (by kernel_rfl) (by kernel_rfl) ?_
       repeat (go_big_quiet_step (fail))
       refine wpQuiet_nil ?_
       first | (rintro _ ⟨⟨dq, osq⟩, rfl⟩) | (rintro ⟨dq, osq⟩)
       have hb := below_regrown x2 dq osq
       obtain ⟨x3, hW⟩ : ∃ ww, ww = grow (redrawn x2 dq) osq := ⟨_, rfl⟩
       rw [← hW] at hb ⊢
       clear hW
       have HY9_ := Lib.hid (vec_step HY9.out hb)
       clear HY9
       have HY9 := HY9_
       clear HY9_
       have HZ9_ := Lib.hid (vec_step HZ9.out hb)
       clear HZ9
       have HZ9 := HZ9_
       clear HZ9_
       have HT9_ := Lib.hid (vec_step HT9.out hb)
       clear HT9
       have HT9 := HT9_
       clear HT9_
       have HCU_ := Lib.hid (vec_step HCU.out hb)
       clear HCU
       have HCU := HCU_
       clear HCU_
       have HNX_ := Lib.hid (HNX.out.step hb)
       clear HNX
       have HNX := HNX_
       clear HNX_
       clear hb f5 x6 x7 x8
       clear x2
       go_wp2_with fail
       have HX4 := Lib.hid HNX.out.tail
       go_loopg [9, 108] l.length (fun r n9 n108 wr => ∃ (k ck : Nat) (b2 : Ht), k + r = l.length ∧ n9 = .int .i64 (ck : Int) ∧ n108 = .int .i64 (k : Int) ∧ Hid (ck = c1 + k ∧ b2 = (l.take k).foldl tf ⟨bt, bi, bu, bv⟩ ∧ Nx w W3 wr g8 g10 b2 ss))
       case atStart => exact ⟨0, c1, ⟨bt, bi, bu, bv⟩, by omega, rfl, rfl, Lib.hid ⟨rfl, rfl, HX4.out⟩⟩
       case round =>
        obtain ⟨k, ck, b2, hkr, rfl, rfl, hin⟩ := hrel
        have HKR := Lib.hid hkr
        have htp : tt - pf = l.length := by have := HTE.out; omega
        by_cases hk : k < tt - pf
        ·
         have hkl : k < l.length := by omega
         have d1 : decide ((k : Int) < ((tt - pf : Nat) : Int)) = true := decide_eq_true (by omega)
         have d1b : decide (k < tt - pf) = true := decide_eq_true hk
         have hok := HPT.out.2.2.2 k hkl
         obtain ⟨i, hi⟩ : ∃ x, x = l[k] := ⟨_, rfl⟩
         rw [← hi] at hok
         have HIC := Lib.hid (HOL.out i (List.mem_of_getElem? hok))
         have HIN := Lib.hid hin.out
         have HX5 := Lib.hid hin.out.2.2
         have z0 : wr.cell? ⟨bo, oo + pf + k, none⟩ = some (.int .i64 (i : Int)) := by
          obtain ⟨h1, h2⟩ := List.getElem?_eq_some_iff.1 hok
          have h3 := HCF.out wr HX5.out.hb (pf + k) h1
          rw [h2, ← Nat.add_assoc] at h3
          exact h3
         have HTFI := Lib.hid (show (l.take (k + 1)).foldl tf ⟨bt, bi, bu, bv⟩ = tf b2 i by rw [List.take_add_one, List.getElem?_eq_getElem hkl, ← hi, List.foldl_append, ← HIN.out.2.1]; rfl)
         have HCK := Lib.hid (show ck ≤ 100002 by have h1 := HIN.out.1; have h2 := HC1.out; have h3 := HCC.out; have h4 := HPT.out.2.1; omega)
         obtain ⟨ck1, hck1⟩ : ∃ x, x = ck + 1 := ⟨_, rfl⟩
         have i5 := wrap_more ck ck1 hck1 (Nat.le_trans HCK.out (by decide))
         have HC2 := Lib.hid (show ck1 = c1 + (k + 1) by rw [hck1, HIN.out.1]; omega)
         have HMR := Lib.hid (show l.length - (k + 1) < gk by omega)
         have HKK := Lib.hid (show k + 1 + (l.length - (k + 1)) = l.length by omega)
         have i6 : IntKind.i64.wrap ((k : Int) + 1) = ((k + 1 : Nat) : Int) := by have := HPT.out.2.1; rw [wrap_in (by omega) (by omega)]; omega
         have HT8 := Lib.hid (keep_cell HX5.out.k HT2.out (fun e => by have := HG8.out; have := HG10.out; have := HTW.out; rcases e with e | e <;> omega))
         have HY8 := Lib.hid (keep_cell HX5.out.k HY2.out (fun e => by have := HG8.out; have := HGZ.out; have := HGA.out; rcases e with e | e <;> omega))
         have KT := Lib.hid (fun W9 (hb : Below wr.heap.size wr W9) => vec_step HT8.out hb)
         have KY := Lib.hid (fun W9 (hb : Below wr.heap.size wr W9) => vec_step HY8.out hb)
         have CSI := Lib.hid (fun W9 (hb : Below wr.heap.size wr W9) => CS2.out W9 (HMS.out.below (HX5.out.hb.trans (hb.mono HX5.out.hb.size))) i HIC.out)
         obtain ⟨b2t, b2i, b2u, b2v⟩ := b2
         clear hin hkr hkl hi hok hck1 htp HT8 HY8 htl hft hcap HX4 HNX HCU hL32
         go_upto_region 20 with (fail)
         clear hk
         have HTFE := HTF.out ⟨b2t, b2i, b2u, b2v⟩ i
         cases hsh : sh i with
         | none =>
          rw [hsh] at CSI HTFE
          clear hsh
          dsimp only at HTFE
          have HTFX := Lib.hid (HTFI.out.trans HTFE)
          clear HTFE HTFI
          unfold shapeR at CSI
          dsimp only [hitV, htN, Option.getD_some, Option.getD_none, Option.isSome_some, Option.isSome_none] at CSI
          refine wp_region_free 135 [0, 1, 2, 3, 4, 5, 6, 7, 8, 9, 10, 13] [⟨11, 17, #[.int .i64 0, .int .i64 0, .int .i64 0, .int .i64 0], 42, 12, 123, #[.int .i64 0, .int .i64 (-1), .int .i64 0, .int .i64 0]⟩] (by kernel_rfl) rfl (by kernel_rfl) (by
           intro x hx
           simp only [List.mem_cons, List.not_mem_nil, or_false] at hx
           subst hx
           exact ⟨⟨_, rfl, ⟨⟨_, rfl, alloc_hit2⟩, rfl, rfl⟩⟩, _, rfl, ⟨⟨_, rfl, hit_size⟩, rfl, rfl, rfl, row_one4 _ _ _ _⟩⟩) ?_
          refine Walk.step (A := ?A00) (o := ?o00) ?e00 ?w00 115 ?d00 (by simp) ?h00 ?n00
          case e00 => simp only [List.getElem?_toArray, List.getElem?_cons_succ, List.getElem?_cons_zero]; exact rfl
          case w00 => exact rfl
          case d00 => exact rfl
          case h00 =>
           intro W9 hW9
           go_big_quiet_op
           exact rfl
          refine Walk.step (A := ?A01) (o := ?o01) ?e01 ?w01 116 ?d01 (by simp) ?h01 ?n01
          case e01 => simp only [List.getElem?_toArray, List.getElem?_cons_succ, List.getElem?_cons_zero]; exact rfl
          case w01 => exact rfl
          case d01 => exact rfl
          case h01 =>
           intro W9 hW9
           go_big_quiet_op
           exact rfl
          refine Walk.step (A := ?A02) (o := ?o02) ?e02 ?w02 117 ?d02 (by simp) ?h02 ?n02
          case e02 => simp only [List.getElem?_toArray, List.getElem?_cons_succ, List.getElem?_cons_zero]; exact rfl
          case w02 => exact rfl
          case d02 => exact rfl
          case h02 =>
           intro W9 hW9
           go_big_quiet_op
           exact rfl
          refine Walk.step (A := ?A03) (o := ?o03) ?e03 ?w03 118 ?d03 (by simp) ?h03 ?n03
          case e03 => simp only [List.getElem?_toArray, List.getElem?_cons_succ, List.getElem?_cons_zero]; exact rfl
          case w03 => exact rfl
          case d03 => exact rfl
          case h03 =>
           intro W9 hW9
           have z1 := cell_all (KT.out W9 hW9) 1 _ rfl
           have z2 := cell_all (KT.out W9 hW9) 2 _ rfl
           have z3 := cell_all (KT.out W9 hW9) 3 _ rfl
           go_big_quiet_op
           exact rfl
          refine Walk.step (A := ?A04) (o := ?o04) ?e04 ?w04 119 ?d04 (by simp) ?h04 ?n04
          case e04 => simp only [List.getElem?_toArray, List.getElem?_cons_succ, List.getElem?_cons_zero]; exact rfl
          case w04 => exact rfl
          case d04 => exact rfl
          case h04 =>
           intro W9 hW9
           go_big_quiet_op
           exact rfl
          refine Walk.step (A := ?A05) (o := ?o05) ?e05 ?w05 120 ?d05 (by simp) ?h05 ?n05
          case e05 => simp only [List.getElem?_toArray, List.getElem?_cons_succ, List.getElem?_cons_zero]; exact rfl
          case w05 => exact rfl
          case d05 => exact rfl
          case h05 =>
           intro W9 hW9
           have z0 := cell_all (KY.out W9 hW9) 0 _ rfl
           have z1 := cell_all (KY.out W9 hW9) 1 _ rfl
           have z2 := cell_all (KY.out W9 hW9) 2 _ rfl
           have z3 := cell_all (KY.out W9 hW9) 3 _ rfl
           have z4 := cell_all (KY.out W9 hW9) 4 _ rfl
           have z5 := cell_all (KY.out W9 hW9) 5 _ rfl
           go_big_quiet_op
           exact rfl
          refine Walk.step (A := ?A06) (o := ?o06) ?e06 ?w06 121 ?d06 (by simp) ?h06 ?n06
          case e06 => simp only [List.getElem?_toArray, List.getElem?_cons_succ, List.getElem?_cons_zero]; exact rfl
          case w06 => exact rfl
          case d06 => exact rfl
          case h06 =>
           intro W9 hW9
           go_big_quiet_op
           exact rfl
          refine Walk.step (A := ?A07) (o := ?o07) ?e07 ?w07 122 ?d07 (by simp) ?h07 ?n07
          case e07 => simp only [List.getElem?_toArray, List.getElem?_cons_succ, List.getElem?_cons_zero]; exact rfl
          case w07 => exact rfl
          case d07 => exact rfl
          case h07 =>
           intro W9 hW9
           have Q9 := qb (P := Tryz.prog) (W := W9) (fun w2 hb => CSI.out w2 (hW9.trans (hb.mono hW9.size)))
           go_big_quiet_op
           apply Exists.intro
           refine ⟨fun _ => ?_, ?_⟩
           ·
            with_reducible exact Q9 _ _
           ·
            exact rfl
          refine Walk.step (A := ?A08) (o := ?o08) ?e08 ?w08 114 ?d08 (by simp) ?h08 ?n08
          case e08 => simp only [List.getElem?_toArray, List.getElem?_cons_succ, List.getElem?_cons_zero]; exact rfl
          case w08 => exact rfl
          case d08 => exact rfl
          case h08 =>
           intro W9 hW9
           go_big_quiet_op
           exact rfl
          refine Walk.step (A := ?A09) (o := ?o09) ?e09 ?w09 123 ?d09 (by simp) ?h09 ?n09
          case e09 => simp only [List.getElem?_toArray, List.getElem?_cons_succ, List.getElem?_cons_zero]; exact rfl
          case w09 => exact rfl
          case d09 => exact rfl
          case h09 =>
           intro W9 hW9
           go_big_quiet_op
           exact rfl
          refine Walk.step (A := ?A010) (o := ?o010) ?e010 ?w010 124 ?d010 (by simp) ?h010 ?n010
          case e010 => simp only [List.getElem?_toArray, List.getElem?_cons_succ, List.getElem?_cons_zero]; exact rfl
          case w010 => exact rfl
          case d010 => exact rfl
          case h010 =>
           intro W9 hW9
           go_big_quiet_op
           exact rfl
          refine Walk.step (A := ?A011) (o := ?o011) ?e011 ?w011 18 ?d011 (by simp) ?h011 ?n011
          case e011 => simp only [List.getElem?_toArray, List.getElem?_cons_succ, List.getElem?_cons_zero]; exact rfl
          case w011 => exact rfl
          case d011 => exact rfl
          case h011 =>
           intro W9 hW9
           go_big_quiet_op
           exact rfl
          refine ⟨?_, ?_⟩
          ·
           intro x hx
           simp only [List.mem_cons, List.not_mem_nil, or_false] at hx
           subst hx
           rfl
          intro G hG hne y1 hb hk
          have k7 := hk _ (List.mem_cons_self ..)
          dsimp only at k7
          simp only [lay, Act.put, List.setIfInBounds_toArray, List.set_cons_succ, List.set_cons_zero, ptr]
          generalize G 11 = gH at k7 ⊢
          have HX6 := Lib.hid (HX5.out.step hb)
          have HHR := Lib.hid k7
          clear hG hne hk hb k7 KT KY CSI z0 HX5
          go_wp2_with fail
          go_roundg (l.length - (k + 1))
          case measure => exact HMR.out
          case rel => exact ⟨k + 1, ck1, ⟨b2t, b2i, b2u, b2v⟩, HKK.out, rfl, by first | rfl | go_num, Lib.hid ⟨HC2.out, HTFX.out.symm, HX6.out⟩⟩
         | some hh =>
          obtain ⟨ht, hi_, hu, hv⟩ := hh
          rw [hsh] at CSI HTFE
          clear hsh
          dsimp only at HTFE
          have HTFX := Lib.hid (HTFI.out.trans HTFE)
          clear HTFE HTFI
          unfold shapeR at CSI
          dsimp only [hitV, htN, Option.getD_some, Option.getD_none, Option.isSome_some, Option.isSome_none] at CSI
          refine wp_region_free 135 [0, 1, 2, 3, 4, 5, 6, 7, 8, 9, 10, 13] [⟨11, 17, #[.int .i64 0, .int .i64 0, .int .i64 0, .int .i64 0], 42, 12, 123, #[.int .i64 ht, .int .i64 hi_, .int .i64 hu, .int .i64 hv]⟩] (by kernel_rfl) rfl (by kernel_rfl) (by
           intro x hx
           simp only [List.mem_cons, List.not_mem_nil, or_false] at hx
           subst hx
           exact ⟨⟨_, rfl, ⟨⟨_, rfl, alloc_hit2⟩, rfl, rfl⟩⟩, _, rfl, ⟨⟨_, rfl, hit_size⟩, rfl, rfl, rfl, row_one4 _ _ _ _⟩⟩) ?_
          refine Walk.step (A := ?A10) (o := ?o10) ?e10 ?w10 115 ?d10 (by simp) ?h10 ?n10
          case e10 => simp only [List.getElem?_toArray, List.getElem?_cons_succ, List.getElem?_cons_zero]; exact rfl
          case w10 => exact rfl
          case d10 => exact rfl
          case h10 =>
           intro W9 hW9
           go_big_quiet_op
           exact rfl
          refine Walk.step (A := ?A11) (o := ?o11) ?e11 ?w11 116 ?d11 (by simp) ?h11 ?n11
          case e11 => simp only [List.getElem?_toArray, List.getElem?_cons_succ, List.getElem?_cons_zero]; exact rfl
          case w11 => exact rfl
          case d11 => exact rfl
          case h11 =>
           intro W9 hW9
           go_big_quiet_op
           exact rfl
          refine Walk.step (A := ?A12) (o := ?o12) ?e12 ?w12 117 ?d12 (by simp) ?h12 ?n12
          case e12 => simp only [List.getElem?_toArray, List.getElem?_cons_succ, List.getElem?_cons_zero]; exact rfl
          case w12 => exact rfl
          case d12 => exact rfl
          case h12 =>
           intro W9 hW9
           go_big_quiet_op
           exact rfl
          refine Walk.step (A := ?A13) (o := ?o13) ?e13 ?w13 118 ?d13 (by simp) ?h13 ?n13
          case e13 => simp only [List.getElem?_toArray, List.getElem?_cons_succ, List.getElem?_cons_zero]; exact rfl
          case w13 => exact rfl
          case d13 => exact rfl
          case h13 =>
           intro W9 hW9
           have z1 := cell_all (KT.out W9 hW9) 1 _ rfl
           have z2 := cell_all (KT.out W9 hW9) 2 _ rfl
           have z3 := cell_all (KT.out W9 hW9) 3 _ rfl
           go_big_quiet_op
           exact rfl
          refine Walk.step (A := ?A14) (o := ?o14) ?e14 ?w14 119 ?d14 (by simp) ?h14 ?n14
          case e14 => simp only [List.getElem?_toArray, List.getElem?_cons_succ, List.getElem?_cons_zero]; exact rfl
          case w14 => exact rfl
          case d14 => exact rfl
          case h14 =>
           intro W9 hW9
           go_big_quiet_op
           exact rfl
          refine Walk.step (A := ?A15) (o := ?o15) ?e15 ?w15 120 ?d15 (by simp) ?h15 ?n15
          case e15 => simp only [List.getElem?_toArray, List.getElem?_cons_succ, List.getElem?_cons_zero]; exact rfl
          case w15 => exact rfl
          case d15 => exact rfl
          case h15 =>
           intro W9 hW9
           have z0 := cell_all (KY.out W9 hW9) 0 _ rfl
           have z1 := cell_all (KY.out W9 hW9) 1 _ rfl
           have z2 := cell_all (KY.out W9 hW9) 2 _ rfl
           have z3 := cell_all (KY.out W9 hW9) 3 _ rfl
           have z4 := cell_all (KY.out W9 hW9) 4 _ rfl
           have z5 := cell_all (KY.out W9 hW9) 5 _ rfl
           go_big_quiet_op
           exact rfl
          refine Walk.step (A := ?A16) (o := ?o16) ?e16 ?w16 121 ?d16 (by simp) ?h16 ?n16
          case e16 => simp only [List.getElem?_toArray, List.getElem?_cons_succ, List.getElem?_cons_zero]; exact rfl
          case w16 => exact rfl
          case d16 => exact rfl
          case h16 =>
           intro W9 hW9
           go_big_quiet_op
           exact rfl
          refine Walk.step (A := ?A17) (o := ?o17) ?e17 ?w17 122 ?d17 (by simp) ?h17 ?n17
          case e17 => simp only [List.getElem?_toArray, List.getElem?_cons_succ, List.getElem?_cons_zero]; exact rfl
          case w17 => exact rfl
          case d17 => exact rfl
          case h17 =>
           intro W9 hW9
           have Q9 := qb (P := Tryz.prog) (W := W9) (fun w2 hb => CSI.out w2 (hW9.trans (hb.mono hW9.size)))
           go_big_quiet_op
           apply Exists.intro
           refine ⟨fun _ => ?_, ?_⟩
           ·
            with_reducible exact Q9 _ _
           ·
            exact rfl
          refine Walk.step (A := ?A18) (o := ?o18) ?e18 ?w18 114 ?d18 (by simp) ?h18 ?n18
          case e18 => simp only [List.getElem?_toArray, List.getElem?_cons_succ, List.getElem?_cons_zero]; exact rfl
          case w18 => exact rfl
          case d18 => exact rfl
          case h18 =>
           intro W9 hW9
           go_big_quiet_op
           exact rfl
          refine Walk.step (A := ?A19) (o := ?o19) ?e19 ?w19 123 ?d19 (by simp) ?h19 ?n19
          case e19 => simp only [List.getElem?_toArray, List.getElem?_cons_succ, List.getElem?_cons_zero]; exact rfl
          case w19 => exact rfl
          case d19 => exact rfl
          case h19 =>
           intro W9 hW9
           go_big_quiet_op
           exact rfl
          refine Walk.step (A := ?A110) (o := ?o110) ?e110 ?w110 124 ?d110 (by simp) ?h110 ?n110
          case e110 => simp only [List.getElem?_toArray, List.getElem?_cons_succ, List.getElem?_cons_zero]; exact rfl
          case w110 => exact rfl
          case d110 => exact rfl
          case h110 =>
           intro W9 hW9
           go_big_quiet_op
           exact rfl
          refine Walk.step (A := ?A111) (o := ?o111) ?e111 ?w111 18 ?d111 (by simp) ?h111 ?n111
          case e111 => simp only [List.getElem?_toArray, List.getElem?_cons_succ, List.getElem?_cons_zero]; exact rfl
          case w111 => exact rfl
          case d111 => exact rfl
          case h111 =>
           intro W9 hW9
           go_big_quiet_op
           exact rfl
          refine ⟨?_, ?_⟩
          ·
           intro x hx
           simp only [List.mem_cons, List.not_mem_nil, or_false] at hx
           subst hx
           rfl
          intro G hG hne y1 hb hk
          have k7 := hk _ (List.mem_cons_self ..)
          dsimp only at k7
          simp only [lay, Act.put, List.setIfInBounds_toArray, List.set_cons_succ, List.set_cons_zero, ptr]
          generalize G 11 = gH at k7 ⊢
          have HX6 := Lib.hid (HX5.out.step hb)
          have HHR := Lib.hid k7
          clear hG hne hk hb k7 KT KY CSI z0 HX5
          have e0 := cell_row HHR.out 0 _ rfl
          have e1 := cell_row HHR.out 1 _ rfl
          have e2 := cell_row HHR.out 2 _ rfl
          have e3 := cell_row HHR.out 3 _ rfl
          have g0 := cell_row HX6.out.row 0 (.int .i64 b2t) rfl
          have g1 := cell_row HX6.out.row 1 (.int .i64 b2i) rfl
          have g2 := cell_row HX6.out.row 2 (.int .i64 b2u) rfl
          have g3 := cell_row HX6.out.row 3 (.int .i64 b2v) rfl
          go_wp2_with fail
          refine (better_any ⟨ht, hi_, hu, hv⟩ ⟨b2t, b2i, b2u, b2v⟩ _).mono ?_
          rintro e y2 ⟨rfl, hb⟩
          have HX7 := Lib.hid (HX6.out.step hb)
          have HH7 := Lib.hid (vec_step HHR.out hb)
          clear hb HX6 HHR e0 g0 e1 g1 e2 g2 e3 g3
          clear y1
          cases hbf : betterF ⟨ht, hi_, hu, hv⟩ ⟨b2t, b2i, b2u, b2v⟩ with
          | false =>
           have HF := Lib.hid (HTFX.out.trans (by rw [hbf]; try rfl))
           clear hbf
           go_wp2_with fail
           go_roundg (l.length - (k + 1))
           case measure => exact HMR.out
           case rel => exact ⟨k + 1, ck1, ⟨b2t, b2i, b2u, b2v⟩, HKK.out, rfl, by first | rfl | go_num, Lib.hid ⟨HC2.out, HF.out.symm, HX7.out⟩⟩
          | true =>
           have HF := Lib.hid (HTFX.out.trans (by rw [hbf]; try rfl))
           clear hbf
           have e0 := cell_row HH7.out 0 _ rfl
           have e1 := cell_row HH7.out 1 _ rfl
           have e2 := cell_row HH7.out 2 _ rfl
           have e3 := cell_row HH7.out 3 _ rfl
           go_wp2_with (with_reducible refine store_hit rfl (.tmp 8) (.tmp 131) rfl rfl g8 ht hi_ hu hv rfl rfl _ HX7.out.row rfl ?_)
           go_roundg (l.length - (k + 1))
           case measure => exact HMR.out
           case rel => exact ⟨k + 1, ck1, ⟨ht, hi_, hu, hv⟩, HKK.out, rfl, by first | rfl | go_num, Lib.hid ⟨HC2.out, HF.out.symm, HX7.out.put (b' := ⟨ht, hi_, hu, hv⟩) (Nat.ne_of_lt HGA.out) (Nat.le_of_lt HG8.out)⟩⟩
        ·
         have hkl : k = l.length := by omega
         have d1 : decide ((k : Int) < ((tt - pf : Nat) : Int)) = false := decide_eq_false (by omega)
         have d1b : decide (k < tt - pf) = false := decide_eq_false hk
         have HKL := Lib.hid hkl
         have HIN := Lib.hid hin.out
         clear hkl hk hin hkr htp hft htl hcap HX4 HNX HCU hL32
         go_wp2_with fail
         go_roundg (wt ss)
         case measure => rw [← HWT.out]; exact wt_drop _ ss
         case rel => exact ⟨ss, b2, ck, L, rfl, rfl, rfl, Lib.hid ⟨HLN.out, HLO.out.tail (by rw [HA2.out l pi_ pf ss ⟨bt, bi, bu, bv⟩ c near HBH.out HSK.out, HIN.out.2.1, HIN.out.1, HC1.out, HKL.out, List.take_length]) (by have h1 := HIN.out.1; have h2 := HC1.out; have h3 := HKL.out; show ck ≤ c + 1 + l.length; omega), HIN.out.2.2⟩⟩
      | node l a b =>
       obtain ⟨P1, hP1⟩ : ∃ x, x = pi_ + 1 := ⟨_, rfl⟩
       obtain ⟨P2, hP2⟩ : ∃ x, x = pi_ + 1 + nodesT a := ⟨_, rfl⟩
       have hnd : nd = ⟨boxL m l, pf, pf + l.length, (P1 : Int), (P2 : Int)⟩ := by
        have h1 := HNE.out
        rw [HLP.out.node] at h1
        rw [hP1, hP2]
        exact (Option.some.inj h1).symm
       have x8 := HND.out x2 HNX.out.hb 8 (.int .i64 (P1 : Int)) (by rw [hnd]; rfl)
       have x9 := HND.out x2 HNX.out.hb 9 (.int .i64 (P2 : Int)) (by rw [hnd]; rfl)
       have HPP := Lib.hid (And.intro hP1 hP2)
       clear hP1 hP2 hnd
       have d1 : decide ((0 : Int) ≤ (P1 : Int)) = true := decide_eq_true (by omega)
       have hfk := fit_kids (ia := P1) (fa := pf) (ib := P2) (fb := pf + a.l.length) HLO.out.fit
       rw [← HLN.out] at hfk
       have HFK := Lib.hid hfk
       have hL1 : L1 < 32 := by have h1 := hfk.2; have h2 := HLB.out.1; omega
       obtain ⟨L2, hL2⟩ : ∃ x, x = L + 2 := ⟨_, rfl⟩
       have i3 : IntKind.i64.wrap ((L : Int) + 1) = (L1 : Int) := wrap_more L L1 HLB.out.1 (by have := HLB.out.2; omega)
       have i4 : IntKind.i64.wrap ((L : Int) + 2) = (L2 : Int) := by have := HLB.out.2; rw [wrap_in (by omega) (by omega)]; omega
       have HL2 := Lib.hid hL2
       clear hfk hL2
       have y1 := cell_row HCU.out L _ HPI.out
       have y2 := cell_row HCU.out L1 (cur[L1]'(by rw [HSZ.out]; exact hL1)) (Array.getElem?_eq_getElem _)
       have t1 := frozen_of_row _ _ L _ _ HCU.out
       have t2 := frozen_of_row _ _ L1 _ _ HCU.out
       have n1 : ¬ L1 = L := by have := HLB.out.1; omega
       have n2 : ¬ L = L1 := by have := HLB.out.1; omega
       have n3 : ¬ bn = g10 := by have := HBN.out; have := HG10.out; omega
       have n4 : ¬ g10 = bn := by have := HBN.out; have := HG10.out; omega
       go_upto_region 14 with (fail)
       go_region
       have HX3 := Lib.hid (HNX.out.push (q1 := ⟨a, P1, pf⟩) (q2 := ⟨b, P2, pf + a.l.length⟩) (Nat.ne_of_lt HGA.out) HG10.out HLN.out HLB.out.1 HFK.out.2 rfl rfl)
       obtain ⟨x3, hW⟩ : ∃ ww, ww = ((x2.setCell ⟨g10, L, none⟩ (.int .i64 (P2 : Int))).setCell ⟨g10, L1, none⟩ (.int .i64 (P1 : Int))).drew := ⟨_, rfl⟩
       rw [← hW] at HX3 ⊢
       clear hW x8 x9 d1 y1 y2 t1 t2 n1 n2 n3 n4 hL1 hL32
       go_wp2_with fail
       go_roundg (wt (⟨a, P1, pf⟩ :: ⟨b, P2, pf + a.l.length⟩ :: ss))
       case measure => rw [← HWT.out]; exact wt_kids l a b pi_ pf P1 pf P2 (pf + a.l.length) ss
       case rel => exact ⟨⟨a, P1, pf⟩ :: ⟨b, P2, pf + a.l.length⟩ :: ss, ⟨bt, bi, bu, bv⟩, c1, L2, rfl, rfl, rfl, Lib.hid ⟨by rw [HL2.out, HLN.out]; rfl, ⟨fun q hq => by
         rcases List.mem_cons.1 hq with rfl | hq
         ·
          rw [HPP.out.1]; exact HLP.out.left
         ·
          rcases List.mem_cons.1 hq with rfl | hq
          ·
           rw [HPP.out.2]; exact HLP.out.right
          ·
           exact HLO.out.lies q (List.mem_cons_of_mem _ hq), HFK.out.1, by rw [HC1.out, ← HA3.out l a b pi_ pf ss ⟨bt, bi, bu, bv⟩ c near HBH.out HSK.out]; exact HLO.out.ans, by have h1 := HLO.out.bd; have h2 := cst_kids pi_ pf P1 pf P2 (pf + a.l.length) ss HLP.out.2.2; have h3 := HC1.out; omega⟩, HX3.out⟩⟩
end Go.Proofs.YtdaokkgenfpmhaaGreat.BvhG

/- Nearest where there is nothing to ask. -/
set_option linter.unusedVariables false
set_option linter.unusedSimpArgs false
namespace Go.Proofs.YtdaokkgenfpmhaaGreat.BvhH
open Go Go.RowKit Go.Sort Go.Lib FixM Base Num FixW Qb Qt Qa Qf Qg VecW VecV VecU LightQ LightC MeshM Rec MeshA MeshC MeshD MeshP HitM HitT HitX HitN HitS HitV BvhM BvhA BvhB BvhS BvhC BvhD BvhU BvhW BvhX BvhE BvhF BvhG
theorem al_none (w : World) (g : Nat) (hg : g < w.heap.size) (A B : Obj) : ∀ k v, w.cell? ⟨g, k, none⟩ = some v → ((w.alloc A).alloc B).cell? ⟨g, k, none⟩ = some v := fun k v h => ((alloc2_below w A B).cell (p := ⟨g, k, none⟩) hg).trans h
set_option maxRecDepth 100000 in
set_option maxHeartbeats 16000000 in
theorem near_zero (w : World) (gT : Nat) (hg : gT < w.heap.size) (h0 : w.cell? ⟨gT, 0, none⟩ = some (.bool true)) (a : Option Addr) (cp : Nat) (h4 : w.cell? ⟨gT, 4, none⟩ = some (.slice a 0 cp)) (r : Ry) (least : Int) : Calls Tryz.prog 11 #[.pointer (some ⟨gT, 0, none⟩), rayV r, .int .i64 least] w (NearTo w (htN, 0)) := by
 obtain ⟨⟨oX, oY, oZ⟩, ⟨dX, dY, dZ⟩⟩ := r
 dsimp only [rayV]
 have hB := alloc2_1 w (.cells #[.int .i64 oX, .int .i64 oY, .int .i64 oZ, .int .i64 dX, .int .i64 dY, .int .i64 dZ] 48) (.cells #[.int .i64 0, .int .i64 0, .int .i64 0, .int .i64 0] 42)
 have hB0 := alloc2_below w (.cells #[.int .i64 oX, .int .i64 oY, .int .i64 oZ, .int .i64 dX, .int .i64 dY, .int .i64 dZ] 48) (.cells #[.int .i64 0, .int .i64 0, .int .i64 0, .int .i64 0] 42)
 have k0 := al_none w gT hg (.cells #[.int .i64 oX, .int .i64 oY, .int .i64 oZ, .int .i64 dX, .int .i64 dY, .int .i64 dZ] 48) (.cells #[.int .i64 0, .int .i64 0, .int .i64 0, .int .i64 0] 42) 0 _ h0
 have k4 := al_none w gT hg (.cells #[.int .i64 oX, .int .i64 oY, .int .i64 oZ, .int .i64 dX, .int .i64 dY, .int .i64 dZ] 48) (.cells #[.int .i64 0, .int .i64 0, .int .i64 0, .int .i64 0] 42) 4 _ h4
 obtain ⟨W, hW⟩ : ∃ ww, ww = (w.alloc (.cells #[.int .i64 oX, .int .i64 oY, .int .i64 oZ, .int .i64 dX, .int .i64 dY, .int .i64 dZ] 48)).alloc (.cells #[.int .i64 0, .int .i64 0, .int .i64 0, .int .i64 0] 42) := ⟨_, rfl⟩
 rw [← hW] at hB hB0 k0 k4
 have HZ0 := Lib.hid hB
 have HB0 := Lib.hid hB0
 have HWW := Lib.hid hW
 clear hB hB0 hW
 go_enter Tryz.func11, Tryz.ntmps11
 go_upto_region 1 with (fail)
 rw [← HWW.out]
 clear HWW
 go_upto_region 2 with (with_reducible refine store_hit rfl (.tmp 8) (.tmp 19) rfl rfl W.heap.size 0 (-1) 0 0 rfl rfl _ (heap_alloc_new _ _) rfl ?_)
 have hx : Below W.heap.size W ((W.alloc (.cells #[.int .i64 0, .int .i64 0, .int .i64 0, .int .i64 0] 42)).setRow W.heap.size #[.int .i64 0, .int .i64 (-1), .int .i64 0, .int .i64 0]) := below_setRow (ext_alloc W (.cells #[.int .i64 0, .int .i64 0, .int .i64 0, .int .i64 0] 42)) (Nat.le_refl _) _
 have hn : ((W.alloc (.cells #[.int .i64 0, .int .i64 0, .int .i64 0, .int .i64 0] 42)).setRow W.heap.size #[.int .i64 0, .int .i64 (-1), .int .i64 0, .int .i64 0]).heap[W.heap.size]? = some (.cells #[.int .i64 0, .int .i64 (-1), .int .i64 0, .int .i64 0] 42) := setRow_heap _ _ _ _ _ _ (heap_alloc_new _ _)
 have q0 := (hx.cell (p := ⟨gT, 0, none⟩) (Nat.lt_of_lt_of_le hg HB0.out.size)).trans k0
 have q4 := (hx.cell (p := ⟨gT, 4, none⟩) (Nat.lt_of_lt_of_le hg HB0.out.size)).trans k4
 obtain ⟨W2, hW⟩ : ∃ ww, ww = (W.alloc (.cells #[.int .i64 0, .int .i64 0, .int .i64 0, .int .i64 0] 42)).setRow W.heap.size #[.int .i64 0, .int .i64 (-1), .int .i64 0, .int .i64 0] := ⟨_, rfl⟩
 rw [← hW] at hx hn q0 q4 ⊢
 have HZ1 := Lib.hid (vec_step HZ0.out hx)
 have HB1 := Lib.hid (HB0.out.trans (hx.mono HB0.out.size))
 clear hW hx HZ0 HB0
 generalize W.heap.size = g8 at hn ⊢
 have e0 := cell_row hn 0 _ rfl
 have e1 := cell_row hn 1 _ rfl
 have e2 := cell_row hn 2 _ rfl
 have e3 := cell_row hn 3 _ rfl
 clear hn k0 k4
 go_wp2_with (with_reducible refine store_hit rfl (.tmp 6) (.tmp 37) rfl rfl (w.heap.size + 1) 0 (-1) 0 0 rfl rfl _ HZ1.out rfl ?_)
 refine bodyPost_ret (results_row_tmp rfl _ _ _ (w.heap.size + 1) 42 _ _ _ rfl (setRow_heap _ _ _ _ _ _ HZ1.out) Tryz.underlying42 hit_size) rfl ?_
 exact ⟨rfl, below_setRow HB1.out (Nat.le_succ _) _⟩
theorem near_any (w : World) (gT : Nat) (m : Msh) (h : TreeAt w gT m) (ok : m.ok) (hl : cntM m ≤ 4096) (r : Ry) (hr : r.ok) (least : Int) : Calls Tryz.prog 11 #[.pointer (some ⟨gT, 0, none⟩), rayV r, .int .i64 least] w (NearTo w (nearestF m r least)) := by
 by_cases hc : cntM m = 0
 ·
  rw [ans_none m r least hc]
  obtain ⟨v0, v1, v2, vn, vo, ht0, -, hns, -⟩ := h.is_
  have e : flatM m = [] := by unfold flatM; rw [if_pos hc]
  rw [e] at hns
  obtain ⟨a, cp, rfl, -⟩ := hns.open_
  exact near_zero w gT (Base.lt_of_heap ht0) (cell_row ht0 0 _ rfl) a cp (cell_row ht0 4 _ rfl) r least
 ·
  exact near_some w gT m h ok hc hl r hr least
end Go.Proofs.YtdaokkgenfpmhaaGreat.BvhH

/- Rows of balls, and how great their trees are. Plain. -/
set_option linter.unusedVariables false
set_option linter.unusedSimpArgs false
namespace Go.Proofs.YtdaokkgenfpmhaaGreat.BvhJ
open Go FixM VecW VecV VecU MeshM MeshP HitM HitN HitV HitP HitO HitU BvhM BvhS BvhE BvhF
/-! a tree's size hangs on how many shapes there are alone -/
def stL : Nat → Nat → Nat
 | 0, k => k
 | n + 1, k => if k ≤ 2 then k else k + stL n (k / 2) + stL n (k - k / 2)
def ndL : Nat → Nat → Nat
 | 0, _ => 1
 | n + 1, k => if k ≤ 2 then 1 else 1 + ndL n (k / 2) + ndL n (k - k / 2)
def dpL : Nat → Nat → Nat
 | 0, _ => 1
 | n + 1, k => if k ≤ 2 then 1 else 1 + max (dpL n (k / 2)) (dpL n (k - k / 2))
theorem size_len (m : Msh) : ∀ n l, stepsT (treeF m n l) = stL n l.length ∧ nodesT (treeF m n l) = ndL n l.length ∧ deepT (treeF m n l) = dpL n l.length := by
 intro n
 induction n with
 | zero => intro l; exact ⟨rfl, rfl, rfl⟩
 | succ n ih =>
  intro l
  unfold treeF stL ndL dpL
  by_cases h : l.length ≤ 2
  ·
   rw [if_pos h, if_pos h, if_pos h, if_pos h]; exact ⟨rfl, rfl, rfl⟩
  ·
   rw [if_neg h, if_neg h, if_neg h, if_neg h]
   have hs := sort_length m (axisF (boxL m l)) l
   have a := ih ((sortF m (axisF (boxL m l)) l).take (l.length / 2))
   have b := ih ((sortF m (axisF (boxL m l)) l).drop (l.length / 2))
   have e1 : ((sortF m (axisF (boxL m l)) l).take (l.length / 2)).length = l.length / 2 := by rw [List.length_take, hs]; omega
   have e2 : ((sortF m (axisF (boxL m l)) l).drop (l.length / 2)).length = l.length - l.length / 2 := by rw [List.length_drop, hs]
   rw [e1] at a
   rw [e2] at b
   refine ⟨?_, ?_, ?_⟩
   ·
    show l.length + stepsT _ + stepsT _ = _; rw [a.1, b.1]
   ·
    show 1 + nodesT _ + nodesT _ = _; rw [a.2.1, b.2.1]
   ·
    show 1 + max (deepT _) (deepT _) = _; rw [a.2.2, b.2.2]
theorem whole_size (m : Msh) : stepsT (wholeT m) = stL (cntM m) (cntM m) ∧ nodesT (wholeT m) = ndL (cntM m) (cntM m) ∧ deepT (wholeT m) = dpL (cntM m) (cntM m) := by
 have := size_len m (cntM m) (allL m)
 have e : (allL m).length = cntM m := by unfold allL; rw [List.length_range]; rfl
 rw [e] at this
 exact this
theorem steps_is (m : Msh) : stepsM m = if cntM m = 0 then 0 else stL (cntM m) (cntM m) := by unfold stepsM; rw [(whole_size m).1]
theorem deep_is (m : Msh) : deepM m = if cntM m = 0 then 0 else dpL (cntM m) (cntM m) := by unfold deepM; rw [(whole_size m).2.2]
theorem nodes_is (m : Msh) : (flatM m).length = if cntM m = 0 then 0 else ndL (cntM m) (cntM m) := by
 unfold flatM
 by_cases h : cntM m = 0
 ·
  rw [if_pos h, if_pos h]; rfl
 ·
  rw [if_neg h, if_neg h, flat_length, (whole_size m).2.1]
/-! a row of balls -/
def rowB (i : Nat) : B4 := ⟨⟨(i : Int) * 42949672960, 0, 0⟩, 4294967296⟩
def rowM (n : Nat) : Msh := ⟨[], [], (List.range n).map rowB⟩
theorem row_len (n : Nat) : (rowM n).bs.length = n := by simp [rowM]
theorem row_cnt (n : Nat) : cntM (rowM n) = n := by unfold cntM; rw [row_len]; simp [rowM]
theorem row_next (n : Nat) : (List.range (n + 1)).map rowB = (List.range n).map rowB ++ [rowB n] := by rw [List.range_succ, List.map_append]; rfl
theorem row_ball (n : Nat) (hn : n ≤ 4096) (i : Nat) (hi : i < n) : ballF (rowB i) = true := by
 unfold ballF rowB nearV nearI
 simp only [Bool.and_eq_true, decide_eq_true_eq]
 refine ⟨⟨⟨⟨⟨?_, ?_⟩, ?_, ?_⟩, ?_, ?_⟩, ?_⟩, ?_⟩ <;> omega
theorem row_check (n : Nat) (hn : n ≤ 4096) : checkF (rowM n) = 0 := by
 unfold checkF
 have h1 : ¬ tooF (rowM n) := by unfold tooF; rw [row_len]; simp [rowM]; omega
 rw [if_neg h1]
 have h2 : rightF (rowM n) = true := by
  unfold rightF rowM
  simp only [List.all_nil, Bool.true_and, List.all_eq_true]
  intro b hb
  obtain ⟨i, hi, rfl⟩ := List.mem_map.1 hb
  exact row_ball n hn i (by simpa using hi)
 rw [if_pos h2]
theorem row_ok (n : Nat) (hn : n ≤ 4096) : (rowM n).ok := by
 refine ⟨by simp [rowM], by simp [rowM], fun b hb => ?_⟩
 obtain ⟨i, hi, rfl⟩ := List.mem_map.1 hb
 have : i < n := by simpa using hi
 unfold rowB V3.ok In
 dsimp only
 omega
def downR (x : Int) : Ry := ⟨⟨x * 4294967296, 0, -21474836480⟩, ⟨0, 0, 4294967296⟩⟩
theorem ask_none (m : Msh) (r : Ry) (least : Int) (T : Tr) (h : Ht) (hs : boxH r (boxL m T.l) = none) : askT m r least T h = (h, 1) := by
 cases T with
 | leaf l =>
  have e' : boxH r (boxL m l) = none := hs
  unfold askT; rw [e']
 | node l a b =>
  have e' : boxH r (boxL m l) = none := hs
  unfold askT; rw [e']
theorem near_miss (m : Msh) (r : Ry) (least : Int) (hc : cntM m ≠ 0) (hs : boxH r (boxL m (allL m)) = none) : nearestF m r least = (htN, 1) := by
 have h' : ¬ m.ts.length + m.bs.length = 0 := hc
 unfold nearestF
 rw [if_neg h']
 exact ask_none m r least _ _ (by rw [whole_l]; exact hs)
theorem awake_miss : boxH (downR (-50)) (boxL (rowM 3) (allL (rowM 3))) = none := by decide +kernel
theorem awake_steps : stepsM (rowM 3) = 6 := by rw [steps_is, row_cnt]; rfl
theorem awake_deep : deepM (rowM 3) = 2 := by rw [deep_is, row_cnt]; rfl
theorem awake_nodes : (flatM (rowM 3)).length = 3 := by rw [nodes_is, row_cnt]; rfl
theorem awake_near : nearestF (rowM 3) (downR (-50)) 0 = (htN, 1) := near_miss _ _ _ (by rw [row_cnt]; decide) awake_miss
def noneM : Msh := ⟨[], [], []⟩
theorem none_check : checkF noneM = 0 := by decide
theorem none_steps : stepsM noneM = 0 := rfl
end Go.Proofs.YtdaokkgenfpmhaaGreat.BvhJ

/- Points, triangles, balls and boxes by value. -/
set_option linter.unusedVariables false
set_option linter.unusedSimpArgs false
namespace Go.Proofs.YtdaokkgenfpmhaaGreat.MeshEq
open Go.RowKit FixM Base Num VecW VecV MeshM Rec MeshA MeshP

theorem agg_i64 (w : World) : (isAgg 2).run Tryz.prog w = .ok false w := by
 unfold isAgg
 rw [Sem.run_bind, run_underlying Tryz.underlying2 w]
 rfl
end Go.Proofs.YtdaokkgenfpmhaaGreat.MeshEq

/- Hits by value. -/
set_option linter.unusedVariables false
set_option linter.unusedSimpArgs false
namespace Go.Proofs.YtdaokkgenfpmhaaGreat.HitEq
open Go.RowKit FixM Base Num VecW VecV MeshM Rec MeshA MeshP MeshEq HitM
theorem agg_int (w : World) : (isAgg 3).run Tryz.prog w = .ok false w := by
 unfold isAgg
 rw [Sem.run_bind, run_underlying Tryz.underlying3 w]
 rfl
theorem eq_hit (t i u v t' i' u' v' : Int) (w : World) : (Op.equalIn 10000 42 (.agg #[.int .i64 t, .int .i64 i, .int .i64 u, .int .i64 v]) (.agg #[.int .i64 t', .int .i64 i', .int .i64 u', .int .i64 v'])).run Tryz.prog w = .ok (t == t' && i == i' && u == u' && v == v') w := by
 rw [run_equalIn_agg w 9999 _ _ _ (by kernel_rfl) (by kernel_rfl)]
 simp only [Program.fieldsOf, Tryz.underlying42]
 simp only [Op.eqFields, Sem.run_bind, part, agg_int, agg_i64, Result.andThen_ok, Bool.false_eq_true, if_false, if_true]
 simp [Sem.run_bind, run_equalIn_int w _ 2 .i64 .i64 _ _ Tryz.underlying2, run_equalIn_int w _ 3 .i64 .i64 _ _ Tryz.underlying3]
 by_cases e1 : t = t' <;> by_cases e2 : i = i' <;> by_cases e3 : u = u' <;> by_cases e4 : v = v' <;> simp [*]
end Go.Proofs.YtdaokkgenfpmhaaGreat.HitEq

/- The walks of SmallMesh, row, down and awake. -/
set_option linter.unusedVariables false
set_option linter.unusedSimpArgs false
namespace Go.Proofs.YtdaokkgenfpmhaaGreat.BvhI
open Go Go.RowKit Go.Sort Go.Lib FixM Base Num FixW Qb Qt Qa Qf Qg VecW VecV VecU LightQ LightC MeshM Rec MeshA MeshC MeshD MeshP HitM HitT HitX HitN HitS HitV BvhM BvhA BvhB BvhS BvhC BvhD BvhU BvhW BvhX BvhE BvhF BvhG BvhH BvhJ
/-- the row under way -/
structure Rw (w wr : World) (g2 g3 NB : Nat) (vb : Value) (l : List B4) : Prop where
 r2 : wr.heap[g2]? = some (.cells #[.slice none 0 0, .slice none 0 0, .slice none 0 0] 31)
 r3 : wr.heap[g3]? = some (.cells #[.slice none 0 0, .slice none 0 0, vb] 31)
 ob : RecsOwn 4 enc4 51 NB wr vb l
 hb : Below w.heap.size w wr
 low : w.heap.size ≤ g2 ∧ w.heap.size ≤ g3 ∧ g2 < NB ∧ g3 < NB ∧ g2 ≠ g3 ∧ NB ≤ wr.heap.size
theorem Rw.below {w wr w' : World} {g2 g3 NB : Nat} {vb : Value} {l : List B4} (h : Rw w wr g2 g3 NB vb l) (hb : Below wr.heap.size wr w') : Rw w w' g2 g3 NB vb l :=
 ⟨vec_step h.r2 hb, vec_step h.r3 hb, h.ob.below hb (Nat.le_refl _), h.hb.trans (hb.mono h.hb.size), ⟨h.low.1, h.low.2.1, h.low.2.2.1, h.low.2.2.2.1, h.low.2.2.2.2.1, Nat.le_trans h.low.2.2.2.2.2 hb.size⟩⟩
theorem Rw.app {w wr w1 : World} {g2 g3 NB : Nat} {vb v' : Value} {l l' : List B4} (h : Rw w wr g2 g3 NB vb l) (hg : wr.grownBy w1 vb.ownBlock) (ho : RecsOwn 4 enc4 51 NB w1 v' l') : Rw w (w1.setCell ⟨g3, 2, none⟩ v') g2 g3 NB v' l' := by
 have hk : Keeps (fun k => vb.ownBlock = some k) wr w1 := (Keeps.refl _ wr).grown hg (fun k e => .inl e)
 have hk2 := (Keeps.refl (fun k => k = g3) w1).setCell g3 2 v' (.inl rfl)
 obtain ⟨l1, l2, l3, l4, l5, l6⟩ := h.low
 refine ⟨keep_cell hk2 (keep_cell hk h.r2 (fun e => by have := (h.ob.lt _ e).1; omega)) l5, ?_, ho.frame hk2 (fun b e1 e2 => by have := (ho.lt b e1).1; omega), (h.hb.trans (hk.below w.heap.size h.hb.size (fun k e => by have := (h.ob.lt k e).1; omega))).trans (hk2.below w.heap.size (Nat.le_trans h.hb.size hk.size) (fun k e => by omega)), ⟨l1, l2, l3, l4, l5, Nat.le_trans l6 (Nat.le_trans hk.size hk2.size)⟩⟩
 rw [heap_setCell_same _ _ _ _ _ _ (keep_cell hk h.r3 (fun e => by have := (h.ob.lt _ e).1; omega))]; rfl
def RowTo (w : World) (n : Nat) (e : Ending) (w' : World) : Prop := ∃ a c, e = .returned (.agg #[.slice none 0 0, .slice none 0 0, .slice a n c]) ∧ IsMesh w' (.agg #[.slice none 0 0, .slice none 0 0, .slice a n c]) (rowM n) ∧ Below w.heap.size w w'
theorem mesh_size : (Tryz.prog.info? 31).map (·.size) = some 3 := by kernel_rfl
theorem store_mesh {ops : Array Oper} {rest : List Oper} {o : Oper} {a : Act} {w : World} {Q : Exit → Act → World → Prop} (hgd : o.guard = none) (x y : Operand) (ho : o.op = .store 31 x y) (hd : o.dst = none)
  (g : Nat) (v0 v1 v2 : Value) (hx : a.eval x = .pointer (some ⟨g, 0, none⟩)) (hy : a.eval y = .agg #[v0, v1, v2]) (cur : Array Value) (hg : w.heap[g]? = some (.cells cur 31)) (hc : cur.size = 3)
  (h1 : v0.oneCell' = true ∧ v1.oneCell' = true ∧ v2.oneCell' = true)
  (h : wpList Tryz.prog ops Q rest a (w.setRow g #[v0, v1, v2])) : wpList Tryz.prog ops Q (o :: rest) a w :=
 wpList_store_arr hgd 31 x y ho g _ hx hy 31 cur hg mesh_size (by rw [hc]; rfl) (by intro v hv; simp at hv; rcases hv with rfl | rfl | rfl; exact h1.1; exact h1.2.1; exact h1.2.2) hd h
set_option maxRecDepth 100000 in
set_option maxHeartbeats 16000000 in
theorem row_any (w : World) (n : Nat) (hn : n ≤ 4096) : Calls Tryz.prog 6 #[.int .i64 (n : Int)] w (RowTo w n) := by
 have hA := alloc2_0 w (.cells #[.slice none 0 0, .slice none 0 0, .slice none 0 0] 31) (.cells #[.slice none 0 0, .slice none 0 0, .slice none 0 0] 31)
 have hB := alloc2_1 w (.cells #[.slice none 0 0, .slice none 0 0, .slice none 0 0] 31) (.cells #[.slice none 0 0, .slice none 0 0, .slice none 0 0] 31)
 have hB0 := alloc2_below w (.cells #[.slice none 0 0, .slice none 0 0, .slice none 0 0] 31) (.cells #[.slice none 0 0, .slice none 0 0, .slice none 0 0] 31)
 have HR0 := Lib.hid (show Rw w ((w.alloc (.cells #[.slice none 0 0, .slice none 0 0, .slice none 0 0] 31)).alloc (.cells #[.slice none 0 0, .slice none 0 0, .slice none 0 0] 31)) w.heap.size (w.heap.size + 1) (w.heap.size + 2) (.slice none 0 0) ((List.range 0).map rowB) from ⟨hA, hB, RecsOwn.nil _ _ _, hB0, ⟨Nat.le_refl _, Nat.le_succ _, by omega, by omega, by omega, by simp⟩⟩)
 clear hA hB hB0
 have HN := Lib.hid hn
 clear hn
 go_enter Tryz.func6, Tryz.ntmps6
 go_upto_region 2 with (fail)
 obtain ⟨W, hW⟩ : ∃ ww, ww = (w.alloc (.cells #[.slice none 0 0, .slice none 0 0, .slice none 0 0] 31)).alloc (.cells #[.slice none 0 0, .slice none 0 0, .slice none 0 0] 31) := ⟨_, rfl⟩
 rw [← hW] at HR0 ⊢
 clear hW
 go_wp2_with fail
 go_loopg [4] n (fun r n4 wr => ∃ (k : Nat) (vb : Value), k + r = n ∧ n4 = .int .i64 (k : Int) ∧ Hid (Rw w wr w.heap.size (w.heap.size + 1) (w.heap.size + 2) vb ((List.range k).map rowB)))
 case atStart => exact ⟨0, _, by omega, rfl, HR0⟩
 case round =>
  obtain ⟨k, vb, hkr, rfl, hin⟩ := hrel
  obtain ⟨a1, c1, hv⟩ := hin.out.ob.slice_
  have hlen : ((List.range k).map rowB).length = k := by simp
  rw [hlen] at hv
  subst hv
  clear hlen
  by_cases hk : k < n
  ·
   have d1 : decide ((k : Int) < (n : Int)) = true := decide_eq_true (by omega)
   have d2 : decide (k < n) = true := decide_eq_true hk
   have HKN := Lib.hid (show k < 4096 by have := HN.out; omega)
   have HMS := Lib.hid (show n - (k + 1) < gk by omega)
   have HKR := Lib.hid (show k + 1 + (n - (k + 1)) = n by omega)
   have HIN := hin
   clear hin hk hkr
   obtain ⟨K, hK⟩ : ∃ x, x = k * 10 := ⟨_, rfl⟩
   have i1 : IntKind.i64.wrap ((k : Int) * 10) = (K : Int) := by have := HKN.out; rw [wrap_in (by omega) (by omega)]; omega
   obtain ⟨X, hX⟩ : ∃ x : Int, x = (k : Int) * 42949672960 := ⟨_, rfl⟩
   have i2 : IntKind.i64.wrap ((K : Int) * 4294967296) = X := by have := HKN.out; rw [wrap_in (by omega) (by omega)]; omega
   have HRB := Lib.hid (show rowB k = ⟨⟨X, 0, 0⟩, 4294967296⟩ by rw [hX]; rfl)
   have i9 : IntKind.i64.wrap ((k : Int) + 1) = ((k + 1 : Nat) : Int) := by have := HKN.out; rw [wrap_in (by omega) (by omega)]; omega
   have HKX := Lib.hid (And.intro hK hX)
   clear hK hX
   have z0 := cell_row HIN.out.r3 2 _ rfl
   have R1 := Lib.hid (recs_one (enc := enc4) len4 51 wr (⟨⟨X, 0, 0⟩, 4294967296⟩ : B4) #[.int .i64 X, .int .i64 0, .int .i64 0, .int .i64 4294967296] rfl)
   have HX1 := Lib.hid (HIN.out.below (ext_alloc wr (.cells #[.int .i64 X, .int .i64 0, .int .i64 0, .int .i64 4294967296] 51)))
   have LE1 := Lib.hid (show (((List.range k).map rowB).length + [(⟨⟨X, 0, 0⟩, 4294967296⟩ : B4)].length) * 32 ≤ 140737488355328 by have := HKN.out; simp; omega)
   have LE2 := Lib.hid (show ((List.range k).map rowB).length + [(⟨⟨X, 0, 0⟩, 4294967296⟩ : B4)].length ≤ 140737488355328 by have := HKN.out; simp; omega)
   go_upto_region 4 with (at_builtin; refine wpList_append_recs rfl (.tmp 11) (.tmp 17) 29 51 rfl (.agg #[.int .i64 0, .int .i64 0, .int .i64 0, .int .i64 0]) 32 (w.heap.size + 2) balls_slice (.slice a1 k c1) ((List.range k).map rowB) rfl HX1.out.ob _ [(⟨⟨X, 0, 0⟩, 4294967296⟩ : B4)] rfl R1.out LE1.out LE2.out HX1.out.low.2.2.2.2.2 ?_; intro v7 w7 hown7 hgr7 _; have HX7 := Lib.hid (HX1.out.app hgr7 hown7); have hr7 := (Keeps.refl (fun k9 => (Value.slice a1 k c1).ownBlock = some k9) _).grown hgr7 (fun k9 e => .inl e); have HT7 := Lib.hid (keep_cell hr7 HX1.out.r3 (fun e => by have := (HX1.out.ob.lt _ e).1; have := HX1.out.low; omega)); obtain ⟨a7, c7, hv7⟩ := hown7.slice_; generalize (_ ++ _ : List _).length = n7 at hv7; subst hv7; have r9 := cell_row HT7.out 2 _ rfl; have t9 := frozen_of_row _ _ 2 _ _ HT7.out; clear hown7 hgr7 hr7)
   obtain ⟨W7, hW⟩ : ∃ ww, ww = w7.setCell ⟨w.heap.size + 1, 2, none⟩ (.slice a7 n7 c7) := ⟨_, rfl⟩
   rw [← hW] at HX7 ⊢
   clear hW r9 t9 HT7 R1 HX1 z0
   go_wp2_with fail
   go_roundg (n - (k + 1))
   case measure => exact HMS.out
   case rel => exact ⟨k + 1, _, HKR.out, by first | rfl | go_num, Lib.hid (by rw [row_next, HRB.out]; exact HX7.out)⟩
  ·
   have hkn : k = n := by omega
   subst hkn
   have d1 : decide ((k : Int) < (k : Int)) = false := decide_eq_false (by omega)
   have d2 : decide (k < k) = false := decide_eq_false (by omega)
   have HIN := hin
   have z0 := cell_row HIN.out.r3 0 _ rfl
   have z1 := cell_row HIN.out.r3 1 _ rfl
   have z2 := cell_row HIN.out.r3 2 _ rfl
   go_wp2_with (with_reducible refine store_mesh rfl (.tmp 2) (.tmp 20) rfl rfl w.heap.size (.slice none 0 0) (.slice none 0 0) (.slice a1 k c1) rfl rfl _ HIN.out.r2 rfl ⟨rfl, rfl, rfl⟩ ?_)
   refine bodyPost_ret (results_cell_row rfl _ _ w.heap.size 31 _ _ _ rfl (setRow_heap _ _ _ _ _ _ HIN.out.r2) Tryz.underlying31 rfl mesh_size) rfl ?_
   have hk2 := (Keeps.refl (fun k9 => k9 = w.heap.size) wr).setRow w.heap.size #[.slice none 0 0, .slice none 0 0, .slice a1 k c1] (.inl rfl)
   refine ⟨a1, c1, rfl, ⟨⟨_, _, _, rfl, Recs.nil _, Recs.nil _, ?_⟩⟩, below_setRow HIN.out.hb (Nat.le_refl _) _⟩
   exact (HIN.out.ob.recs len4).frame hk2 (fun b e1 e2 => by have := (HIN.out.ob.lt b e1).1; omega)
theorem ray_size : (Tryz.prog.info? 48).map (·.size) = some 6 := by kernel_rfl
theorem store_ray {ops : Array Oper} {rest : List Oper} {o : Oper} {a : Act} {w : World} {Q : Exit → Act → World → Prop} (hgd : o.guard = none) (x y : Operand) (ho : o.op = .store 48 x y) (hd : o.dst = none)
  (g : Nat) (A B C D E F : Int) (hx : a.eval x = .pointer (some ⟨g, 0, none⟩)) (hy : a.eval y = .agg #[.int .i64 A, .int .i64 B, .int .i64 C, .int .i64 D, .int .i64 E, .int .i64 F]) (cur : Array Value) (hg : w.heap[g]? = some (.cells cur 48)) (hc2 : cur.size = 6)
  (h : wpList Tryz.prog ops Q rest a (w.setRow g #[.int .i64 A, .int .i64 B, .int .i64 C, .int .i64 D, .int .i64 E, .int .i64 F])) : wpList Tryz.prog ops Q (o :: rest) a w :=
 wpList_store_arr hgd 48 x y ho g _ hx hy 48 cur hg ray_size (by rw [hc2]; rfl) (ones6 _ _ _ _ _ _) hd h
set_option maxRecDepth 100000 in
set_option maxHeartbeats 16000000 in
theorem down_any (w : World) (x : Int) (hx : -1000000 ≤ x ∧ x ≤ 1000000) : Calls Tryz.prog 12 #[.int .i64 x] w (VTo (rayV (downR x)) w) := by
 have HN := heap_alloc_new w (.cells #[.int .i64 0, .int .i64 0, .int .i64 0, .int .i64 0, .int .i64 0, .int .i64 0] 48)
 have HB := Lib.hid (ext_alloc w (.cells #[.int .i64 0, .int .i64 0, .int .i64 0, .int .i64 0, .int .i64 0, .int .i64 0] 48))
 obtain ⟨X, hX⟩ : ∃ z : Int, z = x * 4294967296 := ⟨_, rfl⟩
 have i1 : IntKind.i64.wrap (x * 4294967296) = X := by rw [wrap_in (by omega) (by omega)]; omega
 have HR := Lib.hid (show rayV (downR x) = .agg #[.int .i64 X, .int .i64 0, .int .i64 (-21474836480), .int .i64 0, .int .i64 0, .int .i64 4294967296] by rw [hX]; rfl)
 clear hX hx
 go_enter Tryz.func12, Tryz.ntmps12
 go_wp2_with (with_reducible refine store_ray rfl (.tmp 2) (.tmp 7) rfl rfl w.heap.size X 0 (-21474836480) 0 0 4294967296 rfl rfl _ HN rfl ?_)
 refine bodyPost_ret (results_cell_row rfl _ _ w.heap.size 48 _ _ _ rfl (setRow_heap _ _ _ _ _ _ HN) Tryz.underlying48 rfl ray_size) rfl ?_
 exact ⟨by rw [HR.out], below_setRow HB.out (Nat.le_refl _) _⟩
def AwTo (w : World) : Ending → World → Prop := fun e w' => e = .returned (.bool true) ∧ Below w.heap.size w w'
theorem _root_.Go.Proofs.YtdaokkgenfpmhaaGreat.BvhE.TreeAt.below {w w' : World} {g : Nat} {m : Msh} (h : TreeAt w g m) (hb : Below w.heap.size w w') : TreeAt w' g m := by
 obtain ⟨v0, v1, v2, vn, vo, h1, h2, h3, h4⟩ := h.is_
 exact ⟨v0, v1, v2, vn, vo, vec_step h1 hb, h2.below hb, h3.below hb (Nat.le_refl _), h4.below hb (Nat.le_refl _)⟩
theorem tree_nodes {w : World} {g : Nat} {m : Msh} (h : TreeAt w g m) : Calls Tryz.prog 9 #[.pointer (some ⟨g, 0, none⟩)] w (fun e w' => e = .returned (.int .i64 ((flatM m).length : Int)) ∧ w = w') := by
 obtain ⟨v0, v1, v2, vn, vo, h1, h2, h3, h4⟩ := h.is_
 obtain ⟨a, cp, rfl, -⟩ := h3.open_
 exact nodes_tree g w a _ cp (cell_row h1 0 _ rfl) (cell_row h1 4 _ rfl)
theorem tree_deep {w : World} {g : Nat} {m : Msh} (h : TreeAt w g m) : Calls Tryz.prog 10 #[.pointer (some ⟨g, 0, none⟩)] w (fun e w' => e = .returned (.int .i64 (deepM m : Int)) ∧ w = w') := by
 obtain ⟨v0, v1, v2, vn, vo, h1, h2, h3, h4⟩ := h.is_
 exact deep_tree g w _ (cell_row h1 0 _ rfl) (cell_row h1 6 _ rfl)
theorem build_made {v : Value} {m : Msh} {w : World} (hm : IsMesh w v m) (ok : m.ok) (hc : checkF m = 0) (steps : Int) (hs : ¬ steps < (stepsM m : Int)) : Calls Tryz.prog 5 #[v, .int .i64 steps] w (fun e w' => ∃ g, e = .returned (.tuple #[.pointer (some ⟨g, 0, none⟩), .int .i64 (stepsM m : Int), .int .i64 0]) ∧ TreeAt w' g m ∧ Below w.heap.size w w') := by
 refine (build_any v m w hm ok steps).mono ?_
 rintro e w' ⟨hb, h⟩
 rw [if_neg (fun h => h hc), if_neg hs] at h
 obtain ⟨g, h1, h2, -⟩ := h
 exact ⟨g, h1, h2.at, hb⟩
theorem build_short {v : Value} {m : Msh} {w : World} (hm : IsMesh w v m) (ok : m.ok) (hc : checkF m = 0) (steps : Int) (hs : steps < (stepsM m : Int)) : Calls Tryz.prog 5 #[v, .int .i64 steps] w (VTo (.tuple #[.pointer none, .int .i64 0, .int .i64 15]) w) := by
 refine (build_any v m w hm ok steps).mono ?_
 rintro e w' ⟨hb, h⟩
 rw [if_neg (fun h => h hc), if_pos hs] at h
 exact ⟨h, hb⟩
theorem build_wrong {v : Value} {m : Msh} {w : World} (hm : IsMesh w v m) (ok : m.ok) (hc : checkF m ≠ 0) (steps : Int) : Calls Tryz.prog 5 #[v, .int .i64 steps] w (VTo (.tuple #[.pointer none, .int .i64 0, .int .i64 (checkF m)]) w) := by
 refine (build_any v m w hm ok steps).mono ?_
 rintro e w' ⟨hb, h⟩
 rw [if_pos hc] at h
 exact ⟨h, hb⟩
theorem row3 (w : World) : Calls Tryz.prog 6 #[.int .i64 3] w (RowTo w 3) := row_any w 3 (by decide)
theorem made3 {v : Value} {w : World} (hm : IsMesh w v (rowM 3)) : Calls Tryz.prog 5 #[v, .int .i64 6] w (fun e w' => ∃ g, e = .returned (.tuple #[.pointer (some ⟨g, 0, none⟩), .int .i64 6, .int .i64 0]) ∧ TreeAt w' g (rowM 3) ∧ Below w.heap.size w w') := by
 have h := build_made hm (row_ok 3 (by decide)) (row_check 3 (by decide)) 6 (by rw [awake_steps]; decide)
 rw [awake_steps] at h
 exact h
theorem short3 {v : Value} {w : World} (hm : IsMesh w v (rowM 3)) : Calls Tryz.prog 5 #[v, .int .i64 5] w (VTo (.tuple #[.pointer none, .int .i64 0, .int .i64 15]) w) := build_short hm (row_ok 3 (by decide)) (row_check 3 (by decide)) 5 (by rw [awake_steps]; decide)
theorem none_ok : noneM.ok := ⟨by simp [noneM], by simp [noneM], by simp [noneM]⟩
theorem none_mesh (w : World) : IsMesh w (.agg #[.slice none 0 0, .slice none 0 0, .slice none 0 0]) noneM := ⟨⟨_, _, _, rfl, Recs.nil _, Recs.nil _, Recs.nil _⟩⟩
theorem made0 (w : World) : Calls Tryz.prog 5 #[.agg #[.slice none 0 0, .slice none 0 0, .slice none 0 0], .int .i64 0] w (fun e w' => ∃ g, e = .returned (.tuple #[.pointer (some ⟨g, 0, none⟩), .int .i64 0, .int .i64 0]) ∧ TreeAt w' g noneM ∧ Below w.heap.size w w') := build_made (none_mesh w) none_ok none_check 0 (by rw [none_steps]; decide)
theorem down50 (w : World) : Calls Tryz.prog 12 #[.int .i64 (-50)] w (VTo (rayV (downR (-50))) w) := down_any w (-50) (by decide)
theorem down50_ok : (downR (-50)).ok := by unfold Ry.ok downR V3.ok In; decide
theorem near3 {w : World} {g : Nat} (h : TreeAt w g (rowM 3)) : Calls Tryz.prog 11 #[.pointer (some ⟨g, 0, none⟩), rayV (downR (-50)), .int .i64 0] w (VTo (.tuple #[.agg #[.int .i64 0, .int .i64 (-1), .int .i64 0, .int .i64 0], .int .i64 1]) w) := by
 have h := near_any w g (rowM 3) h (row_ok 3 (by decide)) (by rw [row_cnt]; decide) (downR (-50)) down50_ok 0
 rw [awake_near] at h
 exact h
theorem nodes3 {w : World} {g : Nat} (h : TreeAt w g (rowM 3)) : Calls Tryz.prog 9 #[.pointer (some ⟨g, 0, none⟩)] w (fun e w' => e = .returned (.int .i64 3) ∧ w = w') := by
 have := tree_nodes h; rw [awake_nodes] at this; exact this
theorem deep3 {w : World} {g : Nat} (h : TreeAt w g (rowM 3)) : Calls Tryz.prog 10 #[.pointer (some ⟨g, 0, none⟩)] w (fun e w' => e = .returned (.int .i64 2) ∧ w = w') := by
 have := tree_deep h; rw [awake_deep] at this; exact this
theorem nodes0 {w : World} {g : Nat} (h : TreeAt w g noneM) : Calls Tryz.prog 9 #[.pointer (some ⟨g, 0, none⟩)] w (fun e w' => e = .returned (.int .i64 0) ∧ w = w') := tree_nodes h
theorem EQN : ∀ w, (Op.equalIn 10000 42 (.agg #[.int .i64 0, .int .i64 (-1), .int .i64 0, .int .i64 0]) (.agg #[.int .i64 0, .int .i64 (-1), .int .i64 0, .int .i64 0])).run Tryz.prog w = .ok true w := fun w => HitEq.eq_hit _ _ _ _ _ _ _ _ w
set_option maxRecDepth 100000 in
set_option maxHeartbeats 16000000 in
theorem awake_any (w : World) : Calls Tryz.prog 14 #[] w (AwTo w) := by
 go_enter Tryz.func14, Tryz.ntmps14
 go_wp2_with fail
 refine (row3 _).mono ?_
 rintro e w1 ⟨a1, c1, rfl, hm, hb⟩
 have HM := Lib.hid hm
 have HB1 := Lib.hid hb
 clear hm hb
 go_wp2_with fail
 refine (made3 HM.out).mono ?_
 rintro e w2 ⟨g, rfl, ht, hb⟩
 have HT2 := Lib.hid ht
 have HB2 := Lib.hid (HB1.out.trans (hb.mono HB1.out.size))
 clear ht hb HM HB1
 go_wp2_with fail
 refine (row3 _).mono ?_
 rintro e w3 ⟨a2, c2, rfl, hm, hb⟩
 have HM := Lib.hid hm
 have HT3 := Lib.hid (HT2.out.below hb)
 have HB3 := Lib.hid (HB2.out.trans (hb.mono HB2.out.size))
 clear hm hb HT2 HB2
 go_wp2_with fail
 refine (short3 HM.out).mono ?_
 rintro e w4 ⟨rfl, hb⟩
 have HT4 := Lib.hid (HT3.out.below hb)
 have HB4 := Lib.hid (HB3.out.trans (hb.mono HB3.out.size))
 clear hb HM HT3 HB3
 go_wp2_with fail
 refine (made0 _).mono ?_
 rintro e w5 ⟨g0, rfl, ht, hb⟩
 have HN5 := Lib.hid ht
 have HT5 := Lib.hid (HT4.out.below hb)
 have HB5 := Lib.hid (HB4.out.trans (hb.mono HB4.out.size))
 clear ht hb HT4 HB4
 go_wp2_with fail
 refine (down50 _).mono ?_
 rintro e w6 ⟨rfl, hb⟩
 have HN6 := Lib.hid (HN5.out.below hb)
 have HT6 := Lib.hid (HT5.out.below hb)
 have HB6 := Lib.hid (HB5.out.trans (hb.mono HB5.out.size))
 clear hb HN5 HT5 HB5
 go_wp2_with fail
 refine (near3 HT6.out).mono ?_
 rintro e w7 ⟨rfl, hb⟩
 have HN7 := Lib.hid (HN6.out.below hb)
 have HT7 := Lib.hid (HT6.out.below hb)
 have HB7 := Lib.hid (HB6.out.trans (hb.mono HB6.out.size))
 clear hb HN6 HT6 HB6
 have hx := ext_alloc w7 (.cells #[.int .i64 0, .int .i64 (-1), .int .i64 0, .int .i64 0] 42)
 have hn := heap_alloc_new w7 (.cells #[.int .i64 0, .int .i64 (-1), .int .i64 0, .int .i64 0] 42)
 go_upto_region 5 with (fail)
 obtain ⟨w8, hW⟩ : ∃ ww, ww = w7.alloc (.cells #[.int .i64 0, .int .i64 (-1), .int .i64 0, .int .i64 0] 42) := ⟨_, rfl⟩
 rw [← hW] at hx hn ⊢
 have HN8 := Lib.hid (HN7.out.below hx)
 have HT8 := Lib.hid (HT7.out.below hx)
 have HB8 := Lib.hid (HB7.out.trans (hx.mono HB7.out.size))
 clear hW hx HN7 HT7 HB7
 have e0 := cell_row hn 0 _ rfl
 have e1 := cell_row hn 1 _ rfl
 have e2 := cell_row hn 2 _ rfl
 have e3 := cell_row hn 3 _ rfl
 clear hn
 have EQ := EQN
 go_wp2_with fail
 refine (nodes3 HT8.out).mono ?_
 rintro e _ ⟨rfl, rfl⟩
 go_wp2_with fail
 refine (deep3 HT8.out).mono ?_
 rintro e _ ⟨rfl, rfl⟩
 go_wp2_with fail
 refine (nodes0 HN8.out).mono ?_
 rintro e _ ⟨rfl, rfl⟩
 go_wp2_with fail
 go_ret
 exact ⟨rfl, HB8.out⟩
end Go.Proofs.YtdaokkgenfpmhaaGreat.BvhI

/- From the form's own reading of an argument to this seat's words: a slice of bytes that came in reads as a list of numbers. -/
set_option linter.unusedVariables false
set_option linter.unusedSimpArgs false
namespace Go.Proofs.YtdaokkgenfpmhaaGreat.Row
open Go.RowKit Base

end Go.Proofs.YtdaokkgenfpmhaaGreat.Row

/- From the form's own reading of an argument to this seat's words: a point by value. -/
set_option linter.unusedVariables false
set_option linter.unusedSimpArgs false
namespace Go.Proofs.YtdaokkgenfpmhaaGreat.OpenVec
open Go.RowKit Go.Deep Go.ChangeShapes Go.WideShapes Go.ChangeAt Base Go.Proofs.YtdaokkgenfpmhaaGreat.Row VecW FixM

end Go.Proofs.YtdaokkgenfpmhaaGreat.OpenVec

/- From the form's own reading of an argument to this seat's words: a mesh (three slices of records). -/
set_option linter.unusedVariables false
set_option linter.unusedSimpArgs false
namespace Go.Proofs.YtdaokkgenfpmhaaGreat.OpenMesh
open Go.RowKit Go.Deep Go.ChangeShapes Go.WideShapes Go.ChangeAt Base Go.Proofs.YtdaokkgenfpmhaaGreat.Row VecW FixM MeshM Rec

theorem add_flat (a : Addr) (hs : a.spot = none) (i : Nat) : a.add i = ⟨a.block, a.off + i, none⟩ := by
 obtain ⟨b, o, s⟩ := a
 subst hs
 unfold Addr.add; split <;> simp_all
section
variable {H : Type} {enc : TypeId × Value → H} {W : World} {b0 : Nat} {sp : Nat → Bool} {hd : Bool}
end
def IsMesh (w : World) (v : Value) : Prop := ∃ m : Msh, m.ok ∧ MeshA.IsMesh w v m
end Go.Proofs.YtdaokkgenfpmhaaGreat.OpenMesh

namespace Go.Proofs.YtdaokkgenfpmhaaGreat.OpenRay
theorem keep_ : True := trivial
end Go.Proofs.YtdaokkgenfpmhaaGreat.OpenRay
namespace Go.Proofs.YtdaokkgenfpmhaaGreat.OpenRays
theorem keep_ : True := trivial
end Go.Proofs.YtdaokkgenfpmhaaGreat.OpenRays
/- The walk of BvhScan. -/
set_option linter.unusedVariables false
set_option linter.unusedSimpArgs false
namespace Go.Proofs.YtdaokkgenfpmhaaGreat.BvhL
open Go Go.RowKit Go.Sort Go.Lib FixM Base Num FixW Qb Qt Qa Qf Qg VecW VecV VecU LightQ LightC MeshM Rec MeshA MeshC MeshD MeshP HitM HitT HitX HitN HitS HitV BvhM BvhA BvhB BvhS BvhC BvhD BvhU BvhW BvhX BvhE BvhF BvhG BvhH BvhJ BvhI OpenRays
/-- what the law asks of a tree's size -/
theorem sizes (m : Msh) (hl : cntM m ≤ 400) : ((flatM m).length : Int) ≤ maxI (2 * (cntM m : Int) - 1) 0 ∧ deepM m ≤ 13 ∧ cntM m ≤ stepsM m ∧ stepsM m ≤ 13 * cntM m ∧ (flatM m).length ≤ 1000 := by
 unfold flatM deepM stepsM maxI
 by_cases hc : cntM m = 0
 ·
  rw [if_pos hc, if_pos hc, if_pos hc, hc]; simp
 ·
  rw [if_neg hc, if_neg hc, if_neg hc]
  have hg := whole_good m hc
  have e : (wholeT m).l.length = cntM m := by rw [whole_l]; unfold allL; rw [List.length_range]; rfl
  have h1 := nodes_le _ hg
  have h2 := steps_le _ hg
  have h3 := whole_deep m (by omega)
  rw [e] at h1 h2
  have h4 : deepT (wholeT m) * cntM m ≤ 12 * cntM m := Nat.mul_le_mul_right _ h3
  rw [flat_length]
  refine ⟨by split <;> omega, by omega, h2.1, by omega, by omega⟩
theorem EQH (t i u v : Int) : ∀ w, (Op.equalIn 10000 42 (.agg #[.int .i64 t, .int .i64 i, .int .i64 u, .int .i64 v]) (.agg #[.int .i64 t, .int .i64 i, .int .i64 u, .int .i64 v])).run Tryz.prog w = .ok true w := fun w => by rw [HitEq.eq_hit]; simp
end Go.Proofs.YtdaokkgenfpmhaaGreat.BvhL

