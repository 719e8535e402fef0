/- Joined texts of this claim, part 1: contracts and plain laws that its proof stands on. -/
import Derived.WalkKit
import Derived.WalkLawsBesides
import Derived.WalkSpells
import Derived.Outline
import Derived.Lib.Hide
import Derived.Deep.DeepCutAuto
import Derived.Deep.LoopGhost
import Derived.Laws.CopyOwn
import Derived.Laws.AppendOwnNone
import Derived.Lib.SlBytesConst
import Derived.Laws.Bits64
import Derived.Laws.Bits64b
import Derived.Laws.Rows
import Derived.Test.YtdaokkgenfpmhaaGreatRows
import Derived.Lib.Mul64
import Derived.Lib.Strings
import Derived.Lib.Slices
import Derived.Lib.Small
import Derived.Lib.Walk
import Derived.Lib.BitFns
import Derived.Deep.QuietTactic
import Derived.BigQuiet
import Derived.Deep.CutBlock
import Derived.Lib.QuietBelow
import Derived.StillTailTactics
import Derived.Maps.AppendAt
import Derived.OwnWalk
import Derived.RegionTactic
import Derived.BigRegion
import Derived.Shelf.SlSortCmp.QuietGrown
import Derived.Shelf.SlSortCmp.NoneTotal
import Derived.Ground.SlsfProg
import Derived.Laws.EntriesVeiled
import Derived.Deep.CutRange
import Derived.Deep.MidRow
import Derived.ChangeKeysEq
import Derived.Laws.StructEq
import Derived.ProofKit
import Derived.OpenShut
import Derived.Deep.Strs
/- Words and small laws that all walks of this seat share: a slice of numbers that reads as a list, one that the call itself owns, append and conversion over these, a whole array stored into a block. No program is named here. -/
set_option linter.unusedVariables false
set_option linter.unusedSimpArgs false
namespace Go.Proofs.YtdaokkgenfpmhaaGreat.Base
open Go.RowKit

theorem ret_int {k : IntKind} {a b : Int} (h : a = b) : Ending.returned (.int k a) = .returned (.int k b) := by rw [h]
/-- the numbers of a list, as cells -/
def numCells (k : IntKind) (l : List Nat) : List Value := l.map fun (n : Nat) => Value.int k (n : Int)
theorem numCells_at (k : IntKind) (l : List Nat) (i : Nat) (h : i < l.length) : (numCells k l)[i]? = some (.int k (l[i] : Int)) := by
 simp [numCells, h]
theorem numCells_one (k : IntKind) (l : List Nat) : ∀ u ∈ numCells k l, u.oneCell' = true := by
 intro u hu; simp only [numCells, List.mem_map] at hu; obtain ⟨n, _, rfl⟩ := hu; rfl
theorem numCells_length (k : IntKind) (l : List Nat) : (numCells k l).length = l.length := by simp [numCells]
theorem numCells_append (k : IntKind) (l m : List Nat) : numCells k (l ++ m) = numCells k l ++ numCells k m := by simp [numCells]

/-- WHAT A SLICE OF NUMBERS HOLDS: the value v is a slice whose elements are the numbers l, each below N. -/
structure Nums (k : IntKind) (N : Nat) (w : World) (v : Value) (l : List Nat) : Prop where
 shape : ∃ a cap, v = .slice a l.length cap ∧ l.length ≤ cap ∧ cap ≤ maxLen ∧ (a = none → l.length = 0 ∧ cap = 0)
 bound : ∀ x ∈ l, x < N
 cells : l ≠ [] → ∃ b off cap, v = .slice (some ⟨b, off, none⟩) l.length cap ∧ b < w.heap.size ∧ ∀ i (h : i < l.length), w.cell? ⟨b, off + i, none⟩ = some (.int k (l[i] : Int))

theorem Nums.below {k : IntKind} {N : Nat} {w w' : World} {B : Nat} {v : Value} {l : List Nat} (h : Nums k N w v l) (hb : Below B w w') (hB : w.heap.size ≤ B) : Nums k N w' v l where
 shape := h.shape
 bound := h.bound
 cells := fun hne => by
  obtain ⟨b, off, cap, e, hlt, hc⟩ := h.cells hne
  exact ⟨b, off, cap, e, Nat.lt_of_lt_of_le hlt hb.size, fun i hi => (hb.cell (p := ⟨b, off + i, none⟩) (Nat.lt_of_lt_of_le hlt hB)).trans (hc i hi)⟩

/-- the first of them -/
theorem Nums.take {k : IntKind} {N : Nat} {w : World} {a : Option Addr} {n cap : Nat} {l : List Nat} (h : Nums k N w (.slice a n cap) l) (j : Nat) (hj : j ≤ n) (hn : n = l.length) (ha : a ≠ none) : Nums k N w (.slice a j cap) (l.take j) := by
 have hlen : (l.take j).length = j := by simp; omega
 obtain ⟨a', cap', e, h1, h2, h3⟩ := h.shape
 simp only [Value.slice.injEq] at e
 obtain ⟨rfl, _, rfl⟩ := e
 refine ⟨⟨a, cap, by rw [hlen], by omega, h2, fun h0 => absurd h0 ha⟩, fun x hx => h.bound x (List.mem_of_mem_take hx), ?_⟩
 intro hne
 have hl : l ≠ [] := by intro h0; subst h0; simp at hne
 obtain ⟨b, off, cap2, e2, hb, hc⟩ := h.cells hl
 simp only [Value.slice.injEq] at e2
 obtain ⟨rfl, _, rfl⟩ := e2
 refine ⟨b, off, cap, by rw [hlen], hb, fun i hi => ?_⟩
 rw [hlen] at hi
 rw [hc i (by omega)]; simp

/-- what stands behind the first of them -/
theorem Nums.drop {k : IntKind} {N : Nat} {w : World} {b off n cap : Nat} {l : List Nat} (h : Nums k N w (.slice (some ⟨b, off, none⟩) n cap) l) (j : Nat) (hj : j ≤ n) : Nums k N w (.slice (some ⟨b, off + j, none⟩) (n - j) (cap - j)) (l.drop j) := by
 obtain ⟨a', cap', e, h1, h2, h3⟩ := h.shape
 simp only [Value.slice.injEq] at e
 obtain ⟨rfl, hn, rfl⟩ := e
 have hlen : (l.drop j).length = n - j := by simp; omega
 refine ⟨⟨_, cap - j, by rw [hlen], by omega, by unfold maxLen at *; omega, fun h0 => by simp at h0⟩, fun x hx => h.bound x (List.mem_of_mem_drop hx), ?_⟩
 intro hne
 have hl : l ≠ [] := by intro h0; subst h0; simp at hne
 obtain ⟨b2, off2, cap2, e2, hb, hc⟩ := h.cells hl
 simp only [Value.slice.injEq, Option.some.injEq, Addr.mk.injEq, and_true] at e2
 obtain ⟨⟨rfl, rfl⟩, _, rfl⟩ := e2
 refine ⟨b, off + j, cap - j, by rw [hlen], hb, fun i hi => ?_⟩
 rw [hlen] at hi
 have := hc (j + i) (by omega)
 rw [← Nat.add_assoc] at this
 rw [this]; simp
theorem Nums.nil (k : IntKind) (N : Nat) (w : World) : Nums k N w (.slice none 0 0) [] where
 shape := ⟨none, 0, rfl, Nat.le_refl _, by unfold maxLen; omega, fun _ => ⟨rfl, rfl⟩⟩
 bound := by simp
 cells := fun h => absurd rfl h

/-- a slice as the walks meet it: opened, its address known where it has an element -/
theorem Nums.open_ {k : IntKind} {N : Nat} {w : World} {v : Value} {l : List Nat} (h : Nums k N w v l) : ∃ a cap, v = .slice a l.length cap ∧ l.length ≤ 9223372036854775807 ∧ (∀ x ∈ l, x < N) ∧
  (∀ j (_ : j < l.length), ∃ b off, a = some ⟨b, off, none⟩ ∧ b < w.heap.size ∧ ∀ i (h : i < l.length), w.cell? ⟨b, off + i, none⟩ = some (.int k (l[i] : Int))) := by
 obtain ⟨a, cap, rfl, h1, h2, _⟩ := h.shape
 refine ⟨a, cap, rfl, by unfold maxLen at h2; omega, h.bound, ?_⟩
 intro j hj
 obtain ⟨b, off, cap', e, hb, hc⟩ := h.cells (by intro h0; subst h0; simp at hj)
 simp only [Value.slice.injEq] at e
 exact ⟨b, off, e.1, hb, hc⟩

/-- A SLICE OF NUMBERS THAT THE CALL ITSELF MADE (its block's number at least 'base'). -/
structure Own (k : IntKind) (N : Nat) (E base : Nat) (w : World) (v : Value) (l : List Nat) : Prop where
 row : w.ownsRow base E 1 v l.length (numCells k l)
 bound : ∀ x ∈ l, x < N

theorem Own.nil (k : IntKind) (N E base : Nat) (w : World) : Own k N E base w (.slice none 0 0) [] := ⟨World.ownsRow_nil _ _ _ _, by simp⟩
theorem Own.nums {k : IntKind} {N E base : Nat} {w : World} {v : Value} {l : List Nat} (h : Own k N E base w v l) : Nums k N w v l where
 shape := by
  rcases h.row.2 with ⟨rfl, h0⟩ | ⟨g, cap, cur, rfl, _, _, h1, h2, _⟩
  ·
   exact ⟨none, 0, by rw [h0], by omega, by unfold maxLen; omega, fun _ => ⟨h0, rfl⟩⟩
  ·
   exact ⟨_, cap, rfl, h1, h2, fun e => by simp at e⟩
 bound := h.bound
 cells := fun hne => by
  rcases h.row.2 with ⟨rfl, h0⟩ | ⟨g, cap, cur, rfl, _, hg, h1, h2, h3, h4⟩
  ·
   exact absurd (List.eq_nil_of_length_eq_zero h0) hne
  ·
   refine ⟨g, 0, cap, rfl, ?_, ?_⟩
   ·
    rcases Nat.lt_or_ge g w.heap.size with h | h
    ·
     exact h
    ·
     rw [Array.getElem?_eq_none h] at hg; simp at hg
   ·
    intro i hi
    rw [cell_of_row w g (0 + i) cur _ _ hg]
    have e : (numCells k l)[i]? = cur[i]? := by rw [← h4]; simp [hi]
    rw [Nat.zero_add, ← e, numCells_at k l i hi]
theorem Own.slice_ {k : IntKind} {N E base : Nat} {w : World} {v : Value} {l : List Nat} (h : Own k N E base w v l) : ∃ a n cap, v = .slice a n cap := by
 obtain ⟨a, cap, e, _⟩ := h.nums.shape; exact ⟨a, _, cap, e⟩
theorem Own.mono {k : IntKind} {N E base base' : Nat} {w : World} {v : Value} {l : List Nat} (h : Own k N E base w v l) (hb : base' ≤ base) : Own k N E base' w v l := by
 refine ⟨⟨h.row.1, ?_⟩, h.bound⟩
 rcases h.row.2 with h0 | ⟨g, cap, cur, e, hbg, r⟩
 ·
  exact .inl h0
 ·
  exact .inr ⟨g, cap, cur, e, by omega, r⟩
/-- what is owned stays owned where only blocks from B on may have turned, its own block lying below B -/
theorem Own.below {k : IntKind} {N E base B : Nat} {w w' : World} {v : Value} {l : List Nat} (h : Own k N E base w v l) (hb : Below B w w') (hB : w.heap.size ≤ B) : Own k N E base w' v l := by
 refine ⟨⟨h.row.1, ?_⟩, h.bound⟩
 rcases h.row.2 with h0 | ⟨g, cap, cur, e, hbg, hg, r⟩
 ·
  exact .inl h0
 ·
  refine .inr ⟨g, cap, cur, e, hbg, ?_, r⟩
  rw [hb.block g ?_]; exact hg
  rcases Nat.lt_or_ge g w.heap.size with h | h
  ·
   omega
  ·
   rw [Array.getElem?_eq_none h] at hg; simp at hg
theorem Own.alloc {k : IntKind} {N E base : Nat} {w : World} {v : Value} {l : List Nat} (h : Own k N E base w v l) (o : Obj) : Own k N E base (w.alloc o) v l := ⟨h.row.alloc o, h.bound⟩
theorem setCell_below {B : Nat} {w0 w : World} (hb : Below B w0 w) {g j : Nat} (h : B ≤ g) (v : Value) : Below B w0 (w.setCell ⟨g, j, none⟩ v) := hb.setCell h v
/-- an owned row that has an element: its block, its cells, a store into it -/
theorem Own.at_ {k : IntKind} {N E base : Nat} {w : World} {v : Value} {l : List Nat} (h : Own k N E base w v l) (hpos : 0 < l.length) :
  ∃ g cap, v = .slice (some ⟨g, 0, none⟩) l.length cap ∧ l.length ≤ cap ∧ base ≤ g ∧ g < w.heap.size ∧ (∀ j (hj : j < l.length), w.cell? ⟨g, j, none⟩ = some (.int k (l[j] : Int))) ∧ (∀ j, w.frozen? ⟨g, j, none⟩ = false) ∧
   (∀ j y, y < N → Own k N E base (w.setCell ⟨g, j, none⟩ (.int k (y : Int))) v (l.set j y)) := by
 obtain ⟨hr, hb⟩ := h
 rcases hr.2 with ⟨rfl, h0⟩ | ⟨g, cap, cur, rfl, hbg, hg, hcap, _⟩
 ·
  omega
 ·
  refine ⟨g, cap, rfl, hcap, hbg, ?_, ?_, fun j => hr.frozenAt j, ?_⟩
  ·
   rcases Nat.lt_or_ge g w.heap.size with h | h
   ·
    exact h
   ·
    rw [Array.getElem?_eq_none h] at hg; simp at hg
  ·
   intro j hj
   rw [hr.cellAt j (by omega), numCells_at k l j hj]
  ·
   intro j y hy
   refine ⟨?_, ?_⟩
   ·
    have := (hr.stored j (.int k (y : Int))).1
    have e : numCells k (l.set j y) = (numCells k l).set j (.int k (y : Int)) := by unfold numCells; rw [List.map_set]
    rw [e, List.length_set]; exact this
   ·
    intro x hx
    rcases List.mem_or_eq_of_mem_set hx with h | h
    ·
     exact hb x h
    ·
     rw [h]; exact hy

/-- one number, laid into a block of its own -/
theorem nums_one (k : IntKind) (N E : Nat) (w : World) (x : Nat) (hx : x < N) : Nums k N (w.alloc (.cells #[.int k (x : Int)] E)) (.slice (some ⟨w.heap.size, 0, none⟩) 1 1) [x] where
 shape := ⟨_, 1, rfl, Nat.le_refl _, by unfold maxLen; omega, fun e => by simp at e⟩
 bound := by simp; exact hx
 cells := fun _ => ⟨w.heap.size, 0, 1, rfl, by simp, fun i hi => by
  have : i = 0 := by simp at hi; omega
  subst this; rw [World.cell?_alloc_at _ _ _ _ rfl]; simp⟩
section
variable {P : Program}
/-- THE TYPES OF A SLICE OF NUMBERS: T is []E, E of the kind k, so many bytes wide. -/
structure NumSlice (P : Program) (T E : TypeId) (k : IntKind) (bytes : Nat) : Prop where
 und : P.underlying T = some (.slice E)
 info : ∃ i, P.info? E = some i ∧ i.zero = some (.int k 0) ∧ i.size = 1 ∧ i.bytes = bytes

theorem numSlice {P : Program} {T E : TypeId} {k : IntKind} {bytes : Nat} (h : P.underlying T = some (.slice E))
  (hi : (P.info? E).map (fun i => (i.zero, i.size, i.bytes)) = some (some (.int k 0), 1, bytes)) : NumSlice P T E k bytes := by
 obtain ⟨i, h1, h2, h3, h4⟩ := info_parts hi
 exact ⟨h, i, h1, h2, h3, h4⟩

/-- append(dst, src...): dst the call's own, src whatever reads as numbers. The new row lies where the elder one lay, or in a new block. -/
theorem wpList_append_nums_at {w : World} {ops : Array Oper} {rest : List Oper} {o : Oper} {a : Act} {Q : Exit → Act → World → Prop} (hgd : o.guard = none) (s x : Operand) (T E : TypeId)
  (ho : o.op = .call { callee := .builtin .append, args := #[s, x], argTypes := #[T, T] }) (k : IntKind) (N bytes base : Nat) (hT : NumSlice P T E k bytes)
  (v : Value) (l : List Nat) (hs : a.eval s = v) (hown : Own k N E base w v l) (u : Value) (m : List Nat) (hx : a.eval x = u) (hu : Nums k N w u m)
  (hb : (l.length + m.length) * bytes ≤ 140737488355328) (hl : l.length + m.length ≤ 140737488355328) (hbase : base ≤ w.heap.size)
  (h : ∀ v' w', Own k N E base w' v' (l ++ m) → w.grownBy w' v.ownBlock → (v'.ownBlock = v.ownBlock ∨ ∀ b, v'.ownBlock = some b → w.heap.size ≤ b) → wpList P ops Q rest (a.put o.dst v') w') : wpList P ops Q (o :: rest) a w := by
 obtain ⟨i, hi, hz, h1, h2⟩ := hT.info
 obtain ⟨ad, cap, rfl, hc1, hc2, hnone⟩ := hu.shape
 cases ad with
 | none =>
  obtain ⟨hm, rfl⟩ := hnone rfl
  obtain rfl : m = [] := List.eq_nil_of_length_eq_zero hm
  refine wpList_append_own_none hgd s x T ho base E i 1 hT.und hi v l.length (numCells k l) hs hown.row hx ?_
  refine h v w (by simpa using hown) ?_ (.inl rfl)
  exact ⟨rfl, rfl, rfl, Nat.le_refl _, fun _ _ _ => rfl⟩
 | some ad =>
  have hnews : ∀ j (y : Value), (numCells k m)[j]? = some y → w.cell? (ad.add j) = some y := by
   intro j y hj
   have hjl : j < m.length := by
    rcases Nat.lt_or_ge j m.length with h | h
    ·
     exact h
    ·
     rw [List.getElem?_eq_none (by rw [numCells_length]; exact h)] at hj; simp at hj
   obtain ⟨b, off, cap', e, _, hc⟩ := hu.cells (by intro h0; subst h0; simp at hjl)
   simp only [Value.slice.injEq, Option.some.injEq] at e
   obtain ⟨rfl, _, _⟩ := e
   rw [numCells_at k m j hjl] at hj
   have := hc j hjl
   rw [show ((⟨b, off, none⟩ : Addr).add j) = ⟨b, off + j, none⟩ from by unfold Addr.add; split <;> simp_all]
   rw [this]; exact hj
  have hbound : ∀ y ∈ l ++ m, y < N := by intro y hy; rcases List.mem_append.1 hy with hy | hy; exact hown.bound y hy; exact hu.bound y hy
  have hml : (numCells k m).length = m.length * 1 := by rw [numCells_length]; omega
  rcases hown.row.2 with ⟨rfl, h0⟩ | ⟨g, cap0, cur, rfl, hbg, hg, hcap, hcm, hcs, htk⟩
  ·
   have hl0 : l = [] := List.eq_nil_of_length_eq_zero h0
   subst hl0
   refine wpList_append_own w hgd s x T ho w.heap.size E i (.int k 0) 1 bytes hT.und hi hz h1 h2 rfl (by omega) (.slice none 0 0) 0 [] hs (World.ownsRow_nil _ _ _ _) ad m.length cap (numCells k m) hx
    hml hnews (numCells_one k m) (by simp at hl; unfold maxLen; omega) (by simpa using hb) (Nat.le_refl _) ?_
   intro v' w' ho' hg' _
   have hO : Own k N E w.heap.size w' v' m := ⟨by simpa using ho', hu.bound⟩
   exact h v' w' (by simpa using hO.mono hbase) hg' (.inr fun b hb => (hO.row.lt b hb).1)
  ·
   by_cases hroom : l.length + m.length ≤ cap0
   ·
    refine wpList_plain hgd fun K hK => ?_
    obtain ⟨w', hrun, r1, r2⟩ := run_append_fits (P := P) w base T o.type E i 1 hT.und hi h1 g l.length cap0 (numCells k l) hown.row ad m.length cap (numCells k m) hml hnews (numCells_one k m) hroom
    unfold Oper.wp
    simp [execOp, ho, resolve, invoke, builtin, hs, hx, hrun, Result.andThen]
    exact hK _ _ (h _ w' ⟨by rw [List.length_append, numCells_append]; exact r1, hbound⟩ r2 (.inl rfl))
   ·
    refine wpList_append_grows w hgd s x T ho E i (.int k 0) 1 bytes hT.und hi hz h1 h2 rfl (by omega) (some ⟨g, 0, none⟩) l.length cap0 (numCells k l) hs (by intro h; simp at h) (by rw [numCells_length]; omega)
     (by intro b hb j y hj; simp only [Option.some.injEq] at hb; subst hb; exact hown.row.cells rfl j y hj) ad m.length cap (numCells k m) hx hml hnews (numCells_one k m) (by omega) (by unfold maxLen; omega) hb ?_
    intro v' w' ho' hg'
    have hO : Own k N E w.heap.size w' v' (l ++ m) := ⟨by rw [List.length_append, numCells_append]; exact ho', hbound⟩
    refine h v' w' (hO.mono hbase) ⟨hg'.os, hg'.tape, hg'.output, hg'.size, fun k' hk' _ => hg'.block k' hk' (by simp)⟩ (.inr fun b hb => (hO.row.lt b hb).1)
/-- A WHOLE ARRAY (or struct) STORED INTO A BLOCK of its own size. -/
theorem wpList_store_arr {ops : Array Oper} {rest : List Oper} {o : Oper} {a : Act} {w : World} {Q : Exit → Act → World → Prop} (hgd : o.guard = none) (ty : TypeId) (x y : Operand) (ho : o.op = .store ty x y)
  (g : Nat) (cs : Array Value) (hx : a.eval x = .pointer (some ⟨g, 0, none⟩)) (hy : a.eval y = .agg cs) (t : TypeId) (cur : Array Value) (hg : w.heap[g]? = some (.cells cur t (0, 0)))
  (hi : (P.info? ty).map (·.size) = some cs.size) (hs : cur.size = cs.size) (h1 : ∀ v ∈ cs.toList, v.oneCell' = true) (hd : o.dst = none)
  (h : wpList P ops Q rest a (w.setRow g cs)) : wpList P ops Q (o :: rest) a w := by
 refine Go.wpList_store_row hgd ty x y ho g cs hx hy t cur hg hi hs ?_ ?_
 ·
  rw [Array.all_eq_true]
  intro i hi
  exact h1 _ (by simp)
 ·
  have : a.put o.dst undef = a := by rw [hd]; rfl
  rw [this]; exact h
end

theorem ext_alloc (w : World) (o : Obj) : Below w.heap.size w (w.alloc o) := (Below.refl _ _).alloc (Nat.le_refl _) o
/-- what append leaves, seen from an elder world: its own row lies from B on -/
theorem below_grown {B : Nat} {w0 w w' : World} {v : Value} {k : IntKind} {N E base : Nat} {l : List Nat} (hb : Below B w0 w) (ho : Own k N E base w v l) (hg : w.grownBy w' v.ownBlock) (hB : B ≤ base) (hs : B ≤ w.heap.size) : Below B w0 w' := by
 refine hb.grown hg hs ?_
 intro k' hk'
 have := (ho.row.lt k' hk').1
 omega

/-! ### WHAT A CALL LEAVES ALONE: every block that was there but those of a set S -/
structure Keeps (S : Nat → Prop) (w w' : World) : Prop where
 os : w'.os = w.os
 tape : w'.tape = w.tape
 output : w'.output = w.output
 size : w.heap.size ≤ w'.heap.size
 block : ∀ k, k < w.heap.size → ¬ S k → w'.heap[k]? = w.heap[k]?
theorem Keeps.refl (S : Nat → Prop) (w : World) : Keeps S w w := ⟨rfl, rfl, rfl, Nat.le_refl _, fun _ _ _ => rfl⟩
theorem Keeps.trans {S S' : Nat → Prop} {w w1 w2 : World} (h1 : Keeps S w w1) (h2 : Keeps S' w1 w2) (hs : ∀ k, S' k → S k ∨ w.heap.size ≤ k) : Keeps S w w2 :=
 ⟨h2.os.trans h1.os, h2.tape.trans h1.tape, h2.output.trans h1.output, Nat.le_trans h1.size h2.size, fun k hk hn => by
  rw [h2.block k (Nat.lt_of_lt_of_le hk h1.size) (fun h => by rcases hs k h with h | h; exact hn h; omega)]; exact h1.block k hk hn⟩
theorem Keeps.mono {S S' : Nat → Prop} {w w' : World} (h : Keeps S w w') (hs : ∀ k, S k → S' k) : Keeps S' w w' :=
 ⟨h.os, h.tape, h.output, h.size, fun k hk hn => h.block k hk (fun h => hn (hs k h))⟩
theorem Keeps.alloc {S : Nat → Prop} {w w1 : World} (h : Keeps S w w1) (o : Obj) : Keeps S w (w1.alloc o) :=
 ⟨h.os, h.tape, h.output, by have := h.size; simp; omega, fun k hk hn => by
  rw [heap_alloc_old w1 o (Nat.lt_of_lt_of_le hk h.size)]; exact h.block k hk hn⟩
theorem Keeps.drew {S : Nat → Prop} {w w1 : World} (h : Keeps S w w1) : Keeps S w w1.drew := ⟨h.os, h.tape, h.output, h.size, h.block⟩
theorem Keeps.setCell {S : Nat → Prop} {w w1 : World} (h : Keeps S w w1) (g j : Nat) (v : Value) (hg : S g ∨ w.heap.size ≤ g) : Keeps S w (w1.setCell ⟨g, j, none⟩ v) :=
 ⟨h.os, h.tape, h.output, by have := h.size; simp only [World.setCell, Array.size_modify]; exact this, fun k hk hn => by
  rw [heap_setCell_other w1 ⟨g, j, none⟩ k v (by rintro rfl; rcases hg with hg | hg; exact hn hg; omega)]; exact h.block k hk hn⟩
theorem Keeps.setRow {S : Nat → Prop} {w w1 : World} (h : Keeps S w w1) (g : Nat) (cs : Array Value) (hg : S g ∨ w.heap.size ≤ g) : Keeps S w (w1.setRow g cs) :=
 ⟨h.os, h.tape, h.output, by rw [setRow_size]; exact h.size, fun k hk hn => by
  rw [setRow_other w1 g k cs (by rintro rfl; rcases hg with hg | hg; exact hn hg; omega)]; exact h.block k hk hn⟩
theorem Keeps.grown {S : Nat → Prop} {w w1 w2 : World} {row : Option Nat} (h : Keeps S w w1) (hg : w1.grownBy w2 row) (hr : ∀ k, row = some k → S k ∨ w.heap.size ≤ k) : Keeps S w w2 :=
 ⟨hg.os.trans h.os, hg.tape.trans h.tape, hg.output.trans h.output, Nat.le_trans h.size hg.size, fun k hk hn => by
  rw [hg.block k (Nat.lt_of_lt_of_le hk h.size) (fun e => by rcases hr k e.symm with h | h; exact hn h; omega)]; exact h.block k hk hn⟩
theorem Keeps.of_below {w w' : World} {B : Nat} (h : Below B w w') (S : Nat → Prop) (hS : ∀ k, B ≤ k → k < w.heap.size → S k) : Keeps S w w' :=
 ⟨h.os, h.tape, h.output, h.size, fun k hk hn => h.block k (by rcases Nat.lt_or_ge k B with h | h; exact h; exact absurd (hS k h hk) hn)⟩
theorem Keeps.of_ext {w w' : World} (h : Below w.heap.size w w') (S : Nat → Prop) : Keeps S w w' := Keeps.of_below h S (fun k h1 h2 => by omega)
theorem Keeps.below {S : Nat → Prop} {w w' : World} (h : Keeps S w w') (B : Nat) (hB : B ≤ w.heap.size) (hS : ∀ k, S k → B ≤ k) : Below B w w' :=
 ⟨h.os, h.tape, h.output, h.size, fun k hk => h.block k (by omega) (fun hs => by have := hS k hs; omega)⟩
theorem Keeps.ext {S : Nat → Prop} {w w' : World} (h : Keeps S w w') (hS : ∀ k, S k → w.heap.size ≤ k) : Below w.heap.size w w' := h.below _ (Nat.le_refl _) hS

theorem lt_of_heap {w : World} {g : Nat} {o : Obj} (h : w.heap[g]? = some o) : g < w.heap.size := by
 rcases Nat.lt_or_ge g w.heap.size with h' | h'
 ·
  exact h'
 ·
  rw [Array.getElem?_eq_none h'] at h; simp at h
theorem Nums.frame {k : IntKind} {N : Nat} {w w' : World} {S : Nat → Prop} {v : Value} {l : List Nat} (h : Nums k N w v l) (hf : Keeps S w w') (hn : ∀ b, v.ownBlock = some b → ¬ S b) : Nums k N w' v l where
 shape := h.shape
 bound := h.bound
 cells := fun hne => by
  obtain ⟨b, off, cap, e, hlt, hc⟩ := h.cells hne
  refine ⟨b, off, cap, e, Nat.lt_of_lt_of_le hlt hf.size, fun i hi => ?_⟩
  rw [← hc i hi]
  exact World.cell?_of_block (a := ⟨b, off + i, none⟩) (hf.block b hlt (hn b (by rw [e]; rfl)))
theorem Own.frame {k : IntKind} {N E base : Nat} {w w' : World} {S : Nat → Prop} {v : Value} {l : List Nat} (h : Own k N E base w v l) (hf : Keeps S w w') (hn : ∀ b, v.ownBlock = some b → ¬ S b) : Own k N E base w' v l := by
 refine ⟨⟨h.row.1, ?_⟩, h.bound⟩
 rcases h.row.2 with h0 | ⟨g, cap, cur, e, hbg, hg, r⟩
 ·
  exact .inl h0
 ·
  exact .inr ⟨g, cap, cur, e, hbg, by rw [hf.block g (lt_of_heap hg) (hn g (by rw [e]; rfl))]; exact hg, r⟩
theorem Own.lt {k : IntKind} {N E base : Nat} {w : World} {v : Value} {l : List Nat} (h : Own k N E base w v l) : ∀ b, v.ownBlock = some b → base ≤ b ∧ b < w.heap.size := h.row.lt
/-! ### SLICES OF ANYTHING THAT TAKES ONE CELL (bools, ..): the same words over an encoding -/
structure Seq {α : Type} (enc : α → Value) (w : World) (v : Value) (l : List α) : Prop where
 shape : ∃ a cap, v = .slice a l.length cap ∧ l.length ≤ cap ∧ cap ≤ maxLen ∧ (a = none → l.length = 0 ∧ cap = 0)
 cells : l ≠ [] → ∃ b off cap, v = .slice (some ⟨b, off, none⟩) l.length cap ∧ b < w.heap.size ∧ ∀ i (h : i < l.length), w.cell? ⟨b, off + i, none⟩ = some (enc l[i])
structure SeqOwn {α : Type} (enc : α → Value) (E base : Nat) (w : World) (v : Value) (l : List α) : Prop where
 row : w.ownsRow base E 1 v l.length (l.map enc)
section
variable {α : Type} {enc : α → Value}
theorem Seq.nil (w : World) : Seq enc w (.slice none 0 0) [] where
 shape := ⟨none, 0, rfl, Nat.le_refl _, by unfold maxLen; omega, fun _ => ⟨rfl, rfl⟩⟩
 cells := fun h => absurd rfl h
theorem Seq.below {w w' : World} {B : Nat} {v : Value} {l : List α} (h : Seq enc w v l) (hb : Below B w w') (hB : w.heap.size ≤ B) : Seq enc w' v l where
 shape := h.shape
 cells := fun hne => by
  obtain ⟨b, off, cap, e, hlt, hc⟩ := h.cells hne
  exact ⟨b, off, cap, e, Nat.lt_of_lt_of_le hlt hb.size, fun i hi => (hb.cell (p := ⟨b, off + i, none⟩) (Nat.lt_of_lt_of_le hlt hB)).trans (hc i hi)⟩
theorem Seq.frame {w w' : World} {S : Nat → Prop} {v : Value} {l : List α} (h : Seq enc w v l) (hf : Keeps S w w') (hn : ∀ b, v.ownBlock = some b → ¬ S b) : Seq enc w' v l where
 shape := h.shape
 cells := fun hne => by
  obtain ⟨b, off, cap, e, hlt, hc⟩ := h.cells hne
  refine ⟨b, off, cap, e, Nat.lt_of_lt_of_le hlt hf.size, fun i hi => ?_⟩
  rw [← hc i hi]
  exact World.cell?_of_block (a := ⟨b, off + i, none⟩) (hf.block b hlt (hn b (by rw [e]; rfl)))
theorem SeqOwn.nil (E base : Nat) (w : World) : SeqOwn enc E base w (.slice none 0 0) [] := ⟨World.ownsRow_nil _ _ _ _⟩
theorem SeqOwn.mono {E base base' : Nat} {w : World} {v : Value} {l : List α} (h : SeqOwn enc E base w v l) (hb : base' ≤ base) : SeqOwn enc E base' w v l := by
 refine ⟨⟨h.row.1, ?_⟩⟩
 rcases h.row.2 with h0 | ⟨g, cap, cur, e, hbg, r⟩
 ·
  exact .inl h0
 ·
  exact .inr ⟨g, cap, cur, e, by omega, r⟩
theorem SeqOwn.lt {E base : Nat} {w : World} {v : Value} {l : List α} (h : SeqOwn enc E base w v l) : ∀ b, v.ownBlock = some b → base ≤ b ∧ b < w.heap.size := h.row.lt
theorem SeqOwn.frame {E base : Nat} {w w' : World} {S : Nat → Prop} {v : Value} {l : List α} (h : SeqOwn enc E base w v l) (hf : Keeps S w w') (hn : ∀ b, v.ownBlock = some b → ¬ S b) : SeqOwn enc E base w' v l := by
 refine ⟨⟨h.row.1, ?_⟩⟩
 rcases h.row.2 with h0 | ⟨g, cap, cur, e, hbg, hg, r⟩
 ·
  exact .inl h0
 ·
  exact .inr ⟨g, cap, cur, e, hbg, by rw [hf.block g (lt_of_heap hg) (hn g (by rw [e]; rfl))]; exact hg, r⟩
theorem SeqOwn.below {E base B : Nat} {w w' : World} {v : Value} {l : List α} (h : SeqOwn enc E base w v l) (hb : Below B w w') (hB : w.heap.size ≤ B) : SeqOwn enc E base w' v l :=
 h.frame (Keeps.of_below hb (fun k => B ≤ k) (fun _ h _ => h)) (fun b hb' => by have := (h.lt b hb').2; omega)
theorem SeqOwn.alloc {E base : Nat} {w : World} {v : Value} {l : List α} (h : SeqOwn enc E base w v l) (o : Obj) : SeqOwn enc E base (w.alloc o) v l := ⟨h.row.alloc o⟩
end
end Go.Proofs.YtdaokkgenfpmhaaGreat.Base

/- Numbers as the walks meet them: sums, shifts and bit by bit work of u32, u64 and u8 over natural numbers; rows of numbers that lie in arrays. No program is named here. -/
set_option linter.unusedVariables false
set_option linter.unusedSimpArgs false
namespace Go.Proofs.YtdaokkgenfpmhaaGreat.Num
open Go.RowKit

theorem wrap64u (a : Nat) : IntKind.u64.wrap (a : Int) = ((a % 18446744073709551616 : Nat) : Int) := by rw [IntKind.wrap_u64]; omega
theorem natDiv (a b : Nat) : (a : Int) / (b : Int) = ((a / b : Nat) : Int) := (Int.natCast_ediv a b).symm
theorem natMod (a b : Nat) : (a : Int) % (b : Int) = ((a % b : Nat) : Int) := (Int.natCast_emod a b).symm
theorem natMul (a b : Nat) : (a : Int) * (b : Int) = ((a * b : Nat) : Int) := (Int.natCast_mul a b).symm
theorem natAdd (a b : Nat) : (a : Int) + (b : Int) = ((a + b : Nat) : Int) := (Int.natCast_add a b).symm
theorem or_disjoint (a b n : Nat) (h : b < 2 ^ n) : a * 2 ^ n ||| b = a * 2 ^ n + b := by
 rw [Nat.mul_comm]; exact (Nat.two_pow_add_eq_or_of_lt h a).symm
/-! arrays of numbers -/
/-- the cells of an array of n numbers -/
def arr (k : IntKind) (n : Nat) (f : Nat → Nat) : Array Value := ((List.range n).map fun i => Value.int k (f i : Int)).toArray
attribute [irreducible] arr
end Go.Proofs.YtdaokkgenfpmhaaGreat.Num

/- The numbers of layer 1 (fix) as plain arithmetic over the integers: sums, products, quotients and roots that are brought in, and sines. No program is named here. -/
set_option linter.unusedVariables false
set_option linter.unusedSimpArgs false
namespace Go.Proofs.YtdaokkgenfpmhaaGreat.FixM

/-- brought in: a 64-bit number -/
def clamp (x : Int) : Int := if x < -9223372036854775808 then -9223372036854775808 else if 9223372036854775807 < x then 9223372036854775807 else x
def In (x : Int) : Prop := -9223372036854775808 ≤ x ∧ x ≤ 9223372036854775807
theorem clamp_in (x : Int) : In (clamp x) := by unfold clamp In; split <;> (try split) <;> omega
theorem clamp_id {x : Int} (h1 : -9223372036854775808 ≤ x) (h2 : x ≤ 9223372036854775807) : clamp x = x := by unfold clamp; split <;> (try split) <;> omega
def addF (a b : Int) : Int := clamp (a + b)
def subF (a b : Int) : Int := clamp (a - b)
def negF (a : Int) : Int := clamp (-a)
def mulF (a b : Int) : Int := clamp (a * b / 4294967296)
def divF (a b : Int) : Int :=
 if b = 0 then (if 0 < a then 9223372036854775807 else if a < 0 then -9223372036854775808 else 0)
 else if 0 < b then clamp (a * 4294967296 / b) else clamp (-(a * 4294967296) / -b)

/-- of sizes and signs: what lies above, the rest, whether something is left -/
def told (same : Bool) (hi lo : Nat) (rest : Bool) : Int :=
 if same then (if hi ≠ 0 ∨ 9223372036854775807 < lo then 9223372036854775807 else (lo : Int))
 else (if hi ≠ 0 ∨ 9223372036854775807 < lo then -9223372036854775808 else -(lo : Int) - (if rest then 1 else 0))
theorem told_clamp (same : Bool) (P : Nat) (rest : Bool) : told same (P / 18446744073709551616) (P % 18446744073709551616) rest = clamp (if same then (P : Int) else -(P : Int) - (if rest then 1 else 0)) := by
 unfold told clamp
 cases same <;> cases rest <;> simp only [if_true, if_false, Bool.false_eq_true] <;> (repeat' split) <;> omega
/-- is a below 0 just if b is? -/
def sameB (a b : Int) : Bool := decide (a < 0) == decide (b < 0)
theorem natAbs_mul_same {a b : Int} (h : sameB a b = true) : a * b = ((a.natAbs * b.natAbs : Nat) : Int) := by
 unfold sameB at h
 rw [beq_iff_eq, decide_eq_decide] at h
 by_cases ha : a < 0
 ·
  have hb := h.1 ha
  obtain ⟨x, rfl⟩ : ∃ x : Nat, a = -(x : Int) := ⟨a.natAbs, by omega⟩
  obtain ⟨y, rfl⟩ : ∃ y : Nat, b = -(y : Int) := ⟨b.natAbs, by omega⟩
  rw [Int.neg_mul_neg]; simp
 ·
  have hb : ¬ b < 0 := fun h' => ha (h.2 h')
  obtain ⟨x, rfl⟩ : ∃ x : Nat, a = (x : Int) := ⟨a.natAbs, by omega⟩
  obtain ⟨y, rfl⟩ : ∃ y : Nat, b = (y : Int) := ⟨b.natAbs, by omega⟩
  simp
theorem natAbs_mul_diff {a b : Int} (h : sameB a b = false) : a * b = -((a.natAbs * b.natAbs : Nat) : Int) := by
 unfold sameB at h
 rw [beq_eq_false_iff_ne, ne_eq, decide_eq_decide] at h
 by_cases ha : a < 0
 ·
  have hb : ¬ b < 0 := fun h' => h ⟨fun _ => h', fun _ => ha⟩
  obtain ⟨x, rfl⟩ : ∃ x : Nat, a = -(x : Int) := ⟨a.natAbs, by omega⟩
  obtain ⟨y, rfl⟩ : ∃ y : Nat, b = (y : Int) := ⟨b.natAbs, by omega⟩
  simp [Int.neg_mul]
 ·
  have hb : b < 0 := by
   rcases Int.lt_or_le b 0 with h' | h'
   ·
    exact h'
   ·
    exact absurd ⟨fun h1 => absurd h1 ha, fun h1 => by omega⟩ h
  obtain ⟨x, rfl⟩ : ∃ x : Nat, a = (x : Int) := ⟨a.natAbs, by omega⟩
  obtain ⟨y, rfl⟩ : ∃ y : Nat, b = -(y : Int) := ⟨b.natAbs, by omega⟩
  simp [Int.mul_neg]
theorem mulF_told (a b : Int) : told (sameB a b) (a.natAbs * b.natAbs / 4294967296 / 18446744073709551616) (a.natAbs * b.natAbs / 4294967296 % 18446744073709551616) (decide (a.natAbs * b.natAbs % 4294967296 ≠ 0)) = mulF a b := by
 rw [told_clamp]
 unfold mulF
 congr 1
 cases h : sameB a b
 ·
  rw [natAbs_mul_diff h]
  simp only [Bool.false_eq_true, if_false, decide_eq_true_eq]
  generalize a.natAbs * b.natAbs = X
  split <;> omega
 ·
  rw [natAbs_mul_same h]
  simp only [if_true]
  omega
theorem divF_told (a b : Int) (hb : b ≠ 0) : told (sameB a b) (a.natAbs * 4294967296 / b.natAbs / 18446744073709551616) (a.natAbs * 4294967296 / b.natAbs % 18446744073709551616) (decide (a.natAbs * 4294967296 % b.natAbs ≠ 0)) = divF a b := by
 rw [told_clamp]
 unfold divF
 rw [if_neg hb]
 have floor_neg : ∀ (X y : Nat), 0 < y → -(X : Int) / (y : Int) = -((X / y : Nat) : Int) - (if X % y ≠ 0 then 1 else 0) := by
  intro X y hy
  have e := Nat.div_add_mod X y
  have hm := Nat.mod_lt X hy
  have e2 : (X : Int) = (y : Int) * ((X / y : Nat) : Int) + ((X % y : Nat) : Int) := by exact_mod_cast e.symm
  by_cases h0 : X % y = 0
  ·
   simp only [h0, ne_eq, not_true, if_false]
   rw [e2, h0]
   rw [show -((y : Int) * ((X / y : Nat) : Int) + ((0 : Nat) : Int)) = (y : Int) * (-((X / y : Nat) : Int)) by rw [Int.mul_neg]; simp]
   rw [Int.mul_ediv_cancel_left _ (by omega)]
   omega
  ·
   simp only [ne_eq, h0, not_false_eq_true, if_true]
   rw [e2]
   rw [show -((y : Int) * ((X / y : Nat) : Int) + ((X % y : Nat) : Int)) = (y : Int) - ((X % y : Nat) : Int) + (-((X / y : Nat) : Int) - 1) * (y : Int) by rw [Int.sub_mul, Int.neg_mul, Int.mul_comm ((X / y : Nat) : Int)]; omega]
   rw [Int.add_mul_ediv_right _ _ (by omega)]
   rw [Int.ediv_eq_zero_of_lt (by omega) (by omega)]
   omega
 by_cases hpos : 0 < b
 ·
  rw [if_pos hpos]
  congr 1
  obtain ⟨y, rfl⟩ : ∃ y : Nat, b = (y : Int) := ⟨b.natAbs, by omega⟩
  have hy : 0 < y := by omega
  by_cases ha : a < 0
  ·
   have hs : sameB a (y : Int) = false := by unfold sameB; rw [decide_eq_true ha, decide_eq_false (by omega)]; rfl
   rw [hs]
   obtain ⟨x, rfl⟩ : ∃ x : Nat, a = -(x : Int) := ⟨a.natAbs, by omega⟩
   have := floor_neg (x * 4294967296) y hy
   simp only [Int.natAbs_neg, Int.natAbs_natCast, Bool.false_eq_true, if_false, decide_eq_true_eq]
   rw [← this]
   simp [Int.neg_mul]
  ·
   have hs : sameB a (y : Int) = true := by unfold sameB; rw [decide_eq_false ha, decide_eq_false (by omega)]; rfl
   rw [hs]
   obtain ⟨x, rfl⟩ : ∃ x : Nat, a = (x : Int) := ⟨a.natAbs, by omega⟩
   simp
 ·
  rw [if_neg hpos]
  congr 1
  obtain ⟨y, rfl⟩ : ∃ y : Nat, b = -(y : Int) := ⟨b.natAbs, by omega⟩
  have hy : 0 < y := by omega
  by_cases ha : a < 0
  ·
   have hs : sameB a (-(y : Int)) = true := by unfold sameB; rw [decide_eq_true ha, decide_eq_true (by omega)]; rfl
   rw [hs]
   obtain ⟨x, rfl⟩ : ∃ x : Nat, a = -(x : Int) := ⟨a.natAbs, by omega⟩
   simp [Int.neg_mul]
  ·
   have hs : sameB a (-(y : Int)) = false := by unfold sameB; rw [decide_eq_false ha, decide_eq_true (by omega)]; rfl
   rw [hs]
   obtain ⟨x, rfl⟩ : ∃ x : Nat, a = (x : Int) := ⟨a.natAbs, by omega⟩
   have := floor_neg (x * 4294967296) y hy
   simp only [Int.natAbs_neg, Int.natAbs_natCast, Bool.false_eq_true, if_false, decide_eq_true_eq]
   rw [← this]
   simp

/-! ### roots, bit by bit -/
theorem lt_of_sq {a b : Nat} (h : a * a < b * b) : a < b := by
 rcases Nat.lt_or_ge a b with h' | h'
 ·
  exact h'
 ·
  exact absurd (Nat.mul_le_mul h' h') (by omega)
def rootB (n : Nat) : Nat → Nat → Nat
 | 0, r => r
 | k + 1, r => if (r + 2 ^ k) * (r + 2 ^ k) ≤ n then rootB n k (r + 2 ^ k) else rootB n k r
theorem rootB_spec (n : Nat) : ∀ (k r : Nat), r * r ≤ n → n < (r + 2 ^ k) * (r + 2 ^ k) → rootB n k r * rootB n k r ≤ n ∧ n < (rootB n k r + 1) * (rootB n k r + 1) := by
 intro k
 induction k with
 | zero => intro r h1 h2; exact ⟨h1, by simpa [rootB] using h2⟩
 | succ k ih =>
  intro r h1 h2
  unfold rootB
  split
  ·
   rename_i h; exact ih _ h (by rw [show r + 2 ^ k + 2 ^ k = r + 2 ^ (k + 1) by rw [Nat.pow_succ]; omega]; exact h2)
  ·
   rename_i h; exact ih _ h1 (by omega)
theorem rootB_unique {n r s : Nat} (h1 : r * r ≤ n) (h2 : n < (r + 1) * (r + 1)) (h3 : s * s ≤ n) (h4 : n < (s + 1) * (s + 1)) : r = s := by
 have a : r < s + 1 := lt_of_sq (Nat.lt_of_le_of_lt h1 h4)
 have b : s < r + 1 := lt_of_sq (Nat.lt_of_le_of_lt h3 h2)
 omega
def root (n : Nat) : Nat := rootB n 48 0
theorem root_spec (n : Nat) (h : n < 79228162514264337593543950336) : root n * root n ≤ n ∧ n < (root n + 1) * (root n + 1) :=
 rootB_spec n 48 0 (by omega) (by simpa using h)
theorem root_eq {n r : Nat} (h : n < 79228162514264337593543950336) (h1 : r * r ≤ n) (h2 : n < (r + 1) * (r + 1)) : root n = r :=
 rootB_unique (root_spec n h).1 (root_spec n h).2 h1 h2
theorem root_lt (n : Nat) (h : n < 79228162514264337593543950336) : root n < 281474976710656 := by
 have := (root_spec n h).1
 exact lt_of_sq (Nat.lt_of_le_of_lt this (by simpa using h))
def sqrtF (a : Int) : Int := if a < 1 then 0 else ((root (a.toNat * 4294967296) : Nat) : Int)
theorem sqrtF_spec {a : Int} (h : 1 ≤ a) (h2 : a ≤ 9223372036854775807) : ∃ r : Nat, sqrtF a = (r : Int) ∧ r < 281474976710656 ∧ r * r ≤ a.toNat * 4294967296 ∧ a.toNat * 4294967296 < (r + 1) * (r + 1) := by
 have hlt : a.toNat * 4294967296 < 79228162514264337593543950336 := by omega
 refine ⟨root (a.toNat * 4294967296), by unfold sqrtF; rw [if_neg (by omega)], root_lt _ hlt, root_spec _ hlt⟩
theorem sqrtF_in (a : Int) (h2 : a ≤ 9223372036854775807) : 0 ≤ sqrtF a ∧ sqrtF a < 281474976710656 := by
 by_cases h : a < 1
 ·
  unfold sqrtF; rw [if_pos h]; omega
 ·
  obtain ⟨r, e, h, _⟩ := sqrtF_spec (by omega) h2; rw [e]; omega

theorem rootB_fit (n j r : Nat) (h : (r + 2 ^ j) * (r + 2 ^ j) ≤ n) : rootB n (j + 1) r = rootB n j (r + 2 ^ j) := by
 show (if (r + 2 ^ j) * (r + 2 ^ j) ≤ n then rootB n j (r + 2 ^ j) else rootB n j r) = _
 rw [if_pos h]
theorem rootB_skip (n j r : Nat) (h : ¬ (r + 2 ^ j) * (r + 2 ^ j) ≤ n) : rootB n (j + 1) r = rootB n j r := by
 show (if (r + 2 ^ j) * (r + 2 ^ j) ≤ n then rootB n j (r + 2 ^ j) else rootB n j r) = _
 rw [if_neg h]
theorem rootB_zero (n r : Nat) : rootB n 0 r = r := rfl
theorem rootB_start (n : Nat) : rootB n 48 0 = root n := rfl
theorem split_n (A : Nat) : A * 4294967296 = A / 4294967296 * 18446744073709551616 + A * 4294967296 % 18446744073709551616 := by omega
attribute [irreducible] rootB root

/-! ### sines -/
end Go.Proofs.YtdaokkgenfpmhaaGreat.FixM

/- The plain arithmetic of a division of 128 bits by 64 (math/bits.Div64: by halves), of a division bit by bit, and of a root by halving its span. No program is named here. -/
set_option linter.unusedVariables false
set_option linter.unusedSimpArgs false
namespace Go.Proofs.YtdaokkgenfpmhaaGreat.FixD

/-- one half of the division: what the loop's head keeps of the quotient q that it tries and of what is left, r -/
structure Half (yn1 yn0 u un : Nat) (q r : Nat) : Prop where
 sum : q * yn1 + r = u
 up : (u * 4294967296 + un) / (yn1 * 4294967296 + yn0) ≤ q
structure Pre (yn1 yn0 u un : Nat) : Prop where
 h1 : 2147483648 ≤ yn1
 h2 : yn1 < 4294967296
 h3 : yn0 < 4294967296
 h4 : u < yn1 * 4294967296 + yn0
 h5 : un < 4294967296
variable {yn1 yn0 u un q r : Nat}
theorem mulB (a b : Nat) : a * (b * 4294967296) = a * b * 4294967296 := by rw [Nat.mul_assoc]
theorem Half.start (p : Pre yn1 yn0 u un) : Half yn1 yn0 u un (u / yn1) (u % yn1) := by
 obtain ⟨h1, h2, h3, h4, h5⟩ := p
 refine ⟨by rw [Nat.mul_comm]; exact Nat.div_add_mod u yn1, ?_⟩
 rw [Nat.le_div_iff_mul_le (by omega)]
 have hle := Nat.div_mul_le_self (u * 4294967296 + un) (yn1 * 4294967296 + yn0)
 generalize (u * 4294967296 + un) / (yn1 * 4294967296 + yn0) = q' at *
 rw [Nat.mul_add, mulB] at hle
 have : q' * yn1 * 4294967296 < (u + 1) * 4294967296 := by omega
 have := Nat.lt_of_mul_lt_mul_right this
 omega
theorem start_r (p : Pre yn1 yn0 u un) : u % yn1 < 4294967296 := by have := Nat.mod_lt u (show yn1 > 0 by have := p.h1; omega); have := p.h2; omega
theorem start_q (p : Pre yn1 yn0 u un) : u / yn1 ≤ 4294967297 := by
 obtain ⟨h1, h2, h3, h4, h5⟩ := p
 have : u / yn1 < 4294967298 := by
  rw [Nat.div_lt_iff_lt_mul (by omega)]
  omega
 omega
theorem quo_lt (p : Pre yn1 yn0 u un) : (u * 4294967296 + un) / (yn1 * 4294967296 + yn0) < 4294967296 := by
 obtain ⟨h1, h2, h3, h4, h5⟩ := p
 rw [Nat.div_lt_iff_lt_mul (by omega)]
 omega
theorem Half.over (p : Pre yn1 yn0 u un) (h : Half yn1 yn0 u un q r) (hc : 4294967296 ≤ q ∨ 4294967296 * r + un < q * yn0) : (u * 4294967296 + un) / (yn1 * 4294967296 + yn0) < q := by
 rcases hc with hc | hc
 ·
  have := quo_lt p; omega
 ·
  have hs := h.sum
  rw [Nat.div_lt_iff_lt_mul (by have := p.h1; omega)]
  rw [Nat.mul_add, mulB]
  have : (q * yn1 + r) * 4294967296 = u * 4294967296 := by rw [hs]
  rw [Nat.add_mul] at this
  omega
theorem Half.pos (p : Pre yn1 yn0 u un) (h : Half yn1 yn0 u un q r) (hc : 4294967296 ≤ q ∨ 4294967296 * r + un < q * yn0) : 1 ≤ q := Nat.succ_le_of_lt (Nat.lt_of_le_of_lt (Nat.zero_le _) (h.over p hc))
theorem Half.next (p : Pre yn1 yn0 u un) (h : Half yn1 yn0 u un q r) (hc : 4294967296 ≤ q ∨ 4294967296 * r + un < q * yn0) : Half yn1 yn0 u un (q - 1) (r + yn1) := by
 have ho := h.over p hc
 have hs := h.sum
 refine ⟨?_, Nat.le_sub_one_of_lt ho⟩
 have hp := h.pos p hc
 clear ho
 obtain ⟨t, rfl⟩ : ∃ t, q = t + 1 := ⟨q - 1, by omega⟩
 rw [Nat.add_mul] at hs
 simp only [Nat.add_sub_cancel]
 omega
theorem Half.done (p : Pre yn1 yn0 u un) (h : Half yn1 yn0 u un q r) (hc : q * yn0 ≤ 4294967296 * r + un) : q = (u * 4294967296 + un) / (yn1 * 4294967296 + yn0) := by
 refine Nat.le_antisymm ?_ h.up
 have hs := h.sum
 rw [Nat.le_div_iff_mul_le (by have := p.h1; omega)]
 rw [Nat.mul_add, mulB]
 have : (q * yn1 + r) * 4294967296 = u * 4294967296 := by rw [hs]
 rw [Nat.add_mul] at this
 omega
theorem Half.broke (p : Pre yn1 yn0 u un) (h : Half yn1 yn0 u un q r) (hq : q ≤ 4294967296) (hr : 4294967296 ≤ r) : q = (u * 4294967296 + un) / (yn1 * 4294967296 + yn0) := by
 refine h.done p ?_
 have h3 := p.h3
 have : q * yn0 ≤ 4294967296 * 4294967295 := Nat.mul_le_mul hq (by omega)
 omega
theorem q_yn0 (p : Pre yn1 yn0 u un) (hq : q ≤ 4294967297) : q * yn0 ≤ 18446744073709551615 := by
 have h3 := p.h3
 have : q * yn0 ≤ 4294967297 * 4294967295 := Nat.mul_le_mul hq (by omega)
 omega
/-- what is left behind a half -/
theorem left_eq (p : Pre yn1 yn0 u un) (hq : q = (u * 4294967296 + un) / (yn1 * 4294967296 + yn0)) : u * 4294967296 + un = q * (yn1 * 4294967296 + yn0) + (u * 4294967296 + un) % (yn1 * 4294967296 + yn0) := by
 rw [hq]; exact (Nat.div_add_mod' _ _).symm
theorem left_lt (p : Pre yn1 yn0 u un) : (u * 4294967296 + un) % (yn1 * 4294967296 + yn0) < yn1 * 4294967296 + yn0 := Nat.mod_lt _ (by have := p.h1; omega)

/-- both halves together -/
theorem whole_gen (y X B b : Nat) (hy : 0 < y) : (X * B + b) / y = X / y * B + (X % y * B + b) / y ∧ (X * B + b) % y = (X % y * B + b) % y := by
 have e2 : X * B + b = y * (X / y * B) + (X % y * B + b) := by
  have e := Nat.div_add_mod X y
  calc X * B + b = (y * (X / y) + X % y) * B + b := by rw [e]
   _ = _ := by rw [Nat.add_mul, Nat.mul_assoc, Nat.add_assoc]
 refine ⟨?_, ?_⟩
 ·
  conv => lhs; rw [e2]
  rw [Nat.mul_add_div hy]
 ·
  conv => lhs; rw [e2]
  rw [Nat.mul_add_mod]
theorem whole_quo (y u a b : Nat) (hy : 0 < y) : ((u * 4294967296 + a) * 4294967296 + b) / y = (u * 4294967296 + a) / y * 4294967296 + ((u * 4294967296 + a) % y * 4294967296 + b) / y ∧
  ((u * 4294967296 + a) * 4294967296 + b) % y = ((u * 4294967296 + a) % y * 4294967296 + b) % y := whole_gen y (u * 4294967296 + a) 4294967296 b hy
/-- turned up by s bits -/
theorem shl_two (hi lo s : Nat) (hs : s < 64) : (hi * 2 ^ s + lo / 2 ^ (64 - s)) * 18446744073709551616 + lo * 2 ^ s % 18446744073709551616 = (hi * 18446744073709551616 + lo) * 2 ^ s := by
 have e : lo * 2 ^ s / 18446744073709551616 = lo / 2 ^ (64 - s) := by
  rw [show (18446744073709551616 : Nat) = 2 ^ (64 - s) * 2 ^ s by rw [← Nat.pow_add, show 64 - s + s = 64 by omega]]
  exact Nat.mul_div_mul_right _ _ (Nat.two_pow_pos s)
 have h := Nat.div_add_mod (lo * 2 ^ s) 18446744073709551616
 rw [e] at h
 rw [Nat.add_mul, Nat.add_mul, Nat.add_assoc, Nat.mul_comm (lo / 2 ^ (64 - s)), h]
 rw [Nat.mul_assoc, Nat.mul_assoc, Nat.mul_comm (2 ^ s)]
theorem shl_quo (N y s : Nat) : N * 2 ^ s / (y * 2 ^ s) = N / y := Nat.mul_div_mul_right _ _ (Nat.two_pow_pos s)
theorem shl_rem (N y s : Nat) : N * 2 ^ s % (y * 2 ^ s) / 2 ^ s = N % y := by
 rw [Nat.mul_mod_mul_right, Nat.mul_div_cancel _ (Nat.two_pow_pos s)]
theorem shl_below (hi lo y s : Nat) (hs : s < 64) (h : hi < y) (hl : lo < 18446744073709551616) : hi * 2 ^ s + lo / 2 ^ (64 - s) < y * 2 ^ s := by
 have h1 : lo / 2 ^ (64 - s) < 2 ^ s := by
  rw [Nat.div_lt_iff_lt_mul (Nat.two_pow_pos _), ← Nat.pow_add, show s + (64 - s) = 64 by omega]; exact hl
 have h2 : (hi + 1) * 2 ^ s ≤ y * 2 ^ s := Nat.mul_le_mul_right _ h
 rw [Nat.add_mul, Nat.one_mul] at h2
 omega

/-! ### one bit more -/
/-- X's bits from i on, divided: the next bit -/
theorem bit_step (Y y : Nat) (b : Nat) (hb : b ≤ 1) (hy : 0 < y) : (2 * Y + b) / y = 2 * (Y / y) + (if y ≤ 2 * (Y % y) + b then 1 else 0) ∧ (2 * Y + b) % y = (if y ≤ 2 * (Y % y) + b then 2 * (Y % y) + b - y else 2 * (Y % y) + b) := by
 have e := Nat.div_add_mod Y y
 have hm := Nat.mod_lt Y hy
 generalize Y / y = q at *
 generalize Y % y = r at *
 subst e
 have e2 : 2 * (y * q + r) + b = y * (2 * q) + (2 * r + b) := by rw [Nat.mul_add, Nat.mul_left_comm]; omega
 rw [e2, Nat.mul_add_div hy, Nat.mul_add_mod]
 split
 ·
  rename_i h
  have h3 : 2 * r + b = y * 1 + (2 * r + b - y) := by omega
  have h4 : 2 * r + b - y < y := by omega
  refine ⟨?_, ?_⟩
  ·
   rw [h3, Nat.mul_add_div hy, Nat.div_eq_of_lt h4]
  ·
   rw [h3, Nat.mul_add_mod, Nat.mod_eq_of_lt h4, ← h3]
 ·
  rename_i h
  refine ⟨?_, ?_⟩
  ·
   rw [Nat.div_eq_of_lt (by omega)]
  ·
   rw [Nat.mod_eq_of_lt (by omega)]
/-- the bits from i on: those from i + 1 on, and bit i -/
theorem shr_step (X i : Nat) : X / 2 ^ i = 2 * (X / 2 ^ (i + 1)) + X / 2 ^ i % 2 := by
 rw [Nat.pow_succ, ← Nat.div_div_eq_div_mul]; omega
end Go.Proofs.YtdaokkgenfpmhaaGreat.FixD

/- What layer 1's numbers answer: sums and products do not hang on order, what is greater stays greater, quotients and roots are right within one. Plain arithmetic: no program is named here. -/
set_option linter.unusedVariables false
set_option linter.unusedSimpArgs false
namespace Go.Proofs.YtdaokkgenfpmhaaGreat.FixP
open FixM

end Go.Proofs.YtdaokkgenfpmhaaGreat.FixP

/- The walks of package fix and of its reference: sums, differences, signs, whole numbers. -/
set_option linter.unusedVariables false
set_option linter.unusedSimpArgs false
namespace Go.Proofs.YtdaokkgenfpmhaaGreat.FixW
open Go.RowKit FixM Base Num

theorem clamp_top {x : Int} (h : 9223372036854775807 < x) : clamp x = 9223372036854775807 := by unfold clamp; rw [if_neg (by omega), if_pos h]
theorem clamp_bot {x : Int} (h : x < -9223372036854775808) : clamp x = -9223372036854775808 := by unfold clamp; rw [if_pos h]

set_option maxHeartbeats 1000000 in
theorem add_any (a b : Int) (ha1 : -9223372036854775808 ≤ a) (ha2 : a ≤ 9223372036854775807) (hb1 : -9223372036854775808 ≤ b) (hb2 : b ≤ 9223372036854775807) (w : World) :
  Calls Tryz.prog 41 #[.int .i64 a, .int .i64 b] w fun e w' => e = .returned (.int .i64 (addF a b)) ∧ w = w' := by
 by_cases h1 : 9223372036854775807 < a + b
 ·
  have HV := Lib.hid (show addF a b = _ from clamp_top h1)
  have p0 : 0 < b := by omega
  have p1 : 9223372036854775807 - b < a := by omega
  clear h1
  go_enter Tryz.func41, Tryz.ntmps41
  go_wp2_with fail
  go_ret
  exact ⟨ret_int HV.out.symm, rfl⟩
 ·
  by_cases h2 : a + b < -9223372036854775808
  ·
   have HV := Lib.hid (show addF a b = _ from clamp_bot h2)
   have p0 : b < 0 := by omega
   have p1 : a < -9223372036854775808 - b := by omega
   clear h1 h2
   go_enter Tryz.func41, Tryz.ntmps41
   go_wp2_with fail
   go_ret
   exact ⟨ret_int HV.out.symm, rfl⟩
  ·
   have HV := Lib.hid (show addF a b = a + b from clamp_id (by omega) (by omega))
   by_cases c0 : 0 < b
   ·
    have p0 : a ≤ 9223372036854775807 - b := by omega
    clear h1 h2
    go_enter Tryz.func41, Tryz.ntmps41
    go_wp2_with fail
    go_ret
    exact ⟨ret_int HV.out.symm, rfl⟩
   ·
    skip
    by_cases c1 : b < 0
    ·
     have p0 : -9223372036854775808 - b ≤ a := by omega
     clear h1 h2
     go_enter Tryz.func41, Tryz.ntmps41
     go_wp2_with fail
     go_ret
     exact ⟨ret_int HV.out.symm, rfl⟩
    ·
     skip
     have p0 : b = 0 := by omega
     clear h1 h2
     go_enter Tryz.func41, Tryz.ntmps41
     go_wp2_with fail
     go_ret
     subst p0
     exact ⟨ret_int (by have h := HV.out; omega), rfl⟩

set_option maxHeartbeats 1000000 in
theorem sub_any (a b : Int) (ha1 : -9223372036854775808 ≤ a) (ha2 : a ≤ 9223372036854775807) (hb1 : -9223372036854775808 ≤ b) (hb2 : b ≤ 9223372036854775807) (w : World) :
  Calls Tryz.prog 40 #[.int .i64 a, .int .i64 b] w fun e w' => e = .returned (.int .i64 (subF a b)) ∧ w = w' := by
 by_cases h1 : 9223372036854775807 < a - b
 ·
  have HV := Lib.hid (show subF a b = _ from clamp_top h1)
  have p0 : b < 0 := by omega
  have p1 : 9223372036854775807 + b < a := by omega
  clear h1
  go_enter Tryz.func40, Tryz.ntmps40
  go_wp2_with fail
  go_ret
  exact ⟨ret_int HV.out.symm, rfl⟩
 ·
  by_cases h2 : a - b < -9223372036854775808
  ·
   have HV := Lib.hid (show subF a b = _ from clamp_bot h2)
   have p0 : 0 < b := by omega
   have p1 : a < -9223372036854775808 + b := by omega
   clear h1 h2
   go_enter Tryz.func40, Tryz.ntmps40
   go_wp2_with fail
   go_ret
   exact ⟨ret_int HV.out.symm, rfl⟩
  ·
   have HV := Lib.hid (show subF a b = a - b from clamp_id (by omega) (by omega))
   by_cases c0 : b < 0
   ·
    have p0 : a ≤ 9223372036854775807 + b := by omega
    clear h1 h2
    go_enter Tryz.func40, Tryz.ntmps40
    go_wp2_with fail
    go_ret
    exact ⟨ret_int HV.out.symm, rfl⟩
   ·
    skip
    by_cases c1 : 0 < b
    ·
     have p0 : -9223372036854775808 + b ≤ a := by omega
     clear h1 h2
     go_enter Tryz.func40, Tryz.ntmps40
     go_wp2_with fail
     go_ret
     exact ⟨ret_int HV.out.symm, rfl⟩
    ·
     skip
     have p0 : b = 0 := by omega
     clear h1 h2
     go_enter Tryz.func40, Tryz.ntmps40
     go_wp2_with fail
     go_ret
     subst p0
     exact ⟨ret_int (by have h := HV.out; omega), rfl⟩

set_option maxHeartbeats 1000000 in
theorem radd_any (a b : Int) (ha1 : -9223372036854775808 ≤ a) (ha2 : a ≤ 9223372036854775807) (hb1 : -9223372036854775808 ≤ b) (hb2 : b ≤ 9223372036854775807) (w : World) :
  Calls Tryz.prog 70 #[.int .i64 a, .int .i64 b] w fun e w' => e = .returned (.int .i64 (addF a b)) ∧ w = w' := by
 by_cases h1 : 9223372036854775807 < a + b
 ·
  have HV := Lib.hid (show addF a b = _ from clamp_top h1)
  have p0 : 0 ≤ a := by omega
  have p1 : 9223372036854775807 - a < b := by omega
  clear h1
  go_enter Tryz.func70, Tryz.ntmps70
  go_wp2_with fail
  go_ret
  exact ⟨ret_int HV.out.symm, rfl⟩
 ·
  by_cases h2 : a + b < -9223372036854775808
  ·
   have HV := Lib.hid (show addF a b = _ from clamp_bot h2)
   have p0 : a < 0 := by omega
   have p1 : b < -9223372036854775808 - a := by omega
   clear h1 h2
   go_enter Tryz.func70, Tryz.ntmps70
   go_wp2_with fail
   go_ret
   exact ⟨ret_int HV.out.symm, rfl⟩
  ·
   have HV := Lib.hid (show addF a b = a + b from clamp_id (by omega) (by omega))
   by_cases c0 : 0 ≤ a
   ·
    have p0 : b ≤ 9223372036854775807 - a := by omega
    clear h1 h2
    go_enter Tryz.func70, Tryz.ntmps70
    go_wp2_with fail
    go_ret
    exact ⟨ret_int HV.out.symm, rfl⟩
   ·
    skip
    have p0 : a < 0 := by omega
    have p1 : -9223372036854775808 - a ≤ b := by omega
    clear h1 h2
    go_enter Tryz.func70, Tryz.ntmps70
    go_wp2_with fail
    go_ret
    exact ⟨ret_int HV.out.symm, rfl⟩

set_option maxHeartbeats 1000000 in
theorem rsub_any (a b : Int) (ha1 : -9223372036854775808 ≤ a) (ha2 : a ≤ 9223372036854775807) (hb1 : -9223372036854775808 ≤ b) (hb2 : b ≤ 9223372036854775807) (w : World) :
  Calls Tryz.prog 69 #[.int .i64 a, .int .i64 b] w fun e w' => e = .returned (.int .i64 (subF a b)) ∧ w = w' := by
 by_cases h1 : 9223372036854775807 < a - b
 ·
  have HV := Lib.hid (show subF a b = _ from clamp_top h1)
  have p0 : b < 0 := by omega
  have p1 : 9223372036854775807 + b < a := by omega
  clear h1
  go_enter Tryz.func69, Tryz.ntmps69
  go_wp2_with fail
  go_ret
  exact ⟨ret_int HV.out.symm, rfl⟩
 ·
  by_cases h2 : a - b < -9223372036854775808
  ·
   have HV := Lib.hid (show subF a b = _ from clamp_bot h2)
   have p0 : 0 ≤ b := by omega
   have p1 : a < -9223372036854775808 + b := by omega
   clear h1 h2
   go_enter Tryz.func69, Tryz.ntmps69
   go_wp2_with fail
   go_ret
   exact ⟨ret_int HV.out.symm, rfl⟩
  ·
   have HV := Lib.hid (show subF a b = a - b from clamp_id (by omega) (by omega))
   by_cases c0 : 0 ≤ b
   ·
    have p0 : -9223372036854775808 + b ≤ a := by omega
    clear h1 h2
    go_enter Tryz.func69, Tryz.ntmps69
    go_wp2_with fail
    go_ret
    exact ⟨ret_int HV.out.symm, rfl⟩
   ·
    skip
    have p0 : b < 0 := by omega
    have p1 : a ≤ 9223372036854775807 + b := by omega
    clear h1 h2
    go_enter Tryz.func69, Tryz.ntmps69
    go_wp2_with fail
    go_ret
    exact ⟨ret_int HV.out.symm, rfl⟩

set_option maxHeartbeats 1000000 in
theorem neg_any (a : Int) (ha1 : -9223372036854775808 ≤ a) (ha2 : a ≤ 9223372036854775807) (w : World) :
  Calls Tryz.prog 92 #[.int .i64 a] w fun e w' => e = .returned (.int .i64 (negF a)) ∧ w = w' := by
 by_cases h1 : a = -9223372036854775808
 ·
  subst h1
  go_enter Tryz.func92, Tryz.ntmps92
  go_wp2_with fail
  go_ret
  exact ⟨rfl, rfl⟩
 ·
  have HV := Lib.hid (show negF a = -a from clamp_id (by omega) (by omega))
  have p0 : (a == -9223372036854775808) = false := by simp; omega
  have p1 : -9223372036854775808 < a := by omega
  clear h1
  go_enter Tryz.func92, Tryz.ntmps92
  go_wp2_with fail
  go_ret
  exact ⟨ret_int (by rw [HV.out]; try omega), rfl⟩

set_option maxHeartbeats 1000000 in
theorem rneg_any (a : Int) (ha1 : -9223372036854775808 ≤ a) (ha2 : a ≤ 9223372036854775807) (w : World) :
  Calls Tryz.prog 102 #[.int .i64 a] w fun e w' => e = .returned (.int .i64 (negF a)) ∧ w = w' := by
 by_cases h1 : a = -9223372036854775808
 ·
  subst h1
  go_enter Tryz.func102, Tryz.ntmps102
  go_wp2_with fail
  go_ret
  exact ⟨rfl, rfl⟩
 ·
  have HV := Lib.hid (show negF a = -a from clamp_id (by omega) (by omega))
  have p0 : (a == -9223372036854775808) = false := by simp; omega
  have p1 : -9223372036854775808 < a := by omega
  clear h1
  go_enter Tryz.func102, Tryz.ntmps102
  go_wp2_with fail
  go_ret
  exact ⟨ret_int (by rw [HV.out]; try omega), rfl⟩

end Go.Proofs.YtdaokkgenfpmhaaGreat.FixW

/- The walks of package fix and of its reference: signs, sizes, whole numbers, products. -/
set_option linter.unusedVariables false
set_option linter.unusedSimpArgs false
namespace Go.Proofs.YtdaokkgenfpmhaaGreat.FixV
open Go.RowKit FixM Base Num FixW

set_option maxHeartbeats 1000000 in
theorem size_any (a : Int) (h1 : -9223372036854775808 ≤ a) (h2 : a ≤ 9223372036854775807) (w : World) : Calls Tryz.prog 72 #[.int .i64 a] w fun e w' => e = .returned (.int .u64 ((a.natAbs : Nat) : Int)) ∧ w = w' := by
 by_cases h : a < 0
 ·
  go_enter Tryz.func72, Tryz.ntmps72
  go_wp2_with fail
  go_ret
  refine ⟨ret_int ?_, rfl⟩
  simp only [IntKind.wrap_u64]; omega
 ·
  go_enter Tryz.func72, Tryz.ntmps72
  go_wp2_with fail
  go_ret
  refine ⟨ret_int ?_, rfl⟩
  (try simp only [IntKind.wrap_u64]); omega
set_option maxHeartbeats 1000000 in
theorem rsize_any (a : Int) (h1 : -9223372036854775808 ≤ a) (h2 : a ≤ 9223372036854775807) (w : World) : Calls Tryz.prog 95 #[.int .i64 a] w fun e w' => e = .returned (.int .u64 ((a.natAbs : Nat) : Int)) ∧ w = w' := by
 by_cases h : a < 0
 ·
  go_enter Tryz.func95, Tryz.ntmps95
  go_wp2_with fail
  go_ret
  refine ⟨ret_int ?_, rfl⟩
  simp only [IntKind.wrap_u64]; omega
 ·
  go_enter Tryz.func95, Tryz.ntmps95
  go_wp2_with fail
  go_ret
  refine ⟨ret_int ?_, rfl⟩
  (try simp only [IntKind.wrap_u64]); omega
/-- the function of sizes that signs hands back -/
def toldV (same : Bool) : Value := if same then .func (.func 87) #[] #[] else .func (.func 88) #[] #[]
set_option maxHeartbeats 1000000 in
theorem signs_any (a b : Int) (w : World) : Calls Tryz.prog 71 #[.int .i64 a, .int .i64 b] w fun e w' => e = .returned (toldV (sameB a b)) ∧ w = w' := by
 by_cases ha : a < 0 <;> by_cases hb : b < 0
 ·
  have HV := Lib.hid (show sameB a b = true by unfold sameB; rw [decide_eq_true ha, decide_eq_true hb]; rfl)
  go_enter Tryz.func71, Tryz.ntmps71
  go_wp2_with fail
  go_ret
  exact ⟨by rw [HV.out]; rfl, rfl⟩
 ·
  have HV := Lib.hid (show sameB a b = false by unfold sameB; rw [decide_eq_true ha, decide_eq_false hb]; rfl)
  go_enter Tryz.func71, Tryz.ntmps71
  go_wp2_with fail
  go_ret
  exact ⟨by rw [HV.out]; rfl, rfl⟩
 ·
  have HV := Lib.hid (show sameB a b = false by unfold sameB; rw [decide_eq_false ha, decide_eq_true hb]; rfl)
  go_enter Tryz.func71, Tryz.ntmps71
  go_wp2_with fail
  go_ret
  exact ⟨by rw [HV.out]; rfl, rfl⟩
 ·
  have HV := Lib.hid (show sameB a b = true by unfold sameB; rw [decide_eq_false ha, decide_eq_false hb]; rfl)
  go_enter Tryz.func71, Tryz.ntmps71
  go_wp2_with fail
  go_ret
  exact ⟨by rw [HV.out]; rfl, rfl⟩
set_option maxHeartbeats 1000000 in
theorem told1_any (hi lo : Nat) (rest : Bool) (hl : lo < 18446744073709551616) (w : World) : Calls Tryz.prog 87 #[.int .u64 (hi : Int), .int .u64 (lo : Int), .bool rest] w fun e w' => e = .returned (.int .i64 (told true hi lo rest)) ∧ w = w' := by
 by_cases h1 : hi = 0
 ·
  by_cases h2 : 9223372036854775807 < lo
  ·
   have HV := Lib.hid (show told true hi lo rest = 9223372036854775807 by unfold told; rw [if_pos rfl, if_pos (Or.inr h2)])
   have b1 : ((hi : Int) != 0) = false := by simp; omega
   clear h1
   go_enter Tryz.func87, Tryz.ntmps87
   go_wp2_with fail
   go_ret
   exact ⟨ret_int HV.out.symm, rfl⟩
  ·
   have HV := Lib.hid (show told true hi lo rest = (lo : Int) by unfold told; rw [if_pos rfl, if_neg (by omega)])
   have b1 : ((hi : Int) != 0) = false := by simp; omega
   clear h1
   go_enter Tryz.func87, Tryz.ntmps87
   go_wp2_with fail
   go_ret
   exact ⟨ret_int (by rw [HV.out]; try omega), rfl⟩
 ·
  have HV := Lib.hid (show told true hi lo rest = 9223372036854775807 by unfold told; rw [if_pos rfl, if_pos (Or.inl h1)])
  have b1 : ((hi : Int) != 0) = true := by simp; omega
  clear h1
  go_enter Tryz.func87, Tryz.ntmps87
  go_wp2_with fail
  go_ret
  exact ⟨ret_int HV.out.symm, rfl⟩
set_option maxHeartbeats 1000000 in
theorem told2_any (hi lo : Nat) (rest : Bool) (hl : lo < 18446744073709551616) (w : World) : Calls Tryz.prog 88 #[.int .u64 (hi : Int), .int .u64 (lo : Int), .bool rest] w fun e w' => e = .returned (.int .i64 (told false hi lo rest)) ∧ w = w' := by
 by_cases h1 : hi = 0
 ·
  by_cases h2 : 9223372036854775807 < lo
  ·
   have HV := Lib.hid (show told false hi lo rest = -9223372036854775808 by unfold told; rw [if_neg (by decide), if_pos (Or.inr h2)])
   have b1 : ((hi : Int) != 0) = false := by simp; omega
   clear h1
   go_enter Tryz.func88, Tryz.ntmps88
   go_wp2_with fail
   go_ret
   exact ⟨ret_int HV.out.symm, rfl⟩
  ·
   have HV := Lib.hid (show told false hi lo rest = -(lo : Int) - (if rest then 1 else 0) by unfold told; rw [if_neg (by decide), if_neg (by omega)])
   have b1 : ((hi : Int) != 0) = false := by simp; omega
   clear h1
   cases rest
   ·
    go_enter Tryz.func88, Tryz.ntmps88
    go_wp2_with fail
    go_ret
    exact ⟨ret_int (by rw [HV.out]; simp), rfl⟩
   ·
    go_enter Tryz.func88, Tryz.ntmps88
    go_wp2_with fail
    go_ret
    exact ⟨ret_int (by rw [HV.out]; simp), rfl⟩
 ·
  have HV := Lib.hid (show told false hi lo rest = -9223372036854775808 by unfold told; rw [if_neg (by decide), if_pos (Or.inl h1)])
  have b1 : ((hi : Int) != 0) = true := by simp; omega
  clear h1
  go_enter Tryz.func88, Tryz.ntmps88
  go_wp2_with fail
  go_ret
  exact ⟨ret_int HV.out.symm, rfl⟩

theorem maskN (a : Nat) (ha : a < 18446744073709551616) : bits .and .u64 (a : Int) 4294967295 = ((a % 4294967296 : Nat) : Int) := by
 have h := bits_and_u64_nat a 4294967295 ha (by omega)
 have e : a &&& 4294967295 = a % 4294967296 := Nat.and_two_pow_sub_one_eq_mod a 32
 rw [e] at h
 exact h
theorem divN (a : Nat) : (a : Int) / 4294967296 = ((a / 4294967296 : Nat) : Int) := by omega
theorem wrapN (a : Nat) (ha : a < 18446744073709551616) : IntKind.u64.wrap (a : Int) = (a : Int) := by rw [IntKind.wrap_u64]; omega
set_option maxHeartbeats 1000000 in
theorem mul64_any (x y : Nat) (hx : x < 18446744073709551616) (hy : y < 18446744073709551616) (w : World) :
  Calls Tryz.prog 113 #[.int .u64 (x : Int), .int .u64 (y : Int)] w fun e w' => e = .returned (.tuple #[.int .u64 ((x * y / 18446744073709551616 : Nat) : Int), .int .u64 ((x * y % 18446744073709551616 : Nat) : Int)]) ∧ w = w' := by
 obtain ⟨bd, bt, bw, hhi⟩ := Lib.mul64_hi x y hx hy
 have ba := Lib.half_mul_le (a := x / 4294967296) (b := y / 4294967296) (by omega) (by omega)
 have bb := Lib.half_mul_le (a := x / 4294967296) (b := y % 4294967296) (by omega) (by omega)
 have bc := Lib.half_mul_le (a := x % 4294967296) (b := y / 4294967296) (by omega) (by omega)
 have ba' : x / 4294967296 * (y / 4294967296) < 18446744073709551616 := by omega
 have bb' : x / 4294967296 * (y % 4294967296) < 18446744073709551616 := by omega
 have bc' : x % 4294967296 * (y / 4294967296) < 18446744073709551616 := by omega
 have bh1 : x / 4294967296 * (y / 4294967296) + (x / 4294967296 * (y % 4294967296) + x % 4294967296 * (y % 4294967296) / 4294967296) / 4294967296 < 18446744073709551616 := by omega
 have bh : x / 4294967296 * (y / 4294967296) + (x / 4294967296 * (y % 4294967296) + x % 4294967296 * (y % 4294967296) / 4294967296) / 4294967296 + ((x / 4294967296 * (y % 4294967296) + x % 4294967296 * (y % 4294967296) / 4294967296) % 4294967296 + x % 4294967296 * (y / 4294967296)) / 4294967296 < 18446744073709551616 := by omega
 go_enter Tryz.func113, Tryz.ntmps113
 go_wp2
 simp only [maskN x hx, maskN y hy, divN, natMul, natAdd, wrapN _ bd, wrapN _ bb', wrapN _ bt, maskN _ bt, wrapN _ bc', wrapN _ bw, wrapN _ ba', wrapN _ bh1, wrapN _ bh, wrap64u (x * y)]
 rw [hhi]
 go_ret2
 exact ⟨rfl, rfl⟩
end Go.Proofs.YtdaokkgenfpmhaaGreat.FixV

/- The walks of package fix and of its reference: products, whole numbers. -/
set_option linter.unusedVariables false
set_option linter.unusedSimpArgs false
namespace Go.Proofs.YtdaokkgenfpmhaaGreat.FixU
open Go.RowKit FixM Base Num FixW FixV

theorem u64_or_nat (a b : Nat) (ha : a < 18446744073709551616) (hb : b < 18446744073709551616) : bits .or .u64 (a : Int) (b : Int) = ((a ||| b : Nat) : Int) :=
 (bits_nat .u64 64 (by decide) (fun n h0 h1 => by rw [IntKind.wrap_u64]; omega) a b (by omega) (by omega)).2
theorem or_halves (hi lo : Nat) (hl : lo < 18446744073709551616) : bits .or .u64 (IntKind.u64.wrap ((hi : Int) * 4294967296)) ((lo : Int) / 4294967296) = ((hi % 4294967296 * 4294967296 + lo / 4294967296 : Nat) : Int) := by
 have e1 : IntKind.u64.wrap ((hi : Int) * 4294967296) = ((hi % 4294967296 * 4294967296 : Nat) : Int) := by rw [IntKind.wrap_u64]; omega
 have e2 : (lo : Int) / 4294967296 = ((lo / 4294967296 : Nat) : Int) := by omega
 rw [e1, e2, u64_or_nat _ _ (by omega) (by omega)]
 have := or_disjoint (hi % 4294967296) (lo / 4294967296) 32 (by show _ < 4294967296; omega)
 rw [show (2 : Nat) ^ 32 = 4294967296 from rfl] at this
 rw [this]
theorem mul_args (X hi lo : Nat) (h1 : hi = X / 18446744073709551616) (h2 : lo = X % 18446744073709551616) :
  (hi : Int) / 4294967296 = ((X / 4294967296 / 18446744073709551616 : Nat) : Int) ∧
  bits .or .u64 (IntKind.u64.wrap ((hi : Int) * 4294967296)) ((lo : Int) / 4294967296) = ((X / 4294967296 % 18446744073709551616 : Nat) : Int) ∧
  (IntKind.u64.wrap ((lo : Int) * 4294967296) != 0) = decide (X % 4294967296 ≠ 0) := by
 refine ⟨by omega, ?_, ?_⟩
 ·
  rw [or_halves hi lo (by omega)]; omega
 ·
  rw [IntKind.wrap_u64, Bool.eq_iff_iff, bne_iff_ne, decide_eq_true_iff]; omega
set_option maxHeartbeats 1000000 in
theorem mul_any (a b : Int) (ha1 : -9223372036854775808 ≤ a) (ha2 : a ≤ 9223372036854775807) (hb1 : -9223372036854775808 ≤ b) (hb2 : b ≤ 9223372036854775807) (w : World) : Calls Tryz.prog 90 #[.int .i64 a, .int .i64 b] w fun e w' => e = .returned (.int .i64 (mulF a b)) ∧ w = w' := by
 have ht := mulF_told a b
 have m1 := mul64_any a.natAbs b.natAbs (by omega) (by omega) w
 obtain ⟨X, hX⟩ : ∃ X, X = a.natAbs * b.natAbs := ⟨_, rfl⟩
 rw [← hX] at ht m1
 obtain ⟨hi, hhi⟩ : ∃ hi, hi = X / 18446744073709551616 := ⟨_, rfl⟩
 obtain ⟨lo, hlo⟩ : ∃ lo, lo = X % 18446744073709551616 := ⟨_, rfl⟩
 rw [← hhi, ← hlo] at m1
 have bhi : hi < 18446744073709551616 := by
  have : a.natAbs * b.natAbs ≤ 9223372036854775808 * 9223372036854775808 := Nat.mul_le_mul (by omega) (by omega)
  omega
 have blo : lo < 18446744073709551616 := by omega
 have T := Lib.hid ht
 have M1 := Lib.hid m1
 have HX := Lib.hid (And.intro hhi hlo)
 clear ht m1 hX hhi hlo
 cases hs : sameB a b
 all_goals
  have HS := Lib.hid hs
  clear hs
  go_enter Tryz.func90, Tryz.ntmps90
  go_wp2_with fail
  refine (signs_any a b _).mono ?_
  rintro e w1 ⟨rfl, rfl⟩
  rw [HS.out]
  unfold toldV
  simp only [if_true, if_false, Bool.false_eq_true]
  go_wp2_with fail
  refine (size_any a ha1 ha2 _).mono ?_
  rintro e w1 ⟨rfl, rfl⟩
  go_wp2_with fail
  refine (size_any b hb1 hb2 _).mono ?_
  rintro e w1 ⟨rfl, rfl⟩
  go_wp2_with fail
  refine M1.out.mono ?_
  rintro e w1 ⟨rfl, rfl⟩
  go_wp2_with fail
  obtain ⟨eA, eB, eC⟩ := mul_args X hi lo HX.out.1 HX.out.2
  rw [eA, eB, eC]
  clear eA eB eC
  (first | (with_reducible refine (told1_any _ _ _ (Nat.mod_lt _ (by decide)) _).mono ?_) | (with_reducible refine (told2_any _ _ _ (Nat.mod_lt _ (by decide)) _).mono ?_))
  rintro e w1 ⟨rfl, rfl⟩
  have HT := T.out
  rw [HS.out] at HT
  rw [HT]
  clear HT
  go_wp2_with fail
  go_ret
  exact ⟨rfl, rfl⟩
end Go.Proofs.YtdaokkgenfpmhaaGreat.FixU

/- The walks of layer 1's reference: numbers brought in, products by halves, whole numbers. -/
set_option linter.unusedVariables false
set_option linter.unusedSimpArgs false
namespace Go.Proofs.YtdaokkgenfpmhaaGreat.FixT
open Go.RowKit FixM Base Num FixW FixV FixU

set_option maxRecDepth 100000 in
set_option maxHeartbeats 2000000 in
theorem in_any (hi lo : Nat) (neg rest : Bool) (hh : hi < 18446744073709551615) (hl : lo < 18446744073709551616) (w : World) : Calls Tryz.prog 96 #[.int .u64 (hi : Int), .int .u64 (lo : Int), .bool neg, .bool rest] w fun e w' => e = .returned (.int .i64 (told (!neg) hi lo rest)) ∧ w = w' := by
 cases neg
 ·
  by_cases h1 : 0 < hi
  ·
   have HV := Lib.hid (show told (!false) hi lo rest = 9223372036854775807 by unfold told; rw [if_pos (show (!false) = true from rfl), if_pos (by omega)])
   go_enter Tryz.func96, Tryz.ntmps96
   go_wp2_with fail
   go_ret
   exact ⟨ret_int HV.out.symm, rfl⟩
  ·
   by_cases h2 : 9223372036854775807 < lo
   ·
    have HV := Lib.hid (show told (!false) hi lo rest = 9223372036854775807 by unfold told; rw [if_pos (show (!false) = true from rfl), if_pos (by omega)])
    go_enter Tryz.func96, Tryz.ntmps96
    go_wp2_with fail
    go_ret
    exact ⟨ret_int HV.out.symm, rfl⟩
   ·
    have HV := Lib.hid (show told (!false) hi lo rest = (lo : Int) by unfold told; rw [if_pos (show (!false) = true from rfl), if_neg (by omega)])
    go_enter Tryz.func96, Tryz.ntmps96
    go_wp2_with fail
    go_ret
    exact ⟨ret_int (by rw [HV.out]; try omega), rfl⟩
 ·
  cases rest
  ·
   by_cases h1 : 0 < hi
   ·
    have HV := Lib.hid (show told (!true) hi lo false = -9223372036854775808 by unfold told; rw [if_neg (by decide), if_pos (by omega)])
    go_enter Tryz.func96, Tryz.ntmps96
    go_wp2_with fail
    go_ret
    exact ⟨ret_int HV.out.symm, rfl⟩
   ·
    by_cases h2 : 9223372036854775808 < lo
    ·
     have HV := Lib.hid (show told (!true) hi lo false = -9223372036854775808 by unfold told; rw [if_neg (by decide), if_pos (by omega)])
     go_enter Tryz.func96, Tryz.ntmps96
     go_wp2_with fail
     go_ret
     exact ⟨ret_int HV.out.symm, rfl⟩
    ·
     have HV := Lib.hid (show told (!true) hi lo false = -(lo : Int) by
      unfold told; rw [if_neg (by decide)]
      split <;> simp <;> omega)
     go_enter Tryz.func96, Tryz.ntmps96
     go_wp2_with fail
     go_ret
     refine ⟨ret_int ?_, rfl⟩
     rw [HV.out]
     (try simp only [IntKind.wrap_u64, IntKind.wrap_i64, wrap64]); (try omega)
  ·
   by_cases h0 : lo = 18446744073709551615
   ·
    have HV := Lib.hid (show told (!true) hi lo true = -9223372036854775808 by unfold told; rw [if_neg (by decide), if_pos (by omega)])
    have e0 : IntKind.u64.wrap ((lo : Int) + 1) = 0 := by rw [IntKind.wrap_u64]; omega
    clear h0
    go_enter Tryz.func96, Tryz.ntmps96
    go_wp2_with fail
    go_ret
    exact ⟨ret_int HV.out.symm, rfl⟩
   ·
    obtain ⟨m, hm⟩ : ∃ m, m = lo + 1 := ⟨_, rfl⟩
    have e1 : IntKind.u64.wrap ((lo : Int) + 1) = (m : Int) := by rw [IntKind.wrap_u64]; omega
    have b0 : ((m : Int) == 0) = false := by simp; omega
    have m1 : m < 18446744073709551616 := by omega
    by_cases h1 : 0 < hi
    ·
     have HV := Lib.hid (show told (!true) hi lo true = -9223372036854775808 by unfold told; rw [if_neg (by decide), if_pos (by omega)])
     clear h0 hl hm
     go_enter Tryz.func96, Tryz.ntmps96
     go_wp2_with fail
     go_ret
     exact ⟨ret_int HV.out.symm, rfl⟩
    ·
     by_cases h2 : 9223372036854775808 < m
     ·
      have HV := Lib.hid (show told (!true) hi lo true = -9223372036854775808 by unfold told; rw [if_neg (by decide), if_pos (by omega)])
      clear h0 hl hm
      go_enter Tryz.func96, Tryz.ntmps96
      go_wp2_with fail
      go_ret
      exact ⟨ret_int HV.out.symm, rfl⟩
     ·
      have HV := Lib.hid (show told (!true) hi lo true = -(m : Int) by
       unfold told; rw [if_neg (by decide), if_neg (by omega)]; simp; omega)
      clear h0 hl hm
      go_enter Tryz.func96, Tryz.ntmps96
      go_wp2_with fail
      go_ret
      refine ⟨ret_int ?_, rfl⟩
      rw [HV.out]
      (try simp only [IntKind.wrap_u64, IntKind.wrap_i64, wrap64]); (try omega)
theorem lo_eq (A B : Nat) : IntKind.u64.wrap (IntKind.u64.wrap ((A : Int) * 4294967296) + ((B % 4294967296 : Nat) : Int)) = ((A % 4294967296 * 4294967296 + B % 4294967296 : Nat) : Int) := by
 rw [IntKind.wrap_u64, IntKind.wrap_u64]; omega
theorem prod_split (a b c d : Nat) (ha : a < 4294967296) (hb : b < 4294967296) (hc : c < 4294967296) (hd : d < 4294967296) :
  a * d + b * d / 4294967296 < 18446744073709551616 ∧ b * c + (a * d + b * d / 4294967296) % 4294967296 < 18446744073709551616 ∧
  a * c + (a * d + b * d / 4294967296) / 4294967296 < 18446744073709551616 ∧
  a * c + (a * d + b * d / 4294967296) / 4294967296 + (b * c + (a * d + b * d / 4294967296) % 4294967296) / 4294967296 = (a * 4294967296 + b) * (c * 4294967296 + d) / 18446744073709551616 ∧
  (b * c + (a * d + b * d / 4294967296) % 4294967296) % 4294967296 * 4294967296 + b * d % 4294967296 = (a * 4294967296 + b) * (c * 4294967296 + d) % 18446744073709551616 ∧
  (a * 4294967296 + b) * (c * 4294967296 + d) / 18446744073709551616 < 18446744073709551616 := by
 have e : (a * 4294967296 + b) * (c * 4294967296 + d) = a * c * 18446744073709551616 + a * d * 4294967296 + b * c * 4294967296 + b * d := by
  rw [Nat.add_mul, Nat.mul_add, Nat.mul_add, Nat.mul_mul_mul_comm, Nat.mul_right_comm a 4294967296 d, ← Nat.mul_assoc b c]
  omega
 have h1 := Lib.half_mul_le (a := a) (b := c) (by omega) (by omega)
 have h2 := Lib.half_mul_le (a := a) (b := d) (by omega) (by omega)
 have h3 := Lib.half_mul_le (a := b) (b := c) (by omega) (by omega)
 have h4 := Lib.half_mul_le (a := b) (b := d) (by omega) (by omega)
 rw [e]
 generalize a * c = p at *
 generalize a * d = q at *
 generalize b * c = r at *
 generalize b * d = s at *
 clear e
 omega
set_option maxHeartbeats 2000000 in
theorem product_any (x y : Nat) (hx : x < 18446744073709551616) (hy : y < 18446744073709551616) (w : World) :
  Calls Tryz.prog 114 #[.int .u64 (x : Int), .int .u64 (y : Int)] w fun e w' => e = .returned (.tuple #[.int .u64 ((x * y / 18446744073709551616 : Nat) : Int), .int .u64 ((x * y % 18446744073709551616 : Nat) : Int)]) ∧ w = w' := by
 obtain ⟨p1, p2, p3, p4, p5, p6⟩ := prod_split (x / 4294967296) (x % 4294967296) (y / 4294967296) (y % 4294967296) (by omega) (by omega) (by omega) (by omega)
 have ex : x / 4294967296 * 4294967296 + x % 4294967296 = x := Nat.div_add_mod' x 4294967296
 have ey : y / 4294967296 * 4294967296 + y % 4294967296 = y := Nat.div_add_mod' y 4294967296
 rw [ex, ey] at p4 p5 p6
 have ba := Lib.half_mul_le (a := x / 4294967296) (b := y / 4294967296) (by omega) (by omega)
 have bb := Lib.half_mul_le (a := x / 4294967296) (b := y % 4294967296) (by omega) (by omega)
 have bc := Lib.half_mul_le (a := x % 4294967296) (b := y / 4294967296) (by omega) (by omega)
 have bd := Lib.half_mul_le (a := x % 4294967296) (b := y % 4294967296) (by omega) (by omega)
 have P := Lib.hid (And.intro p1 (And.intro p2 (And.intro p3 (And.intro p4 (And.intro p5 p6)))))
 clear p1 p2 p3 p4 p5 p6 ex ey
 go_enter Tryz.func114, Tryz.ntmps114
 go_wp2
 have mx := maskN x hx
 have my := maskN y hy
 obtain ⟨p1, p2, p3, p4, p5, p6⟩ := P.out
 have wa := wrapN (x / 4294967296 * (y / 4294967296)) (by omega)
 have wb := wrapN (x / 4294967296 * (y % 4294967296)) (by omega)
 have wc := wrapN (x % 4294967296 * (y / 4294967296)) (by omega)
 have wd := wrapN (x % 4294967296 * (y % 4294967296)) (by omega)
 simp only [mx, my, divN, natMul, natAdd, wa, wb, wc, wd, wrapN _ p1, maskN _ p1, wrapN _ p2, maskN _ p2, wrapN _ p3, maskN (x % 4294967296 * (y % 4294967296)) (by omega)]
 simp only [p4, wrapN _ p6, lo_eq, p5]
 go_ret2
 exact ⟨rfl, rfl⟩
end Go.Proofs.YtdaokkgenfpmhaaGreat.FixT

/- The walks of layer 1: sines, both sides; the reference's products and whole numbers. -/
set_option linter.unusedVariables false
set_option linter.unusedSimpArgs false
namespace Go.Proofs.YtdaokkgenfpmhaaGreat.FixS
open Go.RowKit FixM Base Num FixW FixV FixU FixT

theorem rmul_args (X hi lo : Nat) (h1 : hi = X / 18446744073709551616) (h2 : lo = X % 18446744073709551616) :
  (hi : Int) / 4294967296 = ((X / 4294967296 / 18446744073709551616 : Nat) : Int) ∧
  IntKind.u64.wrap (IntKind.u64.wrap ((hi : Int) * 4294967296) + (lo : Int) / 4294967296) = ((X / 4294967296 % 18446744073709551616 : Nat) : Int) ∧
  (bits BinOp.and .u64 (lo : Int) 4294967295 != 0) = decide (X % 4294967296 ≠ 0) := by
 refine ⟨by omega, ?_, ?_⟩
 ·
  rw [IntKind.wrap_u64, IntKind.wrap_u64]; omega
 ·
  rw [maskN lo (by omega), Bool.eq_iff_iff, bne_iff_ne, decide_eq_true_iff]; omega
set_option maxHeartbeats 1000000 in
theorem rmul_any (a b : Int) (ha1 : -9223372036854775808 ≤ a) (ha2 : a ≤ 9223372036854775807) (hb1 : -9223372036854775808 ≤ b) (hb2 : b ≤ 9223372036854775807) (w : World) : Calls Tryz.prog 100 #[.int .i64 a, .int .i64 b] w fun e w' => e = .returned (.int .i64 (mulF a b)) ∧ w = w' := by
 have ht := mulF_told a b
 have m1 := product_any a.natAbs b.natAbs (by omega) (by omega) w
 obtain ⟨X, hX⟩ : ∃ X, X = a.natAbs * b.natAbs := ⟨_, rfl⟩
 have hXb : X ≤ 9223372036854775808 * 9223372036854775808 := by rw [hX]; exact Nat.mul_le_mul (by omega) (by omega)
 rw [← hX] at ht m1
 obtain ⟨hi, hhi⟩ : ∃ hi, hi = X / 18446744073709551616 := ⟨_, rfl⟩
 obtain ⟨lo, hlo⟩ : ∃ lo, lo = X % 18446744073709551616 := ⟨_, rfl⟩
 rw [← hhi, ← hlo] at m1
 have T := Lib.hid ht
 have M1 := Lib.hid m1
 have HX := Lib.hid (And.intro hhi (And.intro hlo hXb))
 have HS := Lib.hid (show (!(decide (a < 0) == decide (b < 0))) = !(sameB a b) from rfl)
 have blo : lo < 18446744073709551616 := by omega
 clear ht m1 hX hhi hlo hXb
 go_enter Tryz.func100, Tryz.ntmps100
 go_wp2_with fail
 refine (rsize_any a ha1 ha2 _).mono ?_
 rintro e w1 ⟨rfl, rfl⟩
 go_wp2_with fail
 refine (rsize_any b hb1 hb2 _).mono ?_
 rintro e w1 ⟨rfl, rfl⟩
 go_wp2_with fail
 refine M1.out.mono ?_
 rintro e w1 ⟨rfl, rfl⟩
 go_wp2_with fail
 obtain ⟨eA, eB, eC⟩ := rmul_args X hi lo HX.out.1 HX.out.2.1
 rw [eA, eB, eC, HS.out]
 clear eA eB eC
 refine (in_any _ _ (!(sameB a b)) _ (by have := HX.out.2.2; omega) (Nat.mod_lt _ (by decide)) _).mono ?_
 rintro e w1 ⟨rfl, rfl⟩
 rw [Bool.not_not, T.out]
 go_wp2_with fail
 go_ret
 exact ⟨rfl, rfl⟩
end Go.Proofs.YtdaokkgenfpmhaaGreat.FixS

/- The walks of math/bits: Len64, LeadingZeros64. -/
set_option linter.unusedVariables false
set_option linter.unusedSimpArgs false
namespace Go.Proofs.YtdaokkgenfpmhaaGreat.FixL
open Go.RowKit Base

theorem bitLenAux_spec : ∀ (f x : Nat), x < 2 ^ f → Lib.bitLenAux f x ≤ f ∧ x < 2 ^ Lib.bitLenAux f x ∧ (x ≠ 0 → 1 ≤ Lib.bitLenAux f x ∧ 2 ^ (Lib.bitLenAux f x - 1) ≤ x) := by
 intro f
 induction f with
 | zero => intro x h; simp only [Nat.pow_zero] at h; exact ⟨Nat.le_refl _, by simpa [Lib.bitLenAux] using h, fun h0 => absurd (by omega) h0⟩
 | succ f ih =>
  intro x h
  unfold Lib.bitLenAux
  by_cases h0 : x = 0
  ·
   rw [if_pos h0]; exact ⟨by omega, by simp [h0], fun h => absurd h0 h⟩
  ·
   rw [if_neg h0]
   obtain ⟨i1, i2, i3⟩ := ih (x / 2) (by rw [Nat.pow_succ] at h; omega)
   refine ⟨by omega, ?_, fun _ => ⟨by omega, ?_⟩⟩
   ·
    rw [Nat.add_comm, Nat.pow_succ]; omega
   ·
    rw [show 1 + Lib.bitLenAux f (x / 2) - 1 = Lib.bitLenAux f (x / 2) by omega]
    by_cases h1 : x / 2 = 0
    ·
     have : Lib.bitLenAux f (x / 2) = 0 := by
      rw [h1]; cases f with
      | zero => rfl
      | succ f => unfold Lib.bitLenAux; simp
     rw [this]; simp; omega
    ·
     obtain ⟨j1, j2⟩ := i3 h1
     have e : 2 ^ Lib.bitLenAux f (x / 2) = 2 ^ (Lib.bitLenAux f (x / 2) - 1) * 2 := by rw [← Nat.pow_succ]; congr 1; omega
     rw [e]; omega
/-- how many zeros lead -/
def lz (y : Nat) : Nat := 64 - Lib.bitLen y
theorem lz_spec {y : Nat} (h1 : 1 ≤ y) (h2 : y < 18446744073709551616) : lz y ≤ 63 ∧ 9223372036854775808 ≤ y * 2 ^ lz y ∧ y * 2 ^ lz y < 18446744073709551616 := by
 obtain ⟨a, b, c⟩ := bitLenAux_spec 64 y (by simpa using h2)
 obtain ⟨c1, c2⟩ := c (by omega)
 have e : lz y = 64 - Lib.bitLenAux 64 y := rfl
 rw [e]
 refine ⟨by omega, ?_, ?_⟩
 ·
  calc (9223372036854775808 : Nat) = 2 ^ (Lib.bitLenAux 64 y - 1) * 2 ^ (64 - Lib.bitLenAux 64 y) := by rw [← Nat.pow_add, show Lib.bitLenAux 64 y - 1 + (64 - Lib.bitLenAux 64 y) = 63 by omega]
   _ ≤ _ := Nat.mul_le_mul_right _ c2
 ·
  calc y * 2 ^ (64 - Lib.bitLenAux 64 y) < 2 ^ Lib.bitLenAux 64 y * 2 ^ (64 - Lib.bitLenAux 64 y) := Nat.mul_lt_mul_of_pos_right b (Nat.two_pow_pos _)
   _ = 18446744073709551616 := by rw [← Nat.pow_add, show Lib.bitLenAux 64 y + (64 - Lib.bitLenAux 64 y) = 64 by omega]
theorem tab_at (i : Int) (h0 : 0 ≤ i) (h1 : i ≤ 255) : ∃ b : Nat, b ≤ 8 ∧ Lib.bitLen i.toNat = b ∧ ∀ w, (Instr.index 9 (.string Lib.len8tab) (.int .u8 i)).run Tryz.prog w = .ok (.int .u8 (b : Int)) w := by
 refine ⟨Lib.bitLen i.toNat, Lib.bitLen_le8' i h0 h1, rfl, fun w => ?_⟩
 rw [Lib.run_index_len8tab w 9 .u8 i Tryz.underlying9 h0 h1, Lib.len8_of i h0 h1]
set_option maxHeartbeats 4000000 in
set_option maxRecDepth 100000 in
theorem len64_any (x : Int) (w : World) (h0 : 0 ≤ x) (h1 : x ≤ 18446744073709551615) :
  Calls Tryz.prog 112 #[.int .u64 x] w fun e w' => e = .returned (.int .i64 (Lib.bitLen x.toNat)) ∧ w' = w := by
 by_cases c0 : 4294967296 ≤ x
 ·
  have d0 : 0 ≤ x / 4294967296 := by omega
  by_cases c1 : 65536 ≤ x / 4294967296
  ·
   have d1 : 0 ≤ x / 4294967296 / 65536 := by omega
   by_cases c2 : 256 ≤ x / 4294967296 / 65536
   ·
    have d2 : 0 ≤ x / 4294967296 / 65536 / 256 := by omega
    obtain ⟨b, b1, b2, b3⟩ := tab_at (x / 4294967296 / 65536 / 256) (by omega) (by omega)
    have HB := Lib.hid (show Lib.bitLen x.toNat = 56 + b by rw [Lib.bitLen_shift56 x.toNat (by omega) (by omega), ← b2]; congr 2; omega)
    clear b2
    go_enter Tryz.func112, Tryz.ntmps112
    go_wp2_with fail
    go_ret
    exact ⟨ret_int (by rw [HB.out]; try omega), rfl⟩
   ·
    have d2 : x / 4294967296 / 65536 < 256 := by omega
    obtain ⟨b, b1, b2, b3⟩ := tab_at (x / 4294967296 / 65536) (by omega) (by omega)
    have HB := Lib.hid (show Lib.bitLen x.toNat = 48 + b by rw [Lib.bitLen_shift48 x.toNat (by omega) (by omega), ← b2]; congr 2; omega)
    clear b2
    go_enter Tryz.func112, Tryz.ntmps112
    go_wp2_with fail
    go_ret
    exact ⟨ret_int (by rw [HB.out]; try omega), rfl⟩
  ·
   have d1 : x / 4294967296 < 65536 := by omega
   by_cases c2 : 256 ≤ x / 4294967296
   ·
    have d2 : 0 ≤ x / 4294967296 / 256 := by omega
    obtain ⟨b, b1, b2, b3⟩ := tab_at (x / 4294967296 / 256) (by omega) (by omega)
    have HB := Lib.hid (show Lib.bitLen x.toNat = 40 + b by rw [Lib.bitLen_shift40 x.toNat (by omega) (by omega), ← b2]; congr 2; omega)
    clear b2
    go_enter Tryz.func112, Tryz.ntmps112
    go_wp2_with fail
    go_ret
    exact ⟨ret_int (by rw [HB.out]; try omega), rfl⟩
   ·
    have d2 : x / 4294967296 < 256 := by omega
    obtain ⟨b, b1, b2, b3⟩ := tab_at (x / 4294967296) (by omega) (by omega)
    have HB := Lib.hid (show Lib.bitLen x.toNat = 32 + b by rw [Lib.bitLen_shift32 x.toNat (by omega) (by omega), ← b2]; congr 2; omega)
    clear b2
    go_enter Tryz.func112, Tryz.ntmps112
    go_wp2_with fail
    go_ret
    exact ⟨ret_int (by rw [HB.out]; try omega), rfl⟩
 ·
  have d0 : x < 4294967296 := by omega
  by_cases c1 : 65536 ≤ x
  ·
   have d1 : 0 ≤ x / 65536 := by omega
   by_cases c2 : 256 ≤ x / 65536
   ·
    have d2 : 0 ≤ x / 65536 / 256 := by omega
    obtain ⟨b, b1, b2, b3⟩ := tab_at (x / 65536 / 256) (by omega) (by omega)
    have HB := Lib.hid (show Lib.bitLen x.toNat = 24 + b by rw [Lib.bitLen_shift24 x.toNat (by omega) (by omega), ← b2]; congr 2; omega)
    clear b2
    go_enter Tryz.func112, Tryz.ntmps112
    go_wp2_with fail
    go_ret
    exact ⟨ret_int (by rw [HB.out]; try omega), rfl⟩
   ·
    have d2 : x / 65536 < 256 := by omega
    obtain ⟨b, b1, b2, b3⟩ := tab_at (x / 65536) (by omega) (by omega)
    have HB := Lib.hid (show Lib.bitLen x.toNat = 16 + b by rw [Lib.bitLen_shift16 x.toNat (by omega) (by omega), ← b2]; congr 2; omega)
    clear b2
    go_enter Tryz.func112, Tryz.ntmps112
    go_wp2_with fail
    go_ret
    exact ⟨ret_int (by rw [HB.out]; try omega), rfl⟩
  ·
   have d1 : x < 65536 := by omega
   by_cases c2 : 256 ≤ x
   ·
    have d2 : 0 ≤ x / 256 := by omega
    obtain ⟨b, b1, b2, b3⟩ := tab_at (x / 256) (by omega) (by omega)
    have HB := Lib.hid (show Lib.bitLen x.toNat = 8 + b by rw [Lib.bitLen_shift8 x.toNat (by omega) (by omega), ← b2]; congr 2; omega)
    clear b2
    go_enter Tryz.func112, Tryz.ntmps112
    go_wp2_with fail
    go_ret
    exact ⟨ret_int (by rw [HB.out]; try omega), rfl⟩
   ·
    have d2 : x < 256 := by omega
    obtain ⟨b, b1, b2, b3⟩ := tab_at (x) (by omega) (by omega)
    have HB := Lib.hid b2
    clear b2
    go_enter Tryz.func112, Tryz.ntmps112
    go_wp2_with fail
    go_ret
    exact ⟨ret_int (by rw [HB.out]; try omega), rfl⟩
set_option maxHeartbeats 1000000 in
theorem lz_any (y : Nat) (h1 : 1 ≤ y) (h2 : y < 18446744073709551616) (w : World) : Calls Tryz.prog 89 #[.int .u64 (y : Int)] w fun e w' => e = .returned (.int .i64 (lz y : Int)) ∧ w = w' := by
 have c := len64_any (y : Int) w (by omega) (by omega)
 have hb := (bitLenAux_spec 64 y (by simpa using h2)).1
 have e : (y : Int).toNat = y := by omega
 rw [e] at c
 have HV := Lib.hid (show (lz y : Int) = 64 - (Lib.bitLen y : Int) by unfold lz; unfold Lib.bitLen at *; omega)
 have hb' : Lib.bitLen y ≤ 64 := hb
 clear hb e
 generalize Lib.bitLen y = b at *
 have C := Lib.hid c
 clear c
 go_enter Tryz.func89, Tryz.ntmps89
 go_wp2_with fail
 refine C.out.mono ?_
 rintro e w1 ⟨rfl, rfl⟩
 go_wp2_with fail
 go_ret
 exact ⟨ret_int (by rw [HV.out]), rfl⟩
end Go.Proofs.YtdaokkgenfpmhaaGreat.FixL

/- The walk of math/bits.Div64. -/
set_option linter.unusedVariables false
set_option linter.unusedSimpArgs false
namespace Go.Proofs.YtdaokkgenfpmhaaGreat.FixQ
open Go.RowKit FixL FixD FixU FixV Base Num

theorem wrapN' (a b : Nat) (ha : a < 18446744073709551616) : IntKind.u64.wrap ((a : Int) / (b : Int)) = ((a / b : Nat) : Int) := by
 rw [natDiv]; exact wrapN _ (Nat.lt_of_le_of_lt (Nat.div_le_self a b) ha)
/-- what the first steps lay: the dividend turned up by s, by halves -/
theorem up_args (hi lo y s : Nat) (h1 : hi < y) (h2 : lo < 18446744073709551616) (s1 : s ≤ 63) (s3 : y * 2 ^ s < 18446744073709551616) :
  bits .or .u64 (IntKind.u64.wrap ((hi : Int) * 2 ^ s)) ((lo : Int) / 2 ^ (64 - s)) = ((hi * 2 ^ s + lo / 2 ^ (64 - s) : Nat) : Int) ∧
  IntKind.u64.wrap ((lo : Int) * 2 ^ s) = ((lo * 2 ^ s % 18446744073709551616 : Nat) : Int) ∧ hi * 2 ^ s + lo / 2 ^ (64 - s) < y * 2 ^ s := by
 have hb := shl_below hi lo y s (by omega) h1 h2
 refine ⟨?_, ?_, hb⟩
 ·
  have e1 : IntKind.u64.wrap ((hi : Int) * 2 ^ s) = ((hi * 2 ^ s : Nat) : Int) := by
   rw [show (hi : Int) * 2 ^ s = ((hi * 2 ^ s : Nat) : Int) by simp]
   exact wrapN _ (Nat.lt_of_le_of_lt (Nat.le_add_right _ _) (Nat.lt_trans hb s3))
  have e2 : (lo : Int) / 2 ^ (64 - s) = ((lo / 2 ^ (64 - s) : Nat) : Int) := by simp
  rw [e1, e2, u64_or_nat _ _ (Nat.lt_of_le_of_lt (Nat.le_add_right _ _) (Nat.lt_trans hb s3)) (Nat.lt_of_le_of_lt (Nat.div_le_self _ _) h2), or_disjoint hi (lo / 2 ^ (64 - s)) s ?_]
  rw [Nat.div_lt_iff_lt_mul (Nat.two_pow_pos _), ← Nat.pow_add, show s + (64 - s) = 64 by omega]; exact h2
 ·
  rw [show (lo : Int) * 2 ^ s = ((lo * 2 ^ s : Nat) : Int) by simp]
  exact wrap64u _
theorem two_halves (u a b : Nat) : (u * 4294967296 + a) * 4294967296 + b = u * 18446744073709551616 + (a * 4294967296 + b) := by omega
theorem div_fin {hi lo y s u z un1 un0 W un21 Q1 Q0 R : Nat} (hs : s < 64) (hU : u = hi * 2 ^ s + lo / 2 ^ (64 - s)) (hZ : z = lo * 2 ^ s % 18446744073709551616) (hu1 : un1 = z / 4294967296) (hu0 : un0 = z % 4294967296)
  (hW : W = y * 2 ^ s) (hpos : 0 < W) (h21 : un21 = (u * 4294967296 + un1) % W) (hQ1 : Q1 = (u * 4294967296 + un1) / W) (hQ0 : Q0 = (un21 * 4294967296 + un0) / W) (hR : R = (un21 * 4294967296 + un0) % W) :
  Q1 * 4294967296 + Q0 = (hi * 18446744073709551616 + lo) / y ∧ R / 2 ^ s = (hi * 18446744073709551616 + lo) % y := by
 have hz2 : un1 * 4294967296 + un0 = z := by rw [hu1, hu0]; exact Nat.div_add_mod' z 4294967296
 have hN : (u * 4294967296 + un1) * 4294967296 + un0 = (hi * 18446744073709551616 + lo) * 2 ^ s := by
  rw [← shl_two hi lo s hs, ← hU, ← hZ, two_halves, hz2]
 obtain ⟨f1, f2⟩ := whole_quo W u un1 un0 hpos
 rw [hN, ← h21, ← hQ1, ← hQ0, hW, shl_quo] at f1
 rw [hN, ← h21, ← hR, hW] at f2
 refine ⟨f1.symm, ?_⟩
 rw [← f2]
 exact shl_rem _ _ _
set_option maxRecDepth 100000 in
set_option maxHeartbeats 4000000 in
theorem div64_any (hi lo y : Nat) (h1 : hi < y) (h2 : lo < 18446744073709551616) (h3 : y < 18446744073709551616) (w : World) :
  Calls Tryz.prog 73 #[.int .u64 (hi : Int), .int .u64 (lo : Int), .int .u64 (y : Int)] w fun e w' => e = .returned (.tuple #[.int .u64 (((hi * 18446744073709551616 + lo) / y : Nat) : Int), .int .u64 (((hi * 18446744073709551616 + lo) % y : Nat) : Int)]) ∧ ∃ n, w' = w.drewN n := by
 have y0 : ((y : Int) == 0) = false := by simp; omega
 have y1 : 1 ≤ y := by omega
 have y2 : decide ((y : Int) ≤ (hi : Int)) = false := decide_eq_false (by omega)
 by_cases h0 : hi = 0
 ·
  subst h0
  go_enter Tryz.func73, Tryz.ntmps73
  go_wp2_with fail
  go_quiet (fail)
  go_wp2_with fail
  go_ret2
  exact ⟨by simp only [Nat.zero_mul, Nat.zero_add]; rw [wrapN' lo y h2]; rfl, _, rfl⟩
 ·
  have hi0 : ((hi : Int) == 0) = false := by simp; omega
  have hi1 : 1 ≤ hi := by omega
  obtain ⟨s1, s2, s3⟩ := lz_spec y1 h3
  have c1 := lz_any y y1 h3 w
  generalize lz y = s at *
  have e1 : IntKind.u64.wrap ((y : Int) * 2 ^ s) = ((y * 2 ^ s : Nat) : Int) := by
   rw [show (y : Int) * 2 ^ s = ((y * 2 ^ s : Nat) : Int) by simp]; exact wrapN _ s3
  obtain ⟨Y, hY⟩ : ∃ Y, Y = y * 2 ^ s := ⟨_, rfl⟩
  rw [← hY] at e1 s2 s3
  obtain ⟨yn1, hyn1⟩ : ∃ q, q = Y / 4294967296 := ⟨_, rfl⟩
  obtain ⟨yn0, hyn0⟩ : ∃ q, q = Y % 4294967296 := ⟨_, rfl⟩
  have e2 : (Y : Int) / 4294967296 = (yn1 : Int) := by rw [hyn1]; omega
  have e3 : bits .and .u64 (Y : Int) 4294967295 = (yn0 : Int) := by rw [hyn0]; exact maskN Y s3
  have n1 : 2147483648 ≤ yn1 := by omega
  have n2 : yn1 < 4294967296 := by omega
  have n3 : yn0 < 4294967296 := by omega
  obtain ⟨e4, e5, hu⟩ := up_args hi lo y s h1 h2 s1 (by omega)
  obtain ⟨u, hU⟩ : ∃ u, u = hi * 2 ^ s + lo / 2 ^ (64 - s) := ⟨_, rfl⟩
  obtain ⟨z, hZ⟩ : ∃ z, z = lo * 2 ^ s % 18446744073709551616 := ⟨_, rfl⟩
  rw [← hU] at e4 hu
  rw [← hZ] at e5
  rw [← hY] at hu
  have zb : z < 18446744073709551616 := by omega
  obtain ⟨un1, hun1⟩ : ∃ q, q = z / 4294967296 := ⟨_, rfl⟩
  obtain ⟨un0, hun0⟩ : ∃ q, q = z % 4294967296 := ⟨_, rfl⟩
  have e6 : (z : Int) / 4294967296 = (un1 : Int) := by rw [hun1]; omega
  have e7 : bits .and .u64 (z : Int) 4294967295 = (un0 : Int) := by rw [hun0]; exact maskN z zb
  have k1 : un1 < 4294967296 := by omega
  have k0 : un0 < 4294967296 := by omega
  have hYs : Y = yn1 * 4294967296 + yn0 := by omega
  have hpre : Pre yn1 yn0 u un1 := ⟨n1, n2, n3, by omega, k1⟩
  have hst := Half.start hpre
  have hqb := start_q hpre
  have hrb := start_r hpre
  obtain ⟨qa, hqa⟩ : ∃ q, q = u / yn1 := ⟨_, rfl⟩
  obtain ⟨ra, hra⟩ : ∃ q, q = u % yn1 := ⟨_, rfl⟩
  rw [← hqa] at hst hqb
  rw [← hra] at hst hrb
  have hub : u < 18446744073709551616 := by omega
  have e8 : IntKind.u64.wrap ((u : Int) / (yn1 : Int)) = (qa : Int) := by rw [hqa]; exact wrapN' u yn1 hub
  obtain ⟨pa, hpa⟩ : ∃ q, q = qa * yn1 := ⟨_, rfl⟩
  have hsum := hst.sum
  rw [← hpa] at hsum
  have e9 : IntKind.u64.wrap ((qa : Int) * (yn1 : Int)) = (pa : Int) := by rw [natMul, ← hpa]; exact wrapN pa (by omega)
  have e10 : (u : Int) - (pa : Int) = (ra : Int) := by omega
  have C1 := Lib.hid c1
  have HY := Lib.hid (And.intro hY (And.intro hyn1 hyn0))
  have HU := Lib.hid (And.intro hU (And.intro hZ (And.intro hun1 hun0)))
  have HST := Lib.hid hst
  have HP := Lib.hid hpre
  have HYS := Lib.hid hYs
  have S2 := Lib.hid s2
  have S3 := Lib.hid s3
  clear h0 c1 s2 s3 hY hyn1 hyn0 hU hZ hun1 hun0 hst hpre hYs hqa hra hpa hu hub
  go_enter Tryz.func73, Tryz.ntmps73
  go_wp2_with fail
  refine C1.out.mono ?_
  rintro e w1 ⟨rfl, rfl⟩
  go_upto_block 0 with (fail)
  clear e1 e2 e3 e4 e5 e6 e7 e8 e9 e10 hsum
  obtain ⟨Q1, hQ1⟩ : ∃ Q, Q = (u * 4294967296 + un1) / (yn1 * 4294967296 + yn0) := ⟨_, rfl⟩
  have HQ1 := Lib.hid hQ1
  clear hQ1
  go_cut [15, 16] (fun q r wc => q = .int .u64 (Q1 : Int) ∧ (∃ r', r = .int .u64 r') ∧ wc = w)
  case first =>
   go_wp2_with fail
   go_loop [15, 16] (fun vq vr => ∃ q r : Nat, q ≤ 4294967297 ∧ r < 4294967296 ∧ vq = .int .u64 (q : Int) ∧ vr = .int .u64 (r : Int) ∧ Hid (Half yn1 yn0 u un1 q r)) (fun v _ => (intOf v).toNat)
   case atStart => exact ⟨qa, ra, hqb, hrb, rfl, rfl, HST⟩
   case round =>
    obtain ⟨q, r, hq, hr, rfl, rfl, HH⟩ := hrel
    have hm := q_yn0 HP.out hq
    obtain ⟨m, hmm⟩ : ∃ m, m = q * yn0 := ⟨_, rfl⟩
    rw [← hmm] at hm
    have em : IntKind.u64.wrap ((q : Int) * (yn0 : Int)) = (m : Int) := by rw [natMul, ← hmm]; exact wrapN m (by omega)
    have HM := Lib.hid hmm
    clear hmm
    have hq' : (q : Int) ≤ 4294967297 := by omega
    have hr' : (r : Int) < 4294967296 := by omega
    have HQ := Lib.hid (And.intro hq hr)
    by_cases c : 4294967296 ≤ q ∨ 4294967296 * r + un1 < m
    ·
     have HN := Lib.hid (HH.out.next HP.out (by rw [← HM.out]; exact c))
     have hpos := HH.out.pos HP.out (by rw [← HM.out]; exact c)
     have EQ1 := Lib.hid (show ((q - 1 : Nat) : Int) = (q : Int) - 1 by omega)
     by_cases c3 : 4294967296 ≤ r + yn1
     ·
      have HB := Lib.hid (HN.out.broke HP.out (by omega) c3)
      have d3 : decide (4294967296 ≤ (r : Int) + (yn1 : Int)) = true := decide_eq_true (by omega)
      by_cases c1 : 4294967296 ≤ q
      ·
       have d1 : decide (4294967296 ≤ (q : Int)) = true := decide_eq_true (by omega)
       clear c c1 c3 hq hr
       go_wp2_with fail
       go_meet
       case rel => exact ⟨by rw [HQ1.out, ← HB.out, EQ1.out], ⟨_, rfl⟩, rfl⟩
      ·
       have d1 : decide (4294967296 ≤ (q : Int)) = false := decide_eq_false (by omega)
       have d2 : decide (4294967296 * (r : Int) + (un1 : Int) < (m : Int)) = true := decide_eq_true (by omega)
       clear c c1 c3 hq hr
       go_wp2_with fail
       go_meet
       case rel => exact ⟨by rw [HQ1.out, ← HB.out, EQ1.out], ⟨_, rfl⟩, rfl⟩
     ·
      have d3 : decide (4294967296 ≤ (r : Int) + (yn1 : Int)) = false := decide_eq_false (by omega)
      have C3 := Lib.hid c3
      by_cases c1 : 4294967296 ≤ q
      ·
       have d1 : decide (4294967296 ≤ (q : Int)) = true := decide_eq_true (by omega)
       clear c c1 c3 hq hr
       go_wp2_with fail
       go_round
       case rel => exact ⟨q - 1, r + yn1, by have := HQ.out; omega, by have := C3.out; omega, by rw [EQ1.out], by go_num, HN⟩
       case measure => simp [intOf]; omega
      ·
       have d1 : decide (4294967296 ≤ (q : Int)) = false := decide_eq_false (by omega)
       have d2 : decide (4294967296 * (r : Int) + (un1 : Int) < (m : Int)) = true := decide_eq_true (by omega)
       clear c c1 c3 hq hr
       go_wp2_with fail
       go_round
       case rel => exact ⟨q - 1, r + yn1, by have := HQ.out; omega, by have := C3.out; omega, by rw [EQ1.out], by go_num, HN⟩
       case measure => simp [intOf]; omega
    ·
     have HB := Lib.hid (HH.out.done HP.out (by rw [← HM.out]; omega))
     have d1 : decide (4294967296 ≤ (q : Int)) = false := decide_eq_false (by omega)
     have d2 : decide (4294967296 * (r : Int) + (un1 : Int) < (m : Int)) = false := decide_eq_false (by omega)
     clear c hq hr
     go_wp2_with fail
     go_meet
     case rel => exact ⟨by rw [HQ1.out, ← HB.out], ⟨_, rfl⟩, rfl⟩
  case rest =>
   obtain ⟨rfl, ⟨r', rfl⟩, rfl⟩ := hcut
   have hQl : Q1 < 4294967296 := by rw [HQ1.out]; exact quo_lt HP.out
   obtain ⟨un21, hun21⟩ : ∃ q, q = (u * 4294967296 + un1) % (yn1 * 4294967296 + yn0) := ⟨_, rfl⟩
   have hle := left_eq HP.out HQ1.out
   rw [← hun21, ← HYS.out] at hle
   have hul : un21 < Y := by rw [hun21, HYS.out]; exact left_lt HP.out
   have hYl : Y < 18446744073709551616 := S3.out
   have e11 : IntKind.u64.wrap (IntKind.u64.wrap (IntKind.u64.wrap ((u : Int) * 4294967296) + (un1 : Int)) - IntKind.u64.wrap ((Q1 : Int) * (Y : Int))) = (un21 : Int) := by
    rw [natMul Q1 Y]
    generalize Q1 * Y = pq at *
    simp only [IntKind.wrap_u64]; omega
   have hpre2 : Pre yn1 yn0 un21 un0 := ⟨n1, n2, n3, by rw [← HYS.out]; exact hul, k0⟩
   have hst := Half.start hpre2
   have hqb2 := start_q hpre2
   have hrb2 := start_r hpre2
   obtain ⟨qb, hqb'⟩ : ∃ q, q = un21 / yn1 := ⟨_, rfl⟩
   obtain ⟨rb, hrb'⟩ : ∃ q, q = un21 % yn1 := ⟨_, rfl⟩
   rw [← hqb'] at hst hqb2
   rw [← hrb'] at hst hrb2
   have e12 : IntKind.u64.wrap ((un21 : Int) / (yn1 : Int)) = (qb : Int) := by rw [hqb']; exact wrapN' un21 yn1 (by omega)
   obtain ⟨pb, hpb⟩ : ∃ q, q = qb * yn1 := ⟨_, rfl⟩
   have hsum := hst.sum
   rw [← hpb] at hsum
   have e13 : IntKind.u64.wrap ((qb : Int) * (yn1 : Int)) = (pb : Int) := by rw [natMul, ← hpb]; exact wrapN pb (by omega)
   have e14 : (un21 : Int) - (pb : Int) = (rb : Int) := by omega
   obtain ⟨Q0, hQ0⟩ : ∃ Q, Q = (un21 * 4294967296 + un0) / (yn1 * 4294967296 + yn0) := ⟨_, rfl⟩
   have HST2 := Lib.hid hst
   have HP2 := Lib.hid hpre2
   have HU21 := Lib.hid hun21
   have HUL := Lib.hid hul
   have HQ0 := Lib.hid hQ0
   clear hun21 hle hst hpre2 hqb' hrb' hpb hQ0 hul
   go_upto_block 2 with (fail)
   clear e11 e12 e13 e14 hsum
   go_cut [18, 16] (fun q r wc' => q = .int .u64 (Q0 : Int) ∧ (∃ r', r = .int .u64 r') ∧ wc' = wc)
   case first =>
    go_wp2_with fail
    go_loop [18, 16] (fun vq vr => ∃ q r : Nat, q ≤ 4294967297 ∧ r < 4294967296 ∧ vq = .int .u64 (q : Int) ∧ vr = .int .u64 (r : Int) ∧ Hid (Half yn1 yn0 un21 un0 q r)) (fun v _ => (intOf v).toNat)
    case atStart => exact ⟨qb, rb, hqb2, hrb2, rfl, rfl, HST2⟩
    case round =>
     obtain ⟨q, r, hq, hr, rfl, rfl, HH⟩ := hrel
     have hm := q_yn0 HP2.out hq
     obtain ⟨m, hmm⟩ : ∃ m, m = q * yn0 := ⟨_, rfl⟩
     rw [← hmm] at hm
     have em : IntKind.u64.wrap ((q : Int) * (yn0 : Int)) = (m : Int) := by rw [natMul, ← hmm]; exact wrapN m (by omega)
     have HM := Lib.hid hmm
     clear hmm
     have hq' : (q : Int) ≤ 4294967297 := by omega
     have hr' : (r : Int) < 4294967296 := by omega
     have HQ := Lib.hid (And.intro hq hr)
     by_cases c : 4294967296 ≤ q ∨ 4294967296 * r + un0 < m
     ·
      have HN := Lib.hid (HH.out.next HP2.out (by rw [← HM.out]; exact c))
      have hpos := HH.out.pos HP2.out (by rw [← HM.out]; exact c)
      have EQ1 := Lib.hid (show ((q - 1 : Nat) : Int) = (q : Int) - 1 by omega)
      by_cases c3 : 4294967296 ≤ r + yn1
      ·
       have HB := Lib.hid (HN.out.broke HP2.out (by omega) c3)
       have d3 : decide (4294967296 ≤ (r : Int) + (yn1 : Int)) = true := decide_eq_true (by omega)
       by_cases c1 : 4294967296 ≤ q
       ·
        have d1 : decide (4294967296 ≤ (q : Int)) = true := decide_eq_true (by omega)
        clear c c1 c3 hq hr
        go_wp2_with fail
        go_meet
        case rel => exact ⟨by rw [HQ0.out, ← HB.out, EQ1.out], ⟨_, rfl⟩, rfl⟩
       ·
        have d1 : decide (4294967296 ≤ (q : Int)) = false := decide_eq_false (by omega)
        have d2 : decide (4294967296 * (r : Int) + (un0 : Int) < (m : Int)) = true := decide_eq_true (by omega)
        clear c c1 c3 hq hr
        go_wp2_with fail
        go_meet
        case rel => exact ⟨by rw [HQ0.out, ← HB.out, EQ1.out], ⟨_, rfl⟩, rfl⟩
      ·
       have d3 : decide (4294967296 ≤ (r : Int) + (yn1 : Int)) = false := decide_eq_false (by omega)
       have C3 := Lib.hid c3
       by_cases c1 : 4294967296 ≤ q
       ·
        have d1 : decide (4294967296 ≤ (q : Int)) = true := decide_eq_true (by omega)
        clear c c1 c3 hq hr
        go_wp2_with fail
        go_round
        case rel => exact ⟨q - 1, r + yn1, by have := HQ.out; omega, by have := C3.out; omega, by rw [EQ1.out], by go_num, HN⟩
        case measure => simp [intOf]; omega
       ·
        have d1 : decide (4294967296 ≤ (q : Int)) = false := decide_eq_false (by omega)
        have d2 : decide (4294967296 * (r : Int) + (un0 : Int) < (m : Int)) = true := decide_eq_true (by omega)
        clear c c1 c3 hq hr
        go_wp2_with fail
        go_round
        case rel => exact ⟨q - 1, r + yn1, by have := HQ.out; omega, by have := C3.out; omega, by rw [EQ1.out], by go_num, HN⟩
        case measure => simp [intOf]; omega
     ·
      have HB := Lib.hid (HH.out.done HP2.out (by rw [← HM.out]; omega))
      have d1 : decide (4294967296 ≤ (q : Int)) = false := decide_eq_false (by omega)
      have d2 : decide (4294967296 * (r : Int) + (un0 : Int) < (m : Int)) = false := decide_eq_false (by omega)
      clear c hq hr
      go_wp2_with fail
      go_meet
      case rel => exact ⟨by rw [HQ0.out, ← HB.out], ⟨_, rfl⟩, rfl⟩
   case rest =>
    obtain ⟨rfl, ⟨r'', rfl⟩, rfl⟩ := hcut
    have hQl0 : Q0 < 4294967296 := by rw [HQ0.out]; exact quo_lt HP2.out
    obtain ⟨R, hR⟩ : ∃ q, q = (un21 * 4294967296 + un0) % (yn1 * 4294967296 + yn0) := ⟨_, rfl⟩
    have hle := left_eq HP2.out HQ0.out
    rw [← hR, ← HYS.out] at hle
    have hul : R < Y := by rw [hR, HYS.out]; exact left_lt HP2.out
    have e15 : IntKind.u64.wrap (IntKind.u64.wrap (IntKind.u64.wrap ((un21 : Int) * 4294967296) + (un0 : Int)) - IntKind.u64.wrap ((Q0 : Int) * (Y : Int))) = (R : Int) := by
     rw [natMul Q0 Y]
     generalize Q0 * Y = pq at *
     simp only [IntKind.wrap_u64]; omega
    have hfin := div_fin (hi := hi) (lo := lo) (y := y) (R := R) (W := Y) (u := u) (z := z) (un1 := un1) (un0 := un0) (un21 := un21) (Q1 := Q1) (Q0 := Q0) (show s < 64 by omega) HU.out.1 HU.out.2.1 HU.out.2.2.1 HU.out.2.2.2 HY.out.1 (show 0 < Y by omega) (by rw [HYS.out]; exact HU21.out) (by rw [HYS.out]; exact HQ1.out) (by rw [HYS.out]; exact HQ0.out) (by rw [HYS.out]; exact hR)
    have HF := Lib.hid hfin
    have HR2 := Lib.hid (show (R : Int) / 2 ^ s = ((R / 2 ^ s : Nat) : Int) by simp)
    clear hfin hle hR hul
    go_wp2_with fail
    rw [HR2.out, HF.out.2, show (Q1 : Int) * 4294967296 + (Q0 : Int) = ((Q1 * 4294967296 + Q0 : Nat) : Int) by simp, HF.out.1]
    go_ret2
    exact ⟨rfl, 0, rfl⟩
end Go.Proofs.YtdaokkgenfpmhaaGreat.FixQ

/- The walks of layer 1: quotients of the program, roots and cosines of both sides. -/
set_option linter.unusedVariables false
set_option linter.unusedSimpArgs false
namespace Go.Proofs.YtdaokkgenfpmhaaGreat.FixO
open Go.RowKit FixM FixD Base Num FixW FixV FixU FixT FixS FixQ

theorem quo_args (A B : Nat) (hA : A ≤ 9223372036854775808) (hB : 1 ≤ B) (hB2 : B ≤ 9223372036854775808) :
  ((A / 4294967296 % B) * 18446744073709551616 + A * 4294967296 % 18446744073709551616) / B = A * 4294967296 / B % 18446744073709551616 ∧
  ((A / 4294967296 % B) * 18446744073709551616 + A * 4294967296 % 18446744073709551616) % B = A * 4294967296 % B ∧
  A / 4294967296 / B = A * 4294967296 / B / 18446744073709551616 := by
 have hl : A * 4294967296 % 18446744073709551616 < 18446744073709551616 := Nat.mod_lt _ (by decide)
 have hX : A * 4294967296 = (A / 4294967296) * 18446744073709551616 + A * 4294967296 % 18446744073709551616 := by omega
 obtain ⟨g1, g2⟩ := whole_gen B (A / 4294967296) 18446744073709551616 (A * 4294967296 % 18446744073709551616) (by omega)
 rw [← hX] at g1 g2
 have hq : ((A / 4294967296 % B) * 18446744073709551616 + A * 4294967296 % 18446744073709551616) / B < 18446744073709551616 := by
  rw [Nat.div_lt_iff_lt_mul (by omega)]
  have h1 : A / 4294967296 % B + 1 ≤ B := Nat.mod_lt _ (by omega)
  have h2 := Nat.mul_le_mul_right 18446744073709551616 h1
  rw [Nat.add_mul, Nat.mul_comm B] at h2
  omega
 refine ⟨?_, g2.symm, ?_⟩
 ·
  rw [g1, Nat.mul_add_mod_self_right, Nat.mod_eq_of_lt hq]
 ·
  rw [g1, Nat.mul_comm, Nat.mul_add_div (by decide), Nat.div_eq_of_lt hq, Nat.add_zero]
def Drawn (v : Value) (w : World) (e : Ending) (w' : World) : Prop := e = .returned v ∧ ∃ n, w' = w.drewN n
set_option maxRecDepth 100000 in
set_option maxHeartbeats 2000000 in
theorem div_any (a b : Int) (ha1 : -9223372036854775808 ≤ a) (ha2 : a ≤ 9223372036854775807) (hb1 : -9223372036854775808 ≤ b) (hb2 : b ≤ 9223372036854775807) (w : World) : Calls Tryz.prog 51 #[.int .i64 a, .int .i64 b] w (Drawn (.int .i64 (divF a b)) w) := by
 by_cases h0 : b = 0
 ·
  subst h0
  by_cases c1 : 0 < a
  ·
   have HV := Lib.hid (show divF a 0 = 9223372036854775807 by unfold divF; rw [if_pos rfl, if_pos c1])
   go_enter Tryz.func51, Tryz.ntmps51
   go_wp2_with fail
   go_ret
   exact ⟨ret_int HV.out.symm, 0, rfl⟩
  ·
   by_cases c2 : a < 0
   ·
    have HV := Lib.hid (show divF a 0 = -9223372036854775808 by unfold divF; rw [if_pos rfl, if_neg c1, if_pos c2])
    go_enter Tryz.func51, Tryz.ntmps51
    go_wp2_with fail
    go_ret
    exact ⟨ret_int HV.out.symm, 0, rfl⟩
   ·
    have HV := Lib.hid (show divF a 0 = 0 by unfold divF; rw [if_pos rfl, if_neg c1, if_neg c2])
    go_enter Tryz.func51, Tryz.ntmps51
    go_wp2_with fail
    go_ret
    exact ⟨ret_int HV.out.symm, 0, rfl⟩
 ·
  have ht := divF_told a b h0
  have b0 : (b == 0) = false := by simpa using h0
  have sa := size_any a ha1 ha2
  have sb := size_any b hb1 hb2
  have hA : a.natAbs ≤ 9223372036854775808 := by omega
  have hB : 1 ≤ b.natAbs := by omega
  have hB2 : b.natAbs ≤ 9223372036854775808 := by omega
  generalize a.natAbs = A at *
  generalize b.natAbs = B at *
  obtain ⟨g1, g2, g3⟩ := quo_args A B hA hB hB2
  obtain ⟨hi, hhi⟩ : ∃ q, q = A / 4294967296 := ⟨_, rfl⟩
  obtain ⟨l, hl⟩ : ∃ q, q = A * 4294967296 % 18446744073709551616 := ⟨_, rfl⟩
  obtain ⟨hr, hhr⟩ : ∃ q, q = hi % B := ⟨_, rfl⟩
  obtain ⟨hq, hhq⟩ : ∃ q, q = hi / B := ⟨_, rfl⟩
  rw [← hhi, ← hl, ← hhr] at g1 g2
  rw [← hhi, ← hhq] at g3
  have hlt : hr < B := by rw [hhr]; exact Nat.mod_lt _ (by omega)
  have d1 := div64_any hr l B hlt (by omega) (by omega)
  rw [g1, g2] at d1
  obtain ⟨Q, hQ⟩ : ∃ Q, Q = A * 4294967296 / B % 18446744073709551616 := ⟨_, rfl⟩
  obtain ⟨R, hR⟩ : ∃ R, R = A * 4294967296 % B := ⟨_, rfl⟩
  rw [← hQ, ← hR] at d1
  rw [← hQ, ← hR, ← g3] at ht
  have e1 : (A : Int) / 4294967296 = (hi : Int) := by rw [hhi]; omega
  have e2 : IntKind.u64.wrap ((A : Int) * 4294967296) = (l : Int) := by rw [IntKind.wrap_u64, hl]; omega
  have e3 : (hi : Int) % (B : Int) = (hr : Int) := by rw [natMod, ← hhr]
  have e4 : IntKind.u64.wrap ((hi : Int) / (B : Int)) = (hq : Int) := by rw [hhq]; exact wrapN' hi B (by omega)
  have e5 : ((R : Int) != 0) = decide (R ≠ 0) := by rw [Bool.eq_iff_iff, bne_iff_ne, decide_eq_true_iff]; omega
  have hb0 : hi < 18446744073709551616 := by omega
  have hb3 : Q < 18446744073709551616 := by rw [hQ]; exact Nat.mod_lt _ (by decide)
  have D1 := Lib.hid d1
  have T := Lib.hid ht
  have SA := Lib.hid sa
  have SB := Lib.hid sb
  clear h0 g1 g2 g3 hhi hl hhr hhq hQ hR d1 ht sa sb
  have T1 := fun w => told1_any hq Q (decide (R ≠ 0)) hb3 w
  have T2 := fun w => told2_any hq Q (decide (R ≠ 0)) hb3 w
  cases hs : sameB a b
  all_goals
   have HS := Lib.hid hs
   have HT1 := Lib.hid T1
   have HT2 := Lib.hid T2
   clear hs T1 T2
   go_enter Tryz.func51, Tryz.ntmps51
   go_wp2_with fail
   refine (signs_any a b _).mono ?_
   rintro e w1 ⟨rfl, rfl⟩
   rw [HS.out]
   unfold toldV
   simp only [if_true, if_false, Bool.false_eq_true]
   go_wp2_with fail
   refine (SA.out _).mono ?_
   rintro e w1 ⟨rfl, rfl⟩
   go_wp2_with fail
   refine (SB.out _).mono ?_
   rintro e w1 ⟨rfl, rfl⟩
   go_wp2_with fail
   refine (D1.out _).mono ?_
   rintro e w1 ⟨rfl, n, rfl⟩
   go_wp2_with fail
   rw [show (!decide (R = 0)) = decide (R ≠ 0) by simp]
   (first | (with_reducible refine (HT1.out _).mono ?_) | (with_reducible refine (HT2.out _).mono ?_))
   rintro e w1 ⟨rfl, rfl⟩
   have HT := T.out
   rw [HS.out] at HT
   rw [HT]
   clear HT
   go_wp2_with fail
   go_ret
   exact ⟨rfl, n, rfl⟩
end Go.Proofs.YtdaokkgenfpmhaaGreat.FixO

/- The walks of layer 1: roots and cosines of both sides. -/
set_option linter.unusedVariables false
set_option linter.unusedSimpArgs false
namespace Go.Proofs.YtdaokkgenfpmhaaGreat.FixN
open Go.RowKit FixM Base Num FixW FixV FixU FixT FixS

theorem cmp_sq (X n hi lo : Nat) (h : n = hi * 18446744073709551616 + lo) (hl : lo < 18446744073709551616) (hX : X ≤ n) :
  X / 18446744073709551616 < hi ∨ (X / 18446744073709551616 = hi ∧ X % 18446744073709551616 ≤ lo) := by omega
theorem cmp_sq' (X n hi lo : Nat) (h : n = hi * 18446744073709551616 + lo) (hl : lo < 18446744073709551616) (hX : ¬ X ≤ n) :
  hi < X / 18446744073709551616 ∨ (X / 18446744073709551616 = hi ∧ lo < X % 18446744073709551616) := by omega

set_option maxRecDepth 100000 in
set_option maxHeartbeats 4000000 in
theorem sqrt_any (a : Int) (h1 : -9223372036854775808 ≤ a) (h2 : a ≤ 9223372036854775807) (w : World) : Calls Tryz.prog 91 #[.int .i64 a] w fun e w' => e = .returned (.int .i64 (sqrtF a)) ∧ w = w' := by
 by_cases c0 : a < 1
 ·
  have HV := Lib.hid (show sqrtF a = 0 by unfold sqrtF; rw [if_pos c0])
  go_enter Tryz.func91, Tryz.ntmps91
  go_wp2_with fail
  go_ret
  exact ⟨ret_int HV.out.symm, rfl⟩
 ·
  have hv : sqrtF a = ((root (a.toNat * 4294967296) : Nat) : Int) := by unfold sqrtF; rw [if_neg c0]
  obtain ⟨A, hA⟩ : ∃ A : Nat, a = (A : Int) := ⟨a.toNat, by omega⟩
  subst hA
  rw [show ((A : Int)).toNat = A by omega] at hv
  obtain ⟨n, hn⟩ : ∃ n, n = A * 4294967296 := ⟨_, rfl⟩
  rw [← hn] at hv
  obtain ⟨hi, hhi⟩ : ∃ q, q = A / 4294967296 := ⟨_, rfl⟩
  obtain ⟨lo, hlo⟩ : ∃ q, q = A * 4294967296 % 18446744073709551616 := ⟨_, rfl⟩
  have hsplit : n = hi * 18446744073709551616 + lo := by rw [hn, hhi, hlo]; exact split_n A
  have hlb : lo < 18446744073709551616 := by omega
  have hnb : n < 79228162514264337593543950336 := by omega
  have e1 : (A : Int) / 4294967296 = (hi : Int) := by rw [hhi]; omega
  have e2 : IntKind.u64.wrap ((A : Int) * 4294967296) = (lo : Int) := by rw [IntKind.wrap_u64, hlo]; omega
  have HV := Lib.hid hv
  have HN := Lib.hid (And.intro hsplit (And.intro hlb hnb))
  clear hv hn hhi hlo hsplit hnb
  go_enter Tryz.func91, Tryz.ntmps91
  go_wp2_with fail
  clear e1 e2
  go_loop [5, 6] (fun vr vb => ∃ k r m : Nat, k ≤ 48 ∧ vr = .int .u64 (r : Int) ∧ vb = .int .u64 ((2 ^ k / 2 : Nat) : Int) ∧ r = m * 2 ^ k ∧ r + 2 ^ k ≤ 281474976710656 ∧ Hid (rootB n k r = root n)) (fun _ v => (intOf v).toNat)
  case atStart => exact ⟨48, 0, 0, by omega, rfl, rfl, by simp, by decide, Lib.hid (rootB_start n)⟩
  case round =>
   obtain ⟨k, r, m, hk, rfl, rfl, hrm, hr2, hroot⟩ := hrel
   cases k with
   | zero =>
    have HR := Lib.hid (show (r : Int) = sqrtF (A : Int) by rw [HV.out, ← hroot.out, rootB_zero])
    have hrb : r < 281474976710656 := by simp at hr2; omega
    clear hrm hr2 hroot
    simp only [Nat.pow_zero, show (1 : Nat) / 2 = 0 from rfl]
    go_wp2_with fail
    go_ret
    exact ⟨ret_int HR.out, rfl⟩
   | succ j =>
    have hp : 2 ^ (j + 1) = 2 * 2 ^ j := by rw [Nat.pow_succ]; omega
    have hp2 : 2 ^ (j + 1) / 2 = 2 ^ j := by rw [hp]; omega
    rw [hp2]
    obtain ⟨b, hb⟩ : ∃ b, b = 2 ^ j := ⟨_, rfl⟩
    have hb1 : 1 ≤ b := by rw [hb]; exact Nat.one_le_two_pow
    have hor : bits .or .u64 (r : Int) (b : Int) = ((r + b : Nat) : Int) := by
     rw [u64_or_nat r b (by omega) (by omega), hrm, or_disjoint m b (j + 1) (by omega)]
    obtain ⟨nx, hnx⟩ : ∃ x, x = r + b := ⟨_, rfl⟩
    rw [← hnx] at hor
    rw [← hb]
    have hnb : nx < 281474976710656 := by omega
    have m1 := mul64_any nx nx (by omega) (by omega) w
    obtain ⟨X, hX⟩ : ∃ X, X = nx * nx := ⟨_, rfl⟩
    rw [← hX] at m1
    obtain ⟨H, hH⟩ : ∃ H, H = X / 18446744073709551616 := ⟨_, rfl⟩
    obtain ⟨L, hL⟩ : ∃ L, L = X % 18446744073709551616 := ⟨_, rfl⟩
    rw [← hH, ← hL] at m1
    have M1 := Lib.hid m1
    have NX := Lib.hid (And.intro hnx (And.intro hrm (And.intro hr2 (And.intro hp hb))))
    have hrl : r < 281474976710656 := by omega
    have hbl : b < 281474976710656 := by omega
    have hlt : L < 18446744073709551616 := by omega
    by_cases fits : X ≤ n
    ·
     have HR := Lib.hid (show rootB n j nx = root n by rw [← hroot.out, rootB_fit n j r (by rw [← hb, ← hnx, ← hX]; exact fits), ← hb, ← hnx])
     have hc := cmp_sq X n hi lo HN.out.1 hlb fits
     rw [← hH, ← hL] at hc
     have REL := Lib.hid (show ∃ m' : Nat, nx = m' * 2 ^ j ∧ nx + 2 ^ j ≤ 281474976710656 from ⟨2 * m + 1, by rw [hnx, hrm, hp, Nat.add_mul, ← hb]; rw [Nat.mul_left_comm, ← Nat.mul_assoc]; omega, by rw [← hb]; omega⟩)
     clear fits m1 hX hH hL hrm hr2 hp hp2 hnx hroot hb
     rcases hc with hc | ⟨hc, hc2⟩
     ·
      have d1 : decide (H < hi) = true := decide_eq_true (by omega)
      go_wp2_with fail
      refine M1.out.mono ?_
      rintro e w1 ⟨rfl, rfl⟩
      go_wp2_with fail
      go_round
      case rel => obtain ⟨m', r1, r2⟩ := REL.out; exact ⟨j, nx, m', by omega, rfl, by rw [← NX.out.2.2.2.2]; exact congrArg (Value.int .u64) (by omega), r1, r2, HR⟩
      case measure => simp [intOf]; omega
     ·
      have d1 : decide (H < hi) = false := decide_eq_false (by omega)
      have d1' : ¬ H < hi := by omega
      have d2 : ((H : Int) == (hi : Int)) = true := by simp; omega
      have d3 : decide (L ≤ lo) = true := decide_eq_true (by omega)
      clear hc
      go_wp2_with fail
      refine M1.out.mono ?_
      rintro e w1 ⟨rfl, rfl⟩
      go_wp2_with fail
      go_round
      case rel => obtain ⟨m', r1, r2⟩ := REL.out; exact ⟨j, nx, m', by omega, rfl, by rw [← NX.out.2.2.2.2]; exact congrArg (Value.int .u64) (by omega), r1, r2, HR⟩
      case measure => simp [intOf]; omega
    ·
     have HR := Lib.hid (show rootB n j r = root n by rw [← hroot.out, rootB_skip n j r (by rw [← hb, ← hnx, ← hX]; exact fits)])
     have hc := cmp_sq' X n hi lo HN.out.1 hlb fits
     rw [← hH, ← hL] at hc
     have REL := Lib.hid (show ∃ m' : Nat, r = m' * 2 ^ j ∧ r + 2 ^ j ≤ 281474976710656 from ⟨2 * m, by rw [hrm, hp]; rw [Nat.mul_left_comm, ← Nat.mul_assoc], by rw [← hb]; omega⟩)
     clear fits m1 hX hH hL hrm hr2 hp hp2 hnx hroot hb
     rcases hc with hc | ⟨hc, hc2⟩
     ·
      have d1 : decide (H < hi) = false := decide_eq_false (by omega)
      have d1' : ¬ H < hi := by omega
      have d2 : ((H : Int) == (hi : Int)) = false := by simp; omega
      clear hc
      go_wp2_with fail
      refine M1.out.mono ?_
      rintro e w1 ⟨rfl, rfl⟩
      go_wp2_with fail
      go_round
      case rel => obtain ⟨m', r1, r2⟩ := REL.out; exact ⟨j, r, m', by omega, rfl, by rw [← NX.out.2.2.2.2]; exact congrArg (Value.int .u64) (by omega), r1, r2, HR⟩
      case measure => simp [intOf]; omega
     ·
      have d1 : decide (H < hi) = false := decide_eq_false (by omega)
      have d1' : ¬ H < hi := by omega
      have d2 : ((H : Int) == (hi : Int)) = true := by simp; omega
      have d3 : decide (L ≤ lo) = false := decide_eq_false (by omega)
      have d3' : ¬ L ≤ lo := by omega
      clear hc
      go_wp2_with fail
      refine M1.out.mono ?_
      rintro e w1 ⟨rfl, rfl⟩
      go_wp2_with fail
      go_round
      case rel => obtain ⟨m', r1, r2⟩ := REL.out; exact ⟨j, r, m', by omega, rfl, by rw [← NX.out.2.2.2.2]; exact congrArg (Value.int .u64) (by omega), r1, r2, HR⟩
      case measure => simp [intOf]; omega

set_option maxRecDepth 100000 in
set_option maxHeartbeats 4000000 in
theorem rsqrt_any (a : Int) (h1 : -9223372036854775808 ≤ a) (h2 : a ≤ 9223372036854775807) (w : World) : Calls Tryz.prog 101 #[.int .i64 a] w fun e w' => e = .returned (.int .i64 (sqrtF a)) ∧ w = w' := by
 by_cases c0 : a < 1
 ·
  have HV := Lib.hid (show sqrtF a = 0 by unfold sqrtF; rw [if_pos c0])
  go_enter Tryz.func101, Tryz.ntmps101
  go_wp2_with fail
  go_ret
  exact ⟨ret_int HV.out.symm, rfl⟩
 ·
  have hv : sqrtF a = ((root (a.toNat * 4294967296) : Nat) : Int) := by unfold sqrtF; rw [if_neg c0]
  obtain ⟨A, hA⟩ : ∃ A : Nat, a = (A : Int) := ⟨a.toNat, by omega⟩
  subst hA
  rw [show ((A : Int)).toNat = A by omega] at hv
  obtain ⟨n, hn⟩ : ∃ n, n = A * 4294967296 := ⟨_, rfl⟩
  rw [← hn] at hv
  obtain ⟨hi, hhi⟩ : ∃ q, q = A / 4294967296 := ⟨_, rfl⟩
  obtain ⟨lo, hlo⟩ : ∃ q, q = A * 4294967296 % 18446744073709551616 := ⟨_, rfl⟩
  have hsplit : n = hi * 18446744073709551616 + lo := by rw [hn, hhi, hlo]; exact split_n A
  have hlb : lo < 18446744073709551616 := by omega
  have hnb : n < 79228162514264337593543950336 := by omega
  have e1 : (A : Int) / 4294967296 = (hi : Int) := by rw [hhi]; omega
  have e2 : IntKind.u64.wrap ((A : Int) * 4294967296) = (lo : Int) := by rw [IntKind.wrap_u64, hlo]; omega
  have HV := Lib.hid hv
  have HN := Lib.hid (And.intro hsplit (And.intro hlb hnb))
  have HE := Lib.hid (And.intro e1 e2)
  clear hv hn hhi hlo hsplit hnb e1 e2
  go_enter Tryz.func101, Tryz.ntmps101
  go_wp2_with fail
  go_loop [3, 4] (fun vl vh => ∃ l h : Nat, l < h ∧ h ≤ 281474976710656 ∧ vl = .int .i64 (l : Int) ∧ vh = .int .i64 (h : Int) ∧ Hid (l * l ≤ n ∧ n < h * h)) (fun vl vh => (intOf vh - intOf vl).toNat)
  case atStart => exact ⟨0, 281474976710656, by omega, by omega, rfl, rfl, Lib.hid ⟨by omega, by have := HN.out.2.2; simpa using this⟩⟩
  case round =>
   obtain ⟨l, h, hlh, hh, rfl, rfl, HH⟩ := hrel
   by_cases c : 1 < h - l
   ·
    have d0 : decide (1 < (h : Int) - (l : Int)) = true := decide_eq_true (by omega)
    obtain ⟨mid, hmid⟩ : ∃ m, m = (l + h) / 2 := ⟨_, rfl⟩
    have em : ((l : Int) + (h : Int)) / 2 = (mid : Int) := by rw [hmid]; omega
    have hm1 : l < mid := by omega
    have hm2 : mid < h := by omega
    have m1 := product_any mid mid (by omega) (by omega) w
    obtain ⟨X, hX⟩ : ∃ X, X = mid * mid := ⟨_, rfl⟩
    rw [← hX] at m1
    obtain ⟨H, hH⟩ : ∃ H, H = X / 18446744073709551616 := ⟨_, rfl⟩
    obtain ⟨L, hL⟩ : ∃ L, L = X % 18446744073709551616 := ⟨_, rfl⟩
    rw [← hH, ← hL] at m1
    have M1 := Lib.hid m1
    have hlt : L < 18446744073709551616 := by omega
    obtain ⟨e1, e2⟩ := HE.out
    by_cases fits : X ≤ n
    ·
     have HR := Lib.hid (show mid * mid ≤ n ∧ n < h * h from ⟨by rw [← hX]; exact fits, HH.out.2⟩)
     have hc := cmp_sq X n hi lo HN.out.1 hlb fits
     rw [← hH, ← hL] at hc
     clear fits m1 hX hH hL c hmid
     rcases hc with hc | ⟨hc, hc2⟩
     ·
      have d1 : decide (H < hi) = true := decide_eq_true (by omega)
      go_wp2_with fail
      refine M1.out.mono ?_
      rintro e w1 ⟨rfl, rfl⟩
      go_wp2_with fail
      go_round
      case rel => exact ⟨mid, h, hm2, hh, rfl, rfl, HR⟩
      case measure => simp [intOf]; omega
     ·
      have d1 : decide (H < hi) = false := decide_eq_false (by omega)
      have d1' : ¬ H < hi := by omega
      have d2 : ((H : Int) == (hi : Int)) = true := by simp; omega
      have d3 : decide (L ≤ lo) = true := decide_eq_true (by omega)
      clear hc
      go_wp2_with fail
      refine M1.out.mono ?_
      rintro e w1 ⟨rfl, rfl⟩
      go_wp2_with fail
      go_round
      case rel => exact ⟨mid, h, hm2, hh, rfl, rfl, HR⟩
      case measure => simp [intOf]; omega
    ·
     have HR := Lib.hid (show l * l ≤ n ∧ n < mid * mid from ⟨HH.out.1, by rw [← hX]; omega⟩)
     have hc := cmp_sq' X n hi lo HN.out.1 hlb fits
     rw [← hH, ← hL] at hc
     clear fits m1 hX hH hL c hmid
     rcases hc with hc | ⟨hc, hc2⟩
     ·
      have d1 : decide (H < hi) = false := decide_eq_false (by omega)
      have d1' : ¬ H < hi := by omega
      have d2 : ((H : Int) == (hi : Int)) = false := by simp; omega
      clear hc
      go_wp2_with fail
      refine M1.out.mono ?_
      rintro e w1 ⟨rfl, rfl⟩
      go_wp2_with fail
      go_round
      case rel => exact ⟨l, mid, hm1, by omega, rfl, rfl, HR⟩
      case measure => simp [intOf]; omega
     ·
      have d1 : decide (H < hi) = false := decide_eq_false (by omega)
      have d1' : ¬ H < hi := by omega
      have d2 : ((H : Int) == (hi : Int)) = true := by simp; omega
      have d3 : decide (L ≤ lo) = false := decide_eq_false (by omega)
      have d3' : ¬ L ≤ lo := by omega
      clear hc
      go_wp2_with fail
      refine M1.out.mono ?_
      rintro e w1 ⟨rfl, rfl⟩
      go_wp2_with fail
      go_round
      case rel => exact ⟨l, mid, hm1, by omega, rfl, rfl, HR⟩
      case measure => simp [intOf]; omega
   ·
    have d0 : decide (1 < (h : Int) - (l : Int)) = false := decide_eq_false (by omega)
    have HR := Lib.hid (show (l : Int) = sqrtF (A : Int) by
     rw [HV.out, root_eq HN.out.2.2 HH.out.1 (by have := HH.out.2; rw [show h = l + 1 by omega] at this; exact this)])
    clear c
    go_wp2_with fail
    go_ret
    exact ⟨ret_int HR.out, rfl⟩

end Go.Proofs.YtdaokkgenfpmhaaGreat.FixN

/- The walk of layer 1's reference: quotients, bit by bit. -/
set_option linter.unusedVariables false
set_option linter.unusedSimpArgs false
namespace Go.Proofs.YtdaokkgenfpmhaaGreat.FixK
open Go.RowKit FixM FixD Base Num FixW FixV FixU FixT FixS

/-- what stands behind the bits down to k -/
structure At (X y k hi lo r : Nat) : Prop where
 q : X / 2 ^ k / y = hi * 18446744073709551616 + lo
 l : lo < 18446744073709551616
 r : X / 2 ^ k % y = r
theorem At.start (X y : Nat) (hX : X < 79228162514264337593543950336) : At X y 96 0 0 0 := by
 have : X / 2 ^ 96 = 0 := Nat.div_eq_of_lt (by simpa using hX)
 exact ⟨by rw [this]; simp, by decide, by rw [this]; simp⟩
theorem At.lt {X y k hi lo r : Nat} (h : At X y k hi lo r) (hy : 0 < y) : r < y := by rw [← h.r]; exact Nat.mod_lt _ hy
theorem At.hi_le {X y k hi lo r : Nat} (h : At X y k hi lo r) (hX : X < 79228162514264337593543950336) : hi < 4294967296 := by
 have h1 : X / 2 ^ k / y ≤ X := Nat.le_trans (Nat.div_le_self _ _) (Nat.div_le_self _ _)
 rw [h.q] at h1
 have := h.l
 omega
theorem At.yes {X y j hi lo r b : Nat} (h : At X y (j + 1) hi lo r) (hy : 0 < y) (hb : X / 2 ^ j % 2 = b) (hc : y ≤ 2 * r + b) :
  At X y j (2 * hi + lo / 9223372036854775808) (2 * lo % 18446744073709551616 + 1) (2 * r + b - y) := by
 have hb1 : b ≤ 1 := by omega
 obtain ⟨e1, e2⟩ := bit_step (X / 2 ^ (j + 1)) y b hb1 hy
 rw [h.r, if_pos hc] at e1 e2
 have hs := shr_step X j
 rw [hb] at hs
 rw [← hs] at e1 e2
 have hl := h.l
 rw [h.q] at e1
 exact ⟨by rw [e1]; omega, by omega, e2⟩
theorem At.no {X y j hi lo r b : Nat} (h : At X y (j + 1) hi lo r) (hy : 0 < y) (hb : X / 2 ^ j % 2 = b) (hc : ¬ y ≤ 2 * r + b) :
  At X y j (2 * hi + lo / 9223372036854775808) (2 * lo % 18446744073709551616) (2 * r + b) := by
 have hb1 : b ≤ 1 := by omega
 obtain ⟨e1, e2⟩ := bit_step (X / 2 ^ (j + 1)) y b hb1 hy
 rw [h.r, if_neg hc] at e1 e2
 have hs := shr_step X j
 rw [hb] at hs
 rw [← hs] at e1 e2
 have hl := h.l
 rw [h.q] at e1
 exact ⟨by rw [e1]; omega, by omega, e2⟩
theorem bit_hi (x j : Nat) (h : 32 ≤ j) : x * 4294967296 / 2 ^ j % 2 = x / 2 ^ (j - 32) % 2 := by
 have e : 2 ^ j = 2 ^ (j - 32) * 4294967296 := by rw [show (4294967296 : Nat) = 2 ^ 32 from rfl, ← Nat.pow_add, show j - 32 + 32 = j by omega]
 rw [e, Nat.mul_div_mul_right _ _ (by decide)]
theorem bit_lo (x j : Nat) (h : j < 32) : x * 4294967296 / 2 ^ j % 2 = 0 := by
 have e : x * 4294967296 = x * 2 ^ (32 - j) * 2 ^ j := by rw [Nat.mul_assoc, ← Nat.pow_add, show 32 - j + j = 32 by omega]
 have e2 : 2 ^ (32 - j) = 2 * 2 ^ (31 - j) := by rw [show 32 - j = 31 - j + 1 by omega, Nat.pow_succ]; omega
 rw [e, Nat.mul_div_cancel _ (Nat.two_pow_pos j), e2, Nat.mul_left_comm]
 omega
theorem and_one (x : Nat) (hx : x < 18446744073709551616) : bits .and .u64 (x : Int) 1 = ((x % 2 : Nat) : Int) := by
 have h := bits_and_u64_nat x 1 hx (by omega)
 have e : x &&& 1 = x % 2 := Nat.and_two_pow_sub_one_eq_mod x 1
 rw [e] at h
 exact h
set_option maxRecDepth 100000 in
set_option maxHeartbeats 4000000 in
theorem rdiv_any (a b : Int) (ha1 : -9223372036854775808 ≤ a) (ha2 : a ≤ 9223372036854775807) (hb1 : -9223372036854775808 ≤ b) (hb2 : b ≤ 9223372036854775807) (w : World) : Calls Tryz.prog 78 #[.int .i64 a, .int .i64 b] w fun e w' => e = .returned (.int .i64 (divF a b)) ∧ w = w' := by
 by_cases h0 : b = 0
 ·
  subst h0
  by_cases c1 : 0 < a
  ·
   have HV := Lib.hid (show divF a 0 = 9223372036854775807 by unfold divF; rw [if_pos rfl, if_pos c1])
   have a0 : (a == 0) = false := by simp; omega
   go_enter Tryz.func78, Tryz.ntmps78
   go_wp2_with fail
   go_ret
   exact ⟨ret_int HV.out.symm, rfl⟩
  ·
   by_cases c2 : a < 0
   ·
    have HV := Lib.hid (show divF a 0 = -9223372036854775808 by unfold divF; rw [if_pos rfl, if_neg c1, if_pos c2])
    have a0 : (a == 0) = false := by simp; omega
    go_enter Tryz.func78, Tryz.ntmps78
    go_wp2_with fail
    go_ret
    exact ⟨ret_int HV.out.symm, rfl⟩
   ·
    have HV := Lib.hid (show divF a 0 = 0 by unfold divF; rw [if_pos rfl, if_neg c1, if_neg c2])
    have a0 : (a == 0) = true := by simp; omega
    go_enter Tryz.func78, Tryz.ntmps78
    go_wp2_with fail
    go_ret
    exact ⟨ret_int HV.out.symm, rfl⟩
 ·
  have ht := divF_told a b h0
  have b0 : (b == 0) = false := by simpa using h0
  have sa := rsize_any a ha1 ha2
  have sb := rsize_any b hb1 hb2
  have hA : a.natAbs ≤ 9223372036854775808 := by omega
  have hB : 1 ≤ b.natAbs := by omega
  have hB2 : b.natAbs ≤ 9223372036854775808 := by omega
  generalize a.natAbs = x at *
  generalize b.natAbs = y at *
  obtain ⟨X, hX⟩ : ∃ X, X = x * 4294967296 := ⟨_, rfl⟩
  rw [← hX] at ht
  have hXb : X < 79228162514264337593543950336 := by omega
  have T := Lib.hid ht
  have SA := Lib.hid sa
  have SB := Lib.hid sb
  have HX := Lib.hid (And.intro hX hXb)
  have HS := Lib.hid (show (!(decide (a < 0) == decide (b < 0))) = !(sameB a b) from rfl)
  clear h0 ht sa sb hX hXb
  go_enter Tryz.func78, Tryz.ntmps78
  go_wp2_with fail
  refine (SA.out _).mono ?_
  rintro e w1 ⟨rfl, rfl⟩
  go_wp2_with fail
  refine (SB.out _).mono ?_
  rintro e w1 ⟨rfl, rfl⟩
  go_wp2_with fail
  go_loop [7, 8, 9, 10] (fun vh vl vr vi => ∃ k hi lo r : Nat, k ≤ 96 ∧ vh = .int .u64 (hi : Int) ∧ vl = .int .u64 (lo : Int) ∧ vr = .int .u64 (r : Int) ∧ vi = .int .i64 ((k : Int) - 1) ∧ Hid (At X y k hi lo r)) (fun _ _ _ vi => (intOf vi + 1).toNat)
  case atStart => exact ⟨96, 0, 0, 0, by omega, rfl, rfl, rfl, rfl, Lib.hid (At.start X y HX.out.2)⟩
  case round =>
   obtain ⟨k, hi, lo, r, hk, rfl, rfl, rfl, rfl, HH⟩ := hrel
   have hlo := HH.out.l
   have hrl := HH.out.lt (by omega)
   have hhi := HH.out.hi_le HX.out.2
   cases k with
   | zero =>
    have hq := HH.out.q
    have hr := HH.out.r
    simp only [Nat.pow_zero, Nat.div_one] at hq hr
    have i1 := in_any hi lo (!(sameB a b)) (decide (X % y ≠ 0)) (by omega) hlo w
    have e1 : X / y / 18446744073709551616 = hi := by omega
    have e2 : X / y % 18446744073709551616 = lo := by omega
    have ht := T.out
    rw [e1, e2] at ht
    rw [Bool.not_not, ht, hr] at i1
    have e3 : decide (r ≠ 0) = decide (0 < r) := by rw [decide_eq_decide]; omega
    rw [e3] at i1
    have I1 := Lib.hid i1
    clear hq hr i1 e1 e2 e3 ht
    go_wp2_with fail
    rw [HS.out]
    refine I1.out.mono ?_
    rintro e w1 ⟨rfl, rfl⟩
    go_wp2_with fail
    go_ret
    exact ⟨rfl, rfl⟩
   | succ j =>
    simp only [show ((j + 1 : Nat) : Int) - 1 = (j : Int) by omega]
    obtain ⟨b', hb'⟩ : ∃ q, X / 2 ^ j % 2 = q := ⟨_, rfl⟩
    have hbl : b' ≤ 1 := by omega
    by_cases c32 : 32 ≤ j
    ·
     have eb : bits .and .u64 ((x : Int) / 2 ^ (j - 32)) 1 = (b' : Int) := by
      rw [show (x : Int) / 2 ^ (j - 32) = ((x / 2 ^ (j - 32) : Nat) : Int) by simp, and_one _ (by have := Nat.div_le_self x (2 ^ (j - 32)); omega), ← bit_hi x j c32, ← HX.out.1, hb']
     by_cases c : y ≤ 2 * r + b'
     ·
      have HN := Lib.hid (HH.out.yes (by omega) hb' c)
      clear hb'
      go_wp2_with fail
      go_round
      case rel => exact ⟨j, 2 * hi + lo / 9223372036854775808, 2 * lo % 18446744073709551616 + 1, 2 * r + b' - y, by omega, congrArg (Value.int .u64) (by omega), congrArg (Value.int .u64) (by simp only [IntKind.wrap_u64]; omega), congrArg (Value.int .u64) (by omega), rfl, HN⟩
      case measure => simp [intOf] <;> omega
     ·
      have HN := Lib.hid (HH.out.no (by omega) hb' c)
      clear hb'
      go_wp2_with fail
      go_round
      case rel => exact ⟨j, 2 * hi + lo / 9223372036854775808, 2 * lo % 18446744073709551616, 2 * r + b', by omega, congrArg (Value.int .u64) (by omega), congrArg (Value.int .u64) (by simp only [IntKind.wrap_u64]; omega), congrArg (Value.int .u64) (by omega), rfl, HN⟩
      case measure => simp [intOf] <;> omega
    ·
     have e0 : b' = 0 := by rw [← hb', HX.out.1]; exact bit_lo x j (by omega)
     subst e0
     by_cases c : y ≤ 2 * r
     ·
      have HN := Lib.hid (HH.out.yes (by omega) hb' (by omega))
      clear hb'
      go_wp2_with fail
      go_round
      case rel => exact ⟨j, 2 * hi + lo / 9223372036854775808, 2 * lo % 18446744073709551616 + 1, 2 * r + 0 - y, by omega, congrArg (Value.int .u64) (by omega), congrArg (Value.int .u64) (by simp only [IntKind.wrap_u64]; omega), congrArg (Value.int .u64) (by omega), rfl, HN⟩
      case measure => simp [intOf] <;> omega
     ·
      have HN := Lib.hid (HH.out.no (by omega) hb' (by omega))
      clear hb'
      go_wp2_with fail
      go_round
      case rel => exact ⟨j, 2 * hi + lo / 9223372036854775808, 2 * lo % 18446744073709551616, 2 * r + 0, by omega, congrArg (Value.int .u64) (by omega), congrArg (Value.int .u64) (by simp only [IntKind.wrap_u64]; omega), congrArg (Value.int .u64) (by omega), rfl, HN⟩
      case measure => simp [intOf] <;> omega
end Go.Proofs.YtdaokkgenfpmhaaGreat.FixK

/- A region that draws its order, whose calls make memory: each contract, met in whatever world of the class 'what was there stands as it stood'. No program is named here. -/
set_option linter.unusedVariables false
set_option linter.unusedSimpArgs false
namespace Go.Proofs.YtdaokkgenfpmhaaGreat.Qb
open Go.RowKit Go.Sort

variable {P : Program}
theorem qb {f : FuncId} {args : Array Value} {W : World} {v : Value} (h : ∀ w, Below W.heap.size W w → Calls P f args w (fun e w' => e = .returned v ∧ Below w.heap.size w w')) (d : Nat) (os : Array Obj) :
  Calls P f args (grow (redrawn W d) os) fun e w'' => e = .returned v ∧ ∃ p : Regrown, w'' = grow (redrawn W p.d) p.os :=
 (h _ (below_regrown W d os)).mono fun _ _ h => ⟨h.1, regrown_of_below ((below_regrown W d os).trans (h.2.mono (below_regrown W d os).size))⟩
theorem qs {f : FuncId} {args : Array Value} {W : World} {v : Value} (h : ∀ w, Calls P f args w (fun e w' => e = .returned v ∧ w = w')) (d : Nat) (os : Array Obj) :
  Calls P f args (grow (redrawn W d) os) fun e w'' => e = .returned v ∧ ∃ p : Regrown, w'' = grow (redrawn W p.d) p.os :=
 (h _).mono fun _ _ h => ⟨h.1, regrown_of_below (by rw [← h.2]; exact below_regrown W d os)⟩
theorem heap_regrown {W : World} {g : Nat} {o : Obj} (h : W.heap[g]? = some o) (d : Nat) (os : Array Obj) : (grow (redrawn W d) os).heap[g]? = some o := by
 rw [(below_regrown W d os).block g (by
  rcases Nat.lt_or_ge g W.heap.size with h' | h'
  ·
   exact h'
  ·
   rw [Array.getElem?_eq_none h'] at h; simp at h)]; exact h
end Go.Proofs.YtdaokkgenfpmhaaGreat.Qb

/- A region that draws its order, whose operations but the last few only read or call quietly, and whose last few come in one order behind all others: one walk in the order of the text. (What Derived/StillTail has for calls that leave the very world, said here of a class of worlds.) No program is named here. -/
set_option linter.unusedVariables false
set_option linter.unusedSimpArgs false
namespace Go.Proofs.YtdaokkgenfpmhaaGreat.Qt
open Go.RowKit Go.Sort Qb

section
variable {P : Program} {ops : Array Oper} {md : Region.Mode} {C : World → Prop} {n : Nat} {L : Array Bool → Act → Prop}

/-- whatever order the first n operations come up in, L holds behind them -/
def Heads (P : Program) (ops : Array Oper) (md : Region.Mode) (C : World → Prop) (n : Nat) (L : Array Bool → Act → Prop) : Nat → Array Bool → Act → Prop
 | 0, s, a => L s a
 | f + 1, s, a => Region.ready md ops s ≠ [] ∧ ∀ k ∈ Region.ready md ops s, k < n ∧ qOp P ops C k (Heads P ops md C n L f (s.setIfInBounds k true)) a

theorem Heads.any {g : Nat} {R : Exit → Act → World → Prop} (hL : ∀ s a w, C w → L s a → wpAny P md ops R g s a w) : ∀ (f : Nat) (s : Array Bool) (a : Act) (w : World), C w → Heads P ops md C n L f s a → wpAny P md ops R (f + g) s a w := by
 intro f
 induction f with
 | zero => intro s a w hw h; rw [Nat.zero_add]; exact hL s a w hw h
 | succ f ih =>
  intro s a w hw h
  have e : f + 1 + g = (f + g) + 1 := by omega
  rw [e]
  refine ⟨fun h0 => absurd h0 h.1, fun k hk => ?_⟩
  exact wpOp_of_qOp hw (fun a' w' hw' ha' => ih _ a' w' hw' ha') (h.2 k hk).2

/-- an operation of the head that may come up, may be taken first -/
theorem Heads.first {i : Nat} {oi : Oper} {v : Value} (hi : ops[i]? = some oi) (hsel : ∀ (j : Nat) (o : Oper) cs b, ops[j]? = some o → o.op ≠ .select cs b)
  (hs : Region.sinkB md ops n = true) (hc : Region.chainB md ops n = true) (hn : n < ops.size) (hin : i < n) (hL : ∀ s a, L s a → ∀ j ∈ Region.ready md ops s, n ≤ j) :
  ∀ (f : Nat) (s : Array Bool) (a : Act), HeadInv md ops n s →
   (∀ j oj, ops[j]? = some oj → j ≠ i → s.getD j true = false → (∀ e ∈ oj.after, Region.binds md e = true → e.on ≠ i) → oi.apart ops oj = true) →
   i ∈ Region.ready md ops s → YieldsIn P ops C oi v a → Heads P ops md C n L f (s.setIfInBounds i true) (a.put oi.dst v) → Heads P ops md C n L (f + 1) s a := by
 have inHead : ∀ s : Array Bool, HeadInv md ops n s → i ∈ Region.ready md ops s → ∀ k ∈ Region.ready md ops s, k < n := by
  intro s inv hr k hk
  rcases Nat.lt_or_ge k n with h | h
  ·
   exact h
  ·
   exact absurd hk (tail_waits hs hc hn inv (n - i) i rfl hin (mem_ready.1 hr).1 k h)
 have notEmpty : ∀ s : Array Bool, i ∈ Region.ready md ops s → Region.ready md ops s ≠ [] := by
  intro s hr h0
  rw [h0] at hr
  cases hr
 intro f
 induction f with
 | zero =>
  intro s a inv _ hr hy h
  refine ⟨notEmpty s hr, fun k hk => ⟨inHead s inv hr k hk, ?_⟩⟩
  by_cases hki : k = i
  ·
   subst hki; exact hy.qOp hi h
  ·
   have h1 := hL _ _ h k (ready_mono hk hki)
   have h2 := inHead s inv hr k hk
   omega
 | succ f ih =>
  intro s a inv hap hr hy h
  refine ⟨notEmpty s hr, fun k hk => ⟨inHead s inv hr k hk, ?_⟩⟩
  by_cases hki : k = i
  ·
   subst hki; exact hy.qOp hi h
  ·
   obtain ⟨hkun, ok, hok, hkall⟩ := mem_ready.1 hk
   have hiun := (mem_ready.1 hr).1
   have hne : ∀ e ∈ ok.after, Region.binds md e = true → e.on ≠ i := by
    intro e he hb heq
    have h3 := hkall e he hb
    rw [heq, getD_both hiun] at h3
    cases h3
   have h4 := qOp_put hok (hap k ok hok hki hkun hne) (fun cs b => hsel i oi cs b hi) (fun cs b => hsel k ok cs b hok) hy (h.2 k (ready_mono hk hki)).2
   refine qOp_mono (fun a' h5 => ?_) h4
   refine ih (s.setIfInBounds k true) a' (inv.set hk (inHead s inv hr k hk)) ?_ (ready_mono hr (Ne.symm hki)) h5.1 ?_
   ·
    intro j oj hj hji hjun hjn
    refine hap j oj hj hji ?_ hjn
    by_cases hkj : k = j
    ·
     subst hkj; exact hkun
    ·
     rw [getD_set_ne true hkj] at hjun; exact hjun
   ·
    rw [Array.setIfInBounds_comm _ _ hki]
    exact h5.2

theorem Heads.lex {g : Nat} {K : Act → Prop} (hsel : Region.noSelect ops = true) (hs : Region.sinkB md ops n = true) (hc : Region.chainB md ops n = true) (hn : n < ops.size) :
  ∀ (l : List Oper) (k : Nat) (s : Array Bool) (a : Act), (∀ j, j < l.length → l[j]? = ops[k + j]?) → k + l.length = n → HeadInv md ops n s → Region.lexHead md ops g l.length k s = true →
   wpQuiet P ops C K l a → Heads P ops md C n (fun s' a' => Region.seqB md ops g n s' = true ∧ K a') l.length s a := by
 intro l
 induction l with
 | nil =>
  intro k s a _ hk _ hB h
  obtain rfl : k = n := by simpa using hk
  exact ⟨by simpa [Region.lexHead] using hB, h⟩
 | cons o l ih =>
  intro k s a hl hk inv hB h
  have h0 : ops[k]? = some o := by have := hl 0 (by simp); simpa using this.symm
  simp only [List.length_cons, Region.lexHead, Bool.and_eq_true] at hB
  obtain ⟨⟨hr, hf⟩, hB'⟩ := hB
  have hkn : k < n := by simp only [List.length_cons] at hk; omega
  have hr' : k ∈ Region.ready md ops s := by simpa using hr
  have hq : qOp P ops C k (wpQuiet P ops C K l) a := by unfold qOp; simp only [h0]; exact h
  obtain ⟨v, hy, hK⟩ := yieldsIn_of_qOp h0 hq
  refine Heads.first h0 (Region.noSelect_spec hsel) hs hc hn hkn (fun s' a' hL => seqB_ready hL.1) l.length s a inv (Region.free_spec h0 hf) hr' hy ?_
  refine ih (k + 1) _ _ (fun j hj => ?_) (by simp only [List.length_cons] at hk; omega) (inv.set hr' hkn) hB' hK
  have := hl (j + 1) (by simp; omega)
  simpa [Nat.add_assoc, Nat.add_comm 1 j] using this

/-- THE LAW: n operations that are quiet in the class C, then the rest in its own order, from whatever world of the class. -/
theorem wp_region_quiet_tail {id : Nat} {Q : Exit → Act → World → Prop} {a : Act} {w : World} {l : List Oper} (n : Nat) (hm : P.follows .mixedOrders = true) (hB : Region.lexTailB .any l.toArray n = true)
  (h0 : C { w with drawn := w.drawn + 1 }) (h : wpQuiet P l.toArray C (fun a' => ∀ w', C w' → wpList P l.toArray Q (l.drop n) a' w') (l.take n) a) : (Code.region id l.toArray true).wp P Q a w := by
 simp only [Region.lexTailB, Bool.and_eq_true, decide_eq_true_eq] at hB
 obtain ⟨⟨⟨⟨hsel, hn⟩, hs⟩, hc⟩, hlex⟩ := hB
 have hn' : n < l.length := by simpa using hn
 have htl : (l.take n).length = n := by simp; omega
 have hdl : (l.drop n).length = l.toArray.size - n := by simp
 have inv0 : HeadInv .any l.toArray n (Array.replicate l.toArray.size false) :=
  ⟨by simp, fun j oj _ hl => (by rw [getD_replicate_false] at hl; cases hl), fun t _ ht => getD_in (by simpa using ht) (getD_replicate_false _ _)⟩
 have H := Heads.lex (md := .any) (g := l.toArray.size - n) hsel hs hc hn (l.take n) 0 _ a (fun j hj => by
  have hj' : j < n := by rw [htl] at hj; exact hj
  simp [hj']) (by simpa using htl) inv0 (by rw [htl]; exact hlex) h
 refine wp_region_any hm ?_
 have key := Heads.any (R := Q) (g := l.toArray.size - n) (fun s a' w' hw' hL => by
  have := wpAny_of_seq (md := .any) (Q' := Q) (l.drop n) n s a' w' (fun j => by simp [List.getElem?_drop]) (by rw [hdl]; exact hL.1) (hL.2 w' hw')
  rwa [hdl] at this) _ _ _ _ h0 H
 rw [htl, show n + (l.toArray.size - n) = l.toArray.size by omega] at key
 exact key

/-- .. at the class 'what was there stands as it stood' -/
theorem wp_region_below_tail {id : Nat} {Q : Exit → Act → World → Prop} {a : Act} {w : World} {l : List Oper} (n : Nat) (hm : P.follows .mixedOrders = true) (hB : Region.lexTailB .any l.toArray n = true)
  (h : wpQuiet P l.toArray (fun w' => ∃ p : Regrown, w' = grow (redrawn w p.d) p.os) (fun a' => ∀ w', (∃ p : Regrown, w' = grow (redrawn w p.d) p.os) → wpList P l.toArray Q (l.drop n) a' w') (l.take n) a) : (Code.region id l.toArray true).wp P Q a w :=
 wp_region_quiet_tail (C := fun w' => ∃ p : Regrown, w' = grow (redrawn w p.d) p.os) n hm hB ⟨⟨w.drawn + 1, #[]⟩, by rw [grow_empty]; rfl⟩ h
end
end Go.Proofs.YtdaokkgenfpmhaaGreat.Qt

/- A region that draws its order and makes new blocks among its operations ('p, q := f(a), g(b)' of boxed structs): the others are quiet, so each keeps its one value whatever has been laid; the new blocks' places hang on the order, so what follows is asked for all places that differ. No program is named here. -/
set_option linter.unusedVariables false
set_option linter.unusedSimpArgs false
namespace Go.Proofs.YtdaokkgenfpmhaaGreat.Qa
open Go.RowKit Go.Sort Qb Qt

/-- the worlds beyond w -/
def Cls (w : World) : World → Prop := fun w' => ∃ p : Regrown, w' = grow (redrawn w p.d) p.os
theorem Cls.refl (w : World) : Cls w w := ⟨⟨w.drawn, #[]⟩, by rw [grow_empty]; rfl⟩
theorem Cls.below {w w' : World} (h : Cls w w') : Below w.heap.size w w' := by obtain ⟨p, rfl⟩ := h; exact below_regrown _ _ _
theorem Cls.of_below {w w' : World} (h : Below w.heap.size w w') : Cls w w' := regrown_of_below h
theorem Cls.trans {w w1 w2 : World} (h : Cls w w1) (h2 : Cls w1 w2) : Cls w w2 := Cls.of_below (h.below.trans (h2.below.mono h.below.size))

abbrev ptr (g : Nat) : Value := .pointer (some ⟨g, 0, none⟩)
section
variable {P : Program} {ops : Array Oper} {md : Region.Mode} {W : World} {n : Nat}

/-- one value in every world beyond W, and what is left lies beyond that very world -/
def Firm (P : Program) (W : World) (o : Oper) (v : Value) (a : Act) : Prop := ∀ w, Below W.heap.size W w → o.quietAt P a (Cls w) w v
theorem Firm.of_same {o : Oper} {v : Value} {a a' : Act} (h : Firm P W o v a) (he : execOp a'.eval o = execOp a.eval o) : Firm P W o v a' := by
 intro w hw
 have := h w hw
 unfold Oper.quietAt at *
 rw [he]; exact this
theorem upon_mono {C C' : World → Prop} (h : ∀ w, C w → C' w) {w : World} {v : Value} {r : Result Next} (hr : Oper.quietUpon P C w v r) : Oper.quietUpon P C' w v r := by
 cases r with
 | halt x w' => simp only [Oper.quietUpon] at hr
 | ok nx w' =>
  cases nx <;> simp only [Oper.quietUpon] at hr ⊢
  case value u => exact hr
  case skip => exact hr
  case enter f args => exact ⟨hr.1, hr.2.mono fun e w'' hh => ⟨hh.1, h _ hh.2⟩⟩

/-- an operation that makes a new block z and leaves its address in slot d -/
structure IsAl (P : Program) (o : Oper) (d : Tmp) (z : Obj) : Prop where
 op : ∃ ty, o.op = .alloc ty ∧ ∀ w, (Instr.alloc ty true (.tuple #[])).run P w = .ok (.pointer (some ⟨w.heap.size, 0, none⟩)) (w.alloc z)
 dst : o.dst = some d
 guard : o.guard = none
theorem IsAl.wanted {o : Oper} {d : Tmp} {z : Obj} (h : IsAl P o d z) (f : Nat → Option Bool) : Region.wanted o f = true := by simp [Region.wanted, h.guard]
theorem IsAl.run {o : Oper} {d : Tmp} {z : Obj} (h : IsAl P o d z) (e : Operand → Value) (w : World) : (execOp e o).run P w = .ok (.value (ptr w.heap.size)) (w.alloc z) := by
 obtain ⟨ty, h1, h2⟩ := h.op
 unfold execOp
 simp only [h1, Sem.run_bind, h2, Result.andThen_ok, Sem.run_pure]

/-- operation k, then K; s: the blocks made so far -/
def St (P : Program) (ops : Array Oper) (W : World) (k : Nat) (K : Act → List (Nat × Obj) → Prop) (a : Act) (s : List (Nat × Obj)) : Prop :=
 ∃ o, ops[k]? = some o ∧ ((∃ d z, IsAl P o d z ∧ ∀ g, W.heap.size ≤ g → (∀ p ∈ s, p.1 ≠ g) → K (a.put (some d) (ptr g)) ((g, z) :: s)) ∨ (Region.wanted o (yielded ops a.tmps) = true ∧ ∃ v, Firm P W o v a ∧ K (a.put o.dst v) s))
theorem St.mono {k : Nat} {K K' : Act → List (Nat × Obj) → Prop} (h : ∀ a s, K a s → K' a s) {a : Act} {s : List (Nat × Obj)} (hs : St P ops W k K a s) : St P ops W k K' a s := by
 obtain ⟨o, ho, h1⟩ := hs
 rcases h1 with ⟨d, z, h2, h3⟩ | ⟨h2, v, h3, h4⟩
 ·
  exact ⟨o, ho, .inl ⟨d, z, h2, fun g hg hf => h _ _ (h3 g hg hf)⟩⟩
 ·
  exact ⟨o, ho, .inr ⟨h2, v, h3, h _ _ h4⟩⟩
/-- whatever order the first n come up in -/
def Hd (P : Program) (ops : Array Oper) (md : Region.Mode) (W : World) (n : Nat) (L : Array Bool → Act → List (Nat × Obj) → Prop) : Nat → Array Bool → Act → List (Nat × Obj) → Prop
 | 0, t, a, s => L t a s
 | f + 1, t, a, s => Region.ready md ops t ≠ [] ∧ ∀ k ∈ Region.ready md ops t, k < n ∧ St P ops W k (Hd P ops md W n L f (t.setIfInBounds k true)) a s
/-- the worlds in which the blocks s stand -/
def D (W : World) (s : List (Nat × Obj)) (w : World) : Prop := Below W.heap.size W w ∧ ∀ p ∈ s, w.heap[p.1]? = some p.2

theorem St.op {k : Nat} {K : Act → List (Nat × Obj) → Prop} {K' : Act → World → Prop} {R : Exit → Act → World → Prop} {a : Act} {s : List (Nat × Obj)} {w : World} (hD : D W s w) (hst : St P ops W k K a s)
  (h : ∀ a' s' w', D W s' w' → K a' s' → K' a' w') : wpOp P ops R k K' a w := by
 obtain ⟨o, ho, h1⟩ := hst
 rcases h1 with ⟨d, z, h2, h3⟩ | ⟨h2, v, h3, h4⟩
 ·
  unfold wpOp
  simp only [ho, h2.wanted, if_true]
  refine .inl ?_
  unfold Oper.wp
  rw [h2.run]
  show K' (a.put o.dst (ptr w.heap.size)) (w.alloc z)
  rw [h2.dst]
  have hlt : ∀ p ∈ s, p.1 < w.heap.size := by
   intro p hp
   have := hD.2 p hp
   rcases Nat.lt_or_ge p.1 w.heap.size with h' | h'
   ·
    exact h'
   ·
    rw [Array.getElem?_eq_none h'] at this; simp at this
  refine h _ ((w.heap.size, z) :: s) _ ⟨hD.1.alloc hD.1.size z, ?_⟩ (h3 w.heap.size hD.1.size fun p hp e => by have := hlt p hp; omega)
  intro p hp
  rcases List.mem_cons.1 hp with rfl | hp
  ·
   exact heap_alloc_new w z
  ·
   rw [heap_alloc_old w z (hlt p hp)]; exact hD.2 p hp
 ·
  refine wpOp_of_qOp (C := Cls w) (K := fun a' => a' = a.put o.dst v) (Cls.refl w) (fun a' w' hw' ha' => ?_) ?_
  ·
   subst ha'
   refine h _ s _ ⟨hD.1.trans (hw'.below.mono hD.1.size), fun p hp => ?_⟩ h4
   have := hD.2 p hp
   rw [hw'.below.block p.1 (by
    rcases Nat.lt_or_ge p.1 w.heap.size with h' | h'
    ·
     exact h'
    ·
     rw [Array.getElem?_eq_none h'] at this; simp at this)]
   exact this
  ·
   unfold qOp
   simp only [ho, h2, if_true]
   exact ⟨v, fun w1 hw1 => upon_mono (fun w2 hw2 => hw1.trans hw2) (h3 w1 (hD.1.trans (hw1.below.mono hD.1.size))), rfl⟩
theorem Hd.any {g : Nat} {L : Array Bool → Act → List (Nat × Obj) → Prop} {R : Exit → Act → World → Prop} (hL : ∀ t a s w, D W s w → L t a s → wpAny P md ops R g t a w) :
  ∀ (f : Nat) (t : Array Bool) (a : Act) (s : List (Nat × Obj)) (w : World), D W s w → Hd P ops md W n L f t a s → wpAny P md ops R (f + g) t a w := by
 intro f
 induction f with
 | zero => intro t a s w hw h; rw [Nat.zero_add]; exact hL t a s w hw h
 | succ f ih =>
  intro t a s w hw h
  rw [show f + 1 + g = (f + g) + 1 by omega]
  exact ⟨fun h0 => absurd h0 h.1, fun k hk => (h.2 k hk).2.op hw fun a' s' w' hw' ha' => ih _ a' s' w' hw' ha'⟩

/-- a quiet operation that may come up, may be taken first -/
theorem Hd.first {L : Array Bool → Act → List (Nat × Obj) → Prop} {i : Nat} {oi : Oper} {v : Value} (hi : ops[i]? = some oi) (hsel : ∀ (j : Nat) (o : Oper) cs b, ops[j]? = some o → o.op ≠ .select cs b)
  (hs : Region.sinkB md ops n = true) (hc : Region.chainB md ops n = true) (hn : n < ops.size) (hin : i < n) (hL : ∀ t a s, L t a s → ∀ j ∈ Region.ready md ops t, n ≤ j) :
  ∀ (f : Nat) (t : Array Bool) (a : Act) (s : List (Nat × Obj)), HeadInv md ops n t →
   (∀ j oj, ops[j]? = some oj → j ≠ i → t.getD j true = false → (∀ e ∈ oj.after, Region.binds md e = true → e.on ≠ i) → oi.apart ops oj = true) →
   i ∈ Region.ready md ops t → Region.wanted oi (yielded ops a.tmps) = true → Firm P W oi v a → Hd P ops md W n L f (t.setIfInBounds i true) (a.put oi.dst v) s → Hd P ops md W n L (f + 1) t a s := by
 have inHead : ∀ t : Array Bool, HeadInv md ops n t → i ∈ Region.ready md ops t → ∀ k ∈ Region.ready md ops t, k < n := by
  intro t inv hr k hk
  rcases Nat.lt_or_ge k n with h | h
  ·
   exact h
  ·
   exact absurd hk (tail_waits hs hc hn inv (n - i) i rfl hin (mem_ready.1 hr).1 k h)
 have notEmpty : ∀ t : Array Bool, i ∈ Region.ready md ops t → Region.ready md ops t ≠ [] := by
  intro t hr h0
  rw [h0] at hr
  cases hr
 intro f
 induction f with
 | zero =>
  intro t a s inv _ hr hw hy h
  refine ⟨notEmpty t hr, fun k hk => ⟨inHead t inv hr k hk, ?_⟩⟩
  by_cases hki : k = i
  ·
   subst hki; exact ⟨oi, hi, .inr ⟨hw, v, hy, h⟩⟩
  ·
   have h1 := hL _ _ _ h k (ready_mono hk hki)
   have h2 := inHead t inv hr k hk
   omega
 | succ f ih =>
  intro t a s inv hap hr hw hy h
  refine ⟨notEmpty t hr, fun k hk => ⟨inHead t inv hr k hk, ?_⟩⟩
  by_cases hki : k = i
  ·
   subst hki; exact ⟨oi, hi, .inr ⟨hw, v, hy, h⟩⟩
  ·
   obtain ⟨hkun, ok, hok, hkall⟩ := mem_ready.1 hk
   have hiun := (mem_ready.1 hr).1
   have hne : ∀ e ∈ ok.after, Region.binds md e = true → e.on ≠ i := by
    intro e he hb heq
    have h3 := hkall e he hb
    rw [heq, getD_both hiun] at h3
    cases h3
   have hapk := hap k ok hok hki hkun hne
   obtain ⟨p1, p2, p3⟩ := Oper.apart_spec hapk
   have hseli := fun cs b => hsel i oi cs b hi
   have hselk := fun cs b => hsel k ok cs b hok
   have onward : ∀ (a' : Act) (s' : List (Nat × Obj)), Region.wanted oi (yielded ops a'.tmps) = true → Firm P W oi v a' → Hd P ops md W n L f ((t.setIfInBounds i true).setIfInBounds k true) (a'.put oi.dst v) s' →
     Hd P ops md W n L (f + 1) (t.setIfInBounds k true) a' s' := by
    intro a' s' hw' hy' h'
    refine ih (t.setIfInBounds k true) a' s' (inv.set hk (inHead t inv hr k hk)) ?_ (ready_mono hr (Ne.symm hki)) hw' hy' ?_
    ·
     intro j oj hj hji hjun hjn
     refine hap j oj hj hji ?_ hjn
     by_cases hkj : k = j
     ·
      subst hkj; exact hkun
     ·
      rw [getD_set_ne true hkj] at hjun; exact hjun
    ·
     rw [Array.setIfInBounds_comm _ _ hki]; exact h'
   obtain ⟨o', ho', h4⟩ := (h.2 k (ready_mono hk hki)).2
   obtain rfl : o' = ok := Option.some.inj (ho'.symm.trans hok)
   rcases h4 with ⟨d, z, h5, h6⟩ | ⟨h5, u, h6, h7⟩
   ·
    refine ⟨o', hok, .inl ⟨d, z, h5, fun g hg hf => ?_⟩⟩
    have p3' : ∀ d', some d = some d' → d' ∉ oi.looksAt ops := by intro d' e; exact p3 d' (by rw [h5.dst]; exact e)
    refine onward _ _ ?_ (hy.of_same (execOp_put oi hseli a (some d) (ptr g) p3')) ?_
    ·
     rw [wanted_put oi a (some d) (ptr g) p3']; exact hw
    ·
     rw [Act.put_comm a (ptr g) v (fun d' e => by have := p2; intro e2; exact this d' e2 (by rw [h5.dst]; exact e))]
     exact h6 g hg hf
   ·
    refine ⟨o', hok, .inr ⟨?_, u, ?_, ?_⟩⟩
    ·
     rw [← wanted_put o' a oi.dst v p1]; exact h5
    ·
     exact h6.of_same (execOp_put o' hselk a oi.dst v p1).symm
    ·
     refine onward _ _ ?_ (hy.of_same (execOp_put oi hseli a o'.dst u p3)) ?_
     ·
      rw [wanted_put oi a o'.dst u p3]; exact hw
     ·
      rw [← Act.put_comm a v u p2]; exact h7

/-! ### the new blocks, in any order -/
/-- an alloc: its number, its slot, its block -/
abbrev A3 := Nat × Tmp × Obj
/-- for all places that differ -/
def All (W : World) (K : Act → List (Nat × Obj) → Prop) : List A3 → Act → List (Nat × Obj) → Prop
 | [], a, s => K a s
 | x :: r, a, s => ∀ g, W.heap.size ≤ g → (∀ p ∈ s, p.1 ≠ g) → All W K r (a.put (some x.2.1) (ptr g)) ((g, x.2.2) :: s)
theorem All.perm {K : Act → List (Nat × Obj) → Prop} (hK : ∀ a s s', s.Perm s' → K a s → K a s') : ∀ (r : List A3) (a : Act) (s s' : List (Nat × Obj)), s.Perm s' → All W K r a s → All W K r a s' := by
 intro r
 induction r with
 | nil => intro a s s' hp h; exact hK a s s' hp h
 | cons x r ih =>
  intro a s s' hp h g hg hf
  exact ih _ _ _ (hp.cons _) (h g hg fun p hp' => hf p (hp.mem_iff.1 hp'))
theorem All.pick {K : Act → List (Nat × Obj) → Prop} (hK : ∀ a s s', s.Perm s' → K a s → K a s') : ∀ (r : List A3) (x : A3) (a : Act) (s : List (Nat × Obj)), x ∈ r → (r.map fun y => y.2.1).Nodup → All W K r a s →
  ∀ g, W.heap.size ≤ g → (∀ p ∈ s, p.1 ≠ g) → All W K (r.filter fun y => !(y.1 == x.1 && y.2.1 == x.2.1)) (a.put (some x.2.1) (ptr g)) ((g, x.2.2) :: s) := by
 intro r
 induction r with
 | nil => intro x a s hx; cases hx
 | cons y r ih =>
  intro x a s hx hnd h g hg hf
  rw [List.map_cons, List.nodup_cons] at hnd
  by_cases hxy : y.2.1 = x.2.1
  ·
   have hyx : x = y := by
    rcases List.mem_cons.1 hx with e | e
    ·
     exact e
    ·
     exact absurd (show y.2.1 ∈ r.map (fun y => y.2.1) from List.mem_map.2 ⟨x, e, hxy.symm⟩) hnd.1
   subst hyx
   have e1 : ((x :: r).filter fun y => !(y.1 == x.1 && y.2.1 == x.2.1)) = r := by
    rw [List.filter_cons_of_neg (by simp)]
    rw [List.filter_eq_self]
    intro z hz
    have : z.2.1 ≠ x.2.1 := fun e => hnd.1 (List.mem_map.2 ⟨z, hz, e⟩)
    simp [this]
   rw [e1]
   exact h g hg hf
  ·
   have hxr : x ∈ r := by
    rcases List.mem_cons.1 hx with e | e
    ·
     exact absurd (by rw [e]) hxy
    ·
     exact e
   rw [List.filter_cons_of_pos (by simp [hxy])]
   intro g' hg' hf'
   have hgg : g ≠ g' := hf' (g, x.2.2) (by simp)
   have h1 := h g' hg' (fun p hp => hf' p (by simp [hp]))
   have h2 := ih x _ _ hxr hnd.2 h1 g hg (fun p hp => by
    rcases List.mem_cons.1 hp with e | e
    ·
     rw [e]; exact fun e2 => hgg e2.symm
    ·
     exact hf p e)
   rw [Act.put_comm a (ptr g') (ptr g) (fun d e e2 => hxy (by simp only [Option.some.injEq] at e e2; rw [e, e2]))] at h2
   exact All.perm hK _ _ _ _ (List.Perm.swap _ _ _) h2

/-- do the allocs, in whatever order, lead to the tail? -/
def allocB (md : Region.Mode) (ops : Array Oper) (g n : Nat) : Nat → List Nat → Array Bool → Bool
 | 0, r, t => r.isEmpty && Region.seqB md ops g n t
 | f + 1, r, t => !r.isEmpty && decide (Region.ready md ops t = r) && r.all fun j => allocB md ops g n f (r.filter fun k => !(k == j)) (t.setIfInBounds j true)
theorem Hd.allocs {g : Nat} {K : Act → List (Nat × Obj) → Prop} (hK : ∀ a s s', s.Perm s' → K a s → K a s') :
  ∀ (f : Nat) (r : List A3) (t : Array Bool) (a : Act) (s : List (Nat × Obj)), (∀ x ∈ r, x.1 < n ∧ ∃ o, ops[x.1]? = some o ∧ IsAl P o x.2.1 x.2.2) → (r.map fun y => y.2.1).Nodup → (r.map fun y => y.1).Nodup → allocB md ops g n f (r.map fun y => y.1) t = true →
   All W K r a s → Hd P ops md W n (fun t' a' s' => Region.seqB md ops g n t' = true ∧ K a' s') f t a s := by
 intro f
 induction f with
 | zero =>
  intro r t a s hr _ _ hB h
  simp only [allocB, Bool.and_eq_true, List.isEmpty_iff] at hB
  have : r = [] := by simpa using hB.1
  subst this
  exact ⟨hB.2, h⟩
 | succ f ih =>
  intro r t a s hr hnd hni hB h
  simp only [allocB, Bool.and_eq_true, Bool.not_eq_true', decide_eq_true_eq, List.all_eq_true] at hB
  obtain ⟨⟨hne, hrd⟩, hall⟩ := hB
  refine ⟨fun h0 => ?_, fun k hk => ?_⟩
  ·
   rw [hrd] at h0; rw [h0] at hne; simp at hne
  ·
   rw [hrd] at hk
   obtain ⟨x, hx, rfl⟩ := List.mem_map.1 hk
   obtain ⟨hlt, o, ho, hal⟩ := hr x hx
   refine ⟨hlt, o, ho, .inl ⟨x.2.1, x.2.2, hal, fun g' hg hf => ?_⟩⟩
   have h1 := All.pick hK r x a s hx hnd h g' hg hf
   have e1 : (r.filter fun y => !(y.1 == x.1 && y.2.1 == x.2.1)) = r.filter fun y => !(y.1 == x.1) := by
    apply List.filter_congr
    intro y hy
    by_cases e : y.1 = x.1
    ·
     have : y = x := by
      have key : ∀ (l : List A3), (l.map fun y => y.1).Nodup → y ∈ l → x ∈ l → y = x := by
       intro l
       induction l with
       | nil => intro _ h; cases h
       | cons z l ihl =>
        intro hn h1 h2
        rw [List.map_cons, List.nodup_cons] at hn
        rcases List.mem_cons.1 h1 with a1 | a1 <;> rcases List.mem_cons.1 h2 with a2 | a2
        ·
         rw [a1, a2]
        ·
         exact absurd (List.mem_map.2 ⟨x, a2, by rw [← e, a1]⟩) hn.1
        ·
         exact absurd (List.mem_map.2 ⟨y, a1, by rw [e, a2]⟩) hn.1
        ·
         exact ihl hn.2 a1 a2
      exact key r hni hy hx
     rw [this]; simp
    ·
     simp [e]
   rw [e1] at h1
   have e2 : (r.filter fun y => !(y.1 == x.1)).map (fun y => y.1) = (r.map fun y => y.1).filter fun k => !(k == x.1) := by
    rw [List.filter_map]; rfl
   refine ih _ _ _ _ (fun y hy => hr y (List.mem_filter.1 hy).1) ?_ ?_ ?_ h1
   ·
    exact (List.filter_sublist.map _).nodup hnd
   ·
    exact (List.filter_sublist.map _).nodup hni
   ·
    rw [e2]; exact hall x.1 (List.mem_map.2 ⟨x, hx, rfl⟩)

/-- the quiet operations, in the order of the list -/
def Walk (P : Program) (ops : Array Oper) (W : World) (K : Act → Prop) : List Nat → Act → Prop
 | [], a => K a
 | k :: ks, a => ∃ o, ops[k]? = some o ∧ Region.wanted o (yielded ops a.tmps) = true ∧ ∃ v, Firm P W o v a ∧ Walk P ops W K ks (a.put o.dst v)
def headB (md : Region.Mode) (ops : Array Oper) (g n : Nat) (als : List Nat) : List Nat → Array Bool → Bool
 | [], t => allocB md ops g n als.length als t
 | k :: ks, t => decide (k < n) && (Region.ready md ops t).contains k && Region.free md ops t k && headB md ops g n als ks (t.setIfInBounds k true)
theorem Hd.walk {g : Nat} {K : Act → List (Nat × Obj) → Prop} (hK : ∀ a s s', s.Perm s' → K a s → K a s') (als : List A3) (hal : ∀ x ∈ als, x.1 < n ∧ ∃ o, ops[x.1]? = some o ∧ IsAl P o x.2.1 x.2.2)
  (hnd : (als.map fun y => y.2.1).Nodup) (hni : (als.map fun y => y.1).Nodup)
  (hsel : Region.noSelect ops = true) (hs : Region.sinkB md ops n = true) (hc : Region.chainB md ops n = true) (hn : n < ops.size) :
  ∀ (ks : List Nat) (t : Array Bool) (a : Act) (s : List (Nat × Obj)), HeadInv md ops n t → headB md ops g n (als.map fun y => y.1) ks t = true → Walk P ops W (fun a' => All W K als a' s) ks a →
   Hd P ops md W n (fun t' a' s' => Region.seqB md ops g n t' = true ∧ K a' s') (ks.length + als.length) t a s := by
 intro ks
 induction ks with
 | nil =>
  intro t a s _ hB h
  rw [List.length_nil, Nat.zero_add]
  simp only [headB, List.length_map] at hB
  exact Hd.allocs hK als.length als t a s hal hnd hni hB h
 | cons k ks ih =>
  intro t a s inv hB h
  simp only [headB, Bool.and_eq_true, decide_eq_true_eq] at hB
  obtain ⟨⟨⟨hkn, hr⟩, hf⟩, hB'⟩ := hB
  have hr' : k ∈ Region.ready md ops t := by simpa using hr
  obtain ⟨o, ho, hw, v, hy, hK'⟩ := h
  rw [List.length_cons, show ks.length + 1 + als.length = (ks.length + als.length) + 1 by omega]
  exact Hd.first ho (Region.noSelect_spec hsel) hs hc hn hkn (fun t' a' s' hL => seqB_ready hL.1) _ t a s inv (Region.free_spec ho hf) hr' hw hy (ih _ _ _ (inv.set hr' hkn) hB' hK')

/-- one quiet operation of the walk: shown over the worlds beyond whatever W1 -/
theorem Walk.step {K : Act → Prop} {k : Nat} {ks : List Nat} {a A : Act} {o : Oper} (ho : ops[k]? = some o) (hw : Region.wanted o (yielded ops a.tmps) = true) (d : Tmp) (hd : o.dst = some d) (hlt : d < a.tmps.size)
  (h : ∀ W1, Below W.heap.size W W1 → o.quiet P a (fun w' => ∃ p : Regrown, w' = grow (redrawn W1 p.d) p.os) (fun a' => a' = A)) (hn : Walk P ops W K ks A) : Walk P ops W K (k :: ks) a := by
 have hput : ∀ v, a.put o.dst v = A → v = A.tmps.getD d undef := by
  intro v e
  rw [← e, hd]
  simp [Act.put, hlt]
 obtain ⟨v0, _, e0⟩ := h W (Below.refl _ _)
 have hv0 := hput v0 e0
 refine ⟨o, ho, hw, v0, fun w hw' => ?_, by rw [e0]; exact hn⟩
 obtain ⟨v, h1, e1⟩ := h w hw'
 have hv := hput v e1
 rw [hv0, ← hv]
 exact h1 w (Cls.refl w)
end
end Go.Proofs.YtdaokkgenfpmhaaGreat.Qa

/- A region that draws its order, whose operations are quiet ones, allocs of new blocks and one store into each new block, in ANY order that the binding edges leave ('a, b, c := l[i], l[j], l[k]' of structs): shown by an invariant of the operations done, each new block at a place of its own. No program is named here. -/
set_option linter.unusedVariables false
set_option linter.unusedSimpArgs false
namespace Go.Proofs.YtdaokkgenfpmhaaGreat.Qf
open Go.RowKit Go.Sort Qb Qt Qa

/-- a new block: its alloc's number and slot, its first row, its type, its store's number, the slot of the row stored, that row -/
structure Nw where
 k : Nat
 d : Tmp
 old : Array Value
 T : TypeId
 j : Nat
 sv : Tmp
 row : Array Value

theorem lt_of_heap {w : World} {g : Nat} {o : Obj} (h : w.heap[g]? = some o) : g < w.heap.size := by
 rcases Nat.lt_or_ge g w.heap.size with h' | h'
 ·
  exact h'
 ·
  rw [Array.getElem?_eq_none h'] at h; cases h
theorem nodup_inj {α : Type} {f : α → Nat} : ∀ {l : List α}, (l.map f).Nodup → ∀ x ∈ l, ∀ y ∈ l, f x = f y → x = y := by
 intro l
 induction l with
 | nil => intro _ x hx; cases hx
 | cons z l ih =>
  intro hn x hx y hy e
  rw [List.map_cons, List.nodup_cons] at hn
  rcases List.mem_cons.1 hx with rfl | h1 <;> rcases List.mem_cons.1 hy with rfl | h2
  ·
   rfl
  ·
   exact absurd (List.mem_map.2 ⟨y, h2, e.symm⟩) hn.1
  ·
   exact absurd (List.mem_map.2 ⟨x, h1, e⟩) hn.1
  ·
   exact ih hn.2 x h1 y h2 e

section
variable {P : Program} {ops : Array Oper} {W : World} {md : Region.Mode}

def dstOf (ops : Array Oper) (k : Nat) : Option Tmp := (ops[k]?).bind (·.dst)
theorem dstOf_of {k : Nat} {o : Oper} (h : ops[k]? = some o) : dstOf ops k = o.dst := by simp [dstOf, h]
theorem dstOf_lt {k : Nat} {d : Tmp} (h : dstOf ops k = some d) : k < ops.size := by
 rcases Nat.lt_or_ge k ops.size with h1 | h1
 ·
  exact h1
 ·
  rw [dstOf, Array.getElem?_eq_none h1] at h; cases h
structure IsSt (P : Program) (o : Oper) (x : Nw) : Prop where
 op : ∃ ty, o.op = .store ty (.tmp x.d) (.tmp x.sv) ∧ (P.info? ty).map (·.size) = some x.row.size
 dst : o.dst = none
 guard : o.guard = none
 size : x.old.size = x.row.size
 one : x.row.all (·.oneCell') = true

structure Fits (md : Region.Mode) (ops : Array Oper) (N : Nat) (ks : List Nat) (als : List Nw) : Prop where
 sel : Region.noSelect ops = true
 gd : ∀ (k : Nat) (o : Oper), ops[k]? = some o → o.guard = none
 back : ∀ (k : Nat) (o : Oper), ops[k]? = some o → ∀ e ∈ o.after, Region.binds md e = true → e.on < k
 cover : ∀ k, k < ops.size → k ∈ ks ∨ ∃ x ∈ als, k = x.k ∨ k = x.j
 sorted : ks.Pairwise (· < ·)
 inn : ∀ k ∈ ks, k < ops.size
 dsts : ∀ k k' d, dstOf ops k = some d → dstOf ops k' = some d → k = k'
 fits : ∀ k d, dstOf ops k = some d → d < N
 look : ∀ k ∈ ks, ∀ (o : Oper), ops[k]? = some o → ∀ s ∈ o.looksAt ops, ∀ k', dstOf ops k' = some s → k' ∈ ks ∧ ∃ e ∈ o.after, Region.binds md e = true ∧ e.on = k'
 ak : ∀ x ∈ als, dstOf ops x.k = some x.d ∧ x.k ∉ ks ∧ x.j ∉ ks
 ajk : ∀ x ∈ als, ∀ (o : Oper), ops[x.j]? = some o → (∃ e ∈ o.after, Region.binds md e = true ∧ e.on = x.k) ∧ ∃ k' ∈ ks, dstOf ops k' = some x.sv ∧ ∃ e ∈ o.after, Region.binds md e = true ∧ e.on = k'
 ndk : (als.map (·.k)).Nodup
 ndj : (als.map (·.j)).Nodup
 nkj : ∀ x ∈ als, ∀ y ∈ als, x.k ≠ y.j

def upto (n : Nat) (f : Nat → Bool) : Bool := (List.range n).all f
theorem upto_spec {n : Nat} {f : Nat → Bool} (h : upto n f = true) (k : Nat) (hk : k < n) : f k = true := List.all_eq_true.1 h k (List.mem_range.2 hk)
def edgeB (md : Region.Mode) (o : Oper) (k : Nat) : Bool := o.after.any fun e => Region.binds md e && e.on == k
theorem edge_spec {o : Oper} {k : Nat} (h : edgeB md o k = true) : ∃ e ∈ o.after, Region.binds md e = true ∧ e.on = k := by
 unfold edgeB at h
 simp only [Array.any_eq_true', Bool.and_eq_true, beq_iff_eq] at h
 exact h
def freeB (md : Region.Mode) (ops : Array Oper) (N : Nat) (ks : List Nat) (als : List (Nat × Tmp × Nat × Tmp)) : Bool :=
 Region.noSelect ops &&
 (ops.all fun o => o.guard.isNone) &&
 (upto ops.size fun k => ((ops[k]?).map fun o => o.after.all fun e => !Region.binds md e || decide (e.on < k)).getD false) &&
 (upto ops.size fun k => ks.contains k || als.any fun x => k == x.1 || k == x.2.2.1) &&
 decide (ks.Pairwise (· < ·)) &&
 (ks.all fun k => decide (k < ops.size)) &&
 (upto ops.size fun k => upto ops.size fun k' => k == k' || (match dstOf ops k with | none => true | some d => dstOf ops k' != some d)) &&
 (upto ops.size fun k => match dstOf ops k with | none => true | some d => decide (d < N)) &&
 (ks.all fun k => ((ops[k]?).map fun o => (o.looksAt ops).all fun s => upto ops.size fun k' => dstOf ops k' != some s || (ks.contains k' && edgeB md o k')).getD true) &&
 (als.all fun x => dstOf ops x.1 == some x.2.1 && !ks.contains x.1 && !ks.contains x.2.2.1) &&
 (als.all fun x => ((ops[x.2.2.1]?).map fun o => edgeB md o x.1 && ks.any fun k' => dstOf ops k' == some x.2.2.2 && edgeB md o k').getD true) &&
 decide ((als.map (·.1)).Nodup) && decide ((als.map (·.2.2.1)).Nodup) &&
 (als.all fun x => als.all fun y => x.1 != y.2.2.1)

theorem fits_of {N : Nat} {ks : List Nat} {als : List Nw} (h : freeB md ops N ks (als.map fun x => (x.k, x.d, x.j, x.sv)) = true) : Fits md ops N ks als := by
 unfold freeB at h
 simp only [Bool.and_eq_true] at h
 obtain ⟨⟨⟨⟨⟨⟨⟨⟨⟨⟨⟨⟨⟨h1, h2⟩, h3⟩, h4⟩, h5⟩, h6⟩, h7⟩, h8⟩, h9⟩, h10⟩, h11⟩, h12⟩, h13⟩, h14⟩ := h
 refine ⟨h1, ?_, ?_, ?_, by simpa using h5, ?_, ?_, ?_, ?_, ?_, ?_, by simpa [List.map_map, Function.comp_def] using h12, by simpa [List.map_map, Function.comp_def] using h13, ?_⟩
 ·
  intro k o ho
  have := Array.all_eq_true_iff_forall_mem.1 h2 o (Array.mem_of_getElem? ho)
  simpa using this
 ·
  intro k o ho e he hb
  have hk : k < ops.size := (Array.getElem?_eq_some_iff.1 ho).1
  have := upto_spec h3 k hk
  rw [ho] at this
  simp only [Option.map_some, Option.getD_some] at this
  have := Array.all_eq_true_iff_forall_mem.1 this e he
  simpa [hb] using this
 ·
  intro k hk
  have := upto_spec h4 k hk
  simp only [Bool.or_eq_true, List.any_map, List.any_eq_true, Function.comp_def, beq_iff_eq] at this
  rcases this with h | ⟨x, hx, h⟩
  ·
   exact .inl (by simpa using h)
  ·
   exact .inr ⟨x, hx, h⟩
 ·
  intro k hk
  have := List.all_eq_true.1 h6 k hk
  simpa using this
 ·
  intro k k' d hd hd'
  have := upto_spec (upto_spec h7 k (dstOf_lt hd)) k' (dstOf_lt hd')
  rw [hd, hd'] at this
  simpa using this
 ·
  intro k d hd
  have := upto_spec h8 k (dstOf_lt hd)
  rw [hd] at this
  simpa using this
 ·
  intro k hk o ho s hs k' hk'
  have := List.all_eq_true.1 h9 k hk
  rw [ho] at this
  simp only [Option.map_some, Option.getD_some] at this
  have := upto_spec (List.all_eq_true.1 this s hs) k' (dstOf_lt hk')
  rw [hk'] at this
  simp only [bne_self_eq_false, Bool.false_or, Bool.and_eq_true] at this
  exact ⟨by simpa using this.1, edge_spec this.2⟩
 ·
  intro x hx
  have := List.all_eq_true.1 h10 _ (List.mem_map.2 ⟨x, hx, rfl⟩)
  simp only [Bool.and_eq_true, beq_iff_eq, Bool.not_eq_true'] at this
  exact ⟨this.1.1, by simpa using this.1.2, by simpa using this.2⟩
 ·
  intro x hx o ho
  have := List.all_eq_true.1 h11 _ (List.mem_map.2 ⟨x, hx, rfl⟩)
  simp only [ho, Option.map_some, Option.getD_some, Bool.and_eq_true, List.any_eq_true, beq_iff_eq] at this
  obtain ⟨e1, k', hk', e2, e3⟩ := this
  exact ⟨edge_spec e1, k', hk', e2, edge_spec e3⟩
 ·
  intro x hx y hy
  have := List.all_eq_true.1 (List.all_eq_true.1 h14 _ (List.mem_map.2 ⟨x, hx, rfl⟩)) _ (List.mem_map.2 ⟨y, hy, rfl⟩)
  simpa using this

/-! ### the quiet ones laid one after the other -/
def puts (ops : Array Oper) (V : Nat → Value) : List Nat → Act → Act
 | [], a => a
 | k :: ks, a => puts ops V ks (a.put (dstOf ops k) (V k))
theorem put_size (a : Act) (d : Option Tmp) (v : Value) : (a.put d v).tmps.size = a.tmps.size := by cases d <;> simp [Act.put]
theorem put_defers (a : Act) (d : Option Tmp) (v : Value) : (a.put d v).defers = a.defers := by cases d <;> rfl
theorem put_same (a : Act) (d : Tmp) (v : Value) (h : d < a.tmps.size) : (a.put (some d) v).tmps[d]? = some v := by simp [Act.put, h]
theorem put_ne (a : Act) (d : Option Tmp) (v : Value) (s : Tmp) (h : d ≠ some s) : (a.put d v).tmps[s]? = a.tmps[s]? := by
 cases d with
 | none => rfl
 | some d => exact Array.getElem?_setIfInBounds_ne (fun e => h (by rw [e]))
theorem puts_size (V : Nat → Value) : ∀ (ks : List Nat) (a : Act), (puts ops V ks a).tmps.size = a.tmps.size := by
 intro ks; induction ks with
 | nil => intro a; rfl
 | cons k ks ih => intro a; rw [puts, ih, put_size]
theorem puts_defers (V : Nat → Value) : ∀ (ks : List Nat) (a : Act), (puts ops V ks a).defers = a.defers := by
 intro ks; induction ks with
 | nil => intro a; rfl
 | cons k ks ih => intro a; rw [puts, ih, put_defers]
theorem puts_ne (V : Nat → Value) (s : Tmp) : ∀ (ks : List Nat) (a : Act), (∀ k ∈ ks, dstOf ops k ≠ some s) → (puts ops V ks a).tmps[s]? = a.tmps[s]? := by
 intro ks; induction ks with
 | nil => intro a _; rfl
 | cons k ks ih => intro a h; rw [puts, ih _ (fun k' hk' => h k' (List.mem_cons_of_mem _ hk')), put_ne _ _ _ _ (h k (by simp))]
theorem puts_at (V : Nat → Value) (d : Tmp) (k : Nat) (hd : dstOf ops k = some d) : ∀ (ks : List Nat) (a : Act), d < a.tmps.size → k ∈ ks → (∀ k' ∈ ks, dstOf ops k' = some d → k' = k) → (puts ops V ks a).tmps[d]? = some (V k) := by
 intro ks; induction ks with
 | nil => intro a _ h; cases h
 | cons k0 ks ih =>
  intro a hlt hk hu
  rw [puts]
  by_cases hin : k ∈ ks
  ·
   exact ih _ (by rw [put_size]; exact hlt) hin (fun k' hk' => hu k' (List.mem_cons_of_mem _ hk'))
  ·
   have : k = k0 := by rcases List.mem_cons.1 hk with h | h; exact h; exact absurd h hin
   subst this
   rw [puts_ne V d ks _ (fun k' hk' e => hin (hu k' (List.mem_cons_of_mem _ hk') e ▸ hk')), hd, put_same _ _ _ hlt]
theorem puts_congr (V V' : Nat → Value) : ∀ (ks : List Nat) (a : Act), (∀ k ∈ ks, V k = V' k) → puts ops V ks a = puts ops V' ks a := by
 intro ks; induction ks with
 | nil => intro a _; rfl
 | cons k ks ih => intro a h; rw [puts, puts, h k (by simp), ih _ (fun k' hk' => h k' (List.mem_cons_of_mem _ hk'))]
theorem exec_same {o : Oper} (hs : ∀ cs b, o.op ≠ .select cs b) {a b : Act} (h : ∀ s ∈ o.looksAt ops, a.tmps[s]? = b.tmps[s]?) : execOp a.eval o = execOp b.eval o :=
 execOp_congr o hs fun x hx => by
  cases x with
  | tmp t =>
   have := h t (List.mem_append_left _ (List.mem_filterMap.2 ⟨.tmp t, by simpa using hx, rfl⟩))
   simp only [Act.eval, Array.getD_eq_getD_getElem?, this]
  | const v => rfl
  | global g => rfl
  | func f => rfl

theorem Walk.puts_ {K : Act → Prop} (hsel : ∀ (j : Nat) (o : Oper) cs b, ops[j]? = some o → o.op ≠ .select cs b) :
  ∀ (ks : List Nat) (a : Act), ks.Pairwise (· < ·) → (∀ k ∈ ks, ∀ o, ops[k]? = some o → ∀ s ∈ o.looksAt ops, ∀ k', dstOf ops k' = some s → k' < k) → Walk P ops W K ks a →
   ∃ V : Nat → Value, K (puts ops V ks a) ∧ ∀ k ∈ ks, ∃ o, ops[k]? = some o ∧ Firm P W o (V k) (puts ops V ks a) := by
 intro ks
 induction ks with
 | nil => intro a _ _ h; exact ⟨fun _ => undef, h, fun k hk => by cases hk⟩
 | cons k ks ih =>
  intro a hp hl h
  rw [List.pairwise_cons] at hp
  obtain ⟨o, ho, _, v, hf, hw⟩ := h
  obtain ⟨V, hK, hV⟩ := ih _ hp.2 (fun k' hk' => hl k' (List.mem_cons_of_mem _ hk')) hw
  have hnk : k ∉ ks := fun hk => absurd (hp.1 k hk) (Nat.lt_irrefl _)
  have e1 : puts ops (fun j => if j = k then v else V j) (k :: ks) a = puts ops V ks (a.put o.dst v) := by
   rw [puts]
   simp only [if_true, dstOf_of ho]
   exact puts_congr _ _ ks _ (fun j hj => by rw [if_neg (fun e : j = k => hnk (by rw [← e]; exact hj))])
  refine ⟨fun j => if j = k then v else V j, by rw [e1]; exact hK, fun j hj => ?_⟩
  by_cases hjk : j = k
  ·
   subst hjk
   refine ⟨o, ho, ?_⟩
   simp only [if_true]
   refine hf.of_same (exec_same (ops := ops) (fun cs b => hsel j o cs b ho) fun s hs => ?_)
   refine puts_ne _ s _ _ fun k' hk' e => ?_
   have h1 := hl j (by simp) o ho s hs k' e
   rcases List.mem_cons.1 hk' with rfl | h2
   ·
    omega
   ·
    have := hp.1 k' h2; omega
  ·
   obtain ⟨o', ho', hf'⟩ := hV j (by rcases List.mem_cons.1 hj with h | h; exact absurd h hjk; exact h)
   refine ⟨o', ho', ?_⟩
   rw [e1]
   simp only [if_neg hjk]
   exact hf'

/-! ### the invariant -/
variable {N : Nat} {ks : List Nat} {als : List Nw}
structure Inv (md : Region.Mode) (ops : Array Oper) (W : World) (ks : List Nat) (als : List Nw) (a0 A : Act) (G : Nat → Nat) (t : Array Bool) (a : Act) (w : World) : Prop where
 tsz : t.size = ops.size
 defs : a.defers = a0.defers
 sz : a.tmps.size = a0.tmps.size
 keep : ∀ s, (∀ k, dstOf ops k = some s → t.getD k false = false) → a.tmps[s]? = a0.tmps[s]?
 quiet : ∀ k ∈ ks, t.getD k false = true → ∀ d, dstOf ops k = some d → a.tmps[d]? = A.tmps[d]?
 al : ∀ x ∈ als, t.getD x.k false = true → a.tmps[x.d]? = some (ptr (G x.k)) ∧ W.heap.size ≤ G x.k ∧ w.heap[G x.k]? = some (.cells (if t.getD x.j false = true then x.row else x.old) x.T)
 dist : ∀ x ∈ als, ∀ y ∈ als, x.k ≠ y.k → t.getD x.k false = true → t.getD y.k false = true → G x.k ≠ G y.k
 below : Below W.heap.size W w
 wait : ∀ (k : Nat) (o : Oper), ops[k]? = some o → t.getD k false = true → ∀ e ∈ o.after, Region.binds md e = true → t.getD e.on false = true
theorem set_at {t : Array Bool} {k : Nat} (hk : k < t.size) : (t.setIfInBounds k true).getD k false = true := by simp [Array.getD_eq_getD_getElem?, hk]
theorem set_or {t : Array Bool} {k j : Nat} (h : (t.setIfInBounds k true).getD j false = true) : j = k ∨ t.getD j false = true := by
 by_cases e : k = j
 ·
  exact .inl e.symm
 ·
  rw [getD_set_ne false e] at h; exact .inr h
theorem set_mono {t : Array Bool} {k j : Nat} (h : t.getD j false = true) : (t.setIfInBounds k true).getD j false = true := by
 by_cases e : k = j
 ·
  subst e
  refine set_at ?_
  rcases Nat.lt_or_ge k t.size with h1 | h1
  ·
   exact h1
  ·
   rw [Array.getD_eq_getD_getElem?, Array.getElem?_eq_none h1] at h; cases h
 ·
  rw [getD_set_ne false e]; exact h

/-- one step, whatever is ready -/
theorem Inv.step {a0 A : Act} {V : Nat → Value} {K : Act → World → Prop} {R : Exit → Act → World → Prop} (F : Fits md ops N ks als) (hN : a0.tmps.size = N) (hA : A = puts ops V ks a0)
  (hV : ∀ k ∈ ks, ∃ o, ops[k]? = some o ∧ Firm P W o (V k) A) (hal : ∀ x ∈ als, (∃ o, ops[x.k]? = some o ∧ IsAl P o x.d (.cells x.old x.T)) ∧ ∃ o, ops[x.j]? = some o ∧ IsSt P o x)
  (hsv : ∀ x ∈ als, A.tmps[x.sv]? = some (.agg x.row))
  {G : Nat → Nat} {t : Array Bool} {a : Act} {w : World} (I : Inv md ops W ks als a0 A G t a w) {k : Nat} (hk : k ∈ Region.ready md ops t)
  (h : ∀ G' a' w', Inv md ops W ks als a0 A G' (t.setIfInBounds k true) a' w' → K a' w') : wpOp P ops R k K a w := by
 obtain ⟨hkt, o, ho, hed⟩ := mem_ready.1 hk
 have hkn : k < ops.size := (Array.getElem?_eq_some_iff.1 ho).1
 have hkf : t.getD k false = false := getD_both hkt
 have hwt : ∀ f, Region.wanted o f = true := fun f => by simp [Region.wanted, F.gd k o ho]
 have hsel := fun cs b => Region.noSelect_spec F.sel k o cs b ho
 have hdk : ∀ s, dstOf ops k = some s → s < a.tmps.size := fun s hs => by rw [I.sz, hN]; exact F.fits k s hs
 have hkt' : k < t.size := by rw [I.tsz]; exact hkn
 have wait' : ∀ (k' : Nat) (o' : Oper), ops[k']? = some o' → (t.setIfInBounds k true).getD k' false = true → ∀ e ∈ o'.after, Region.binds md e = true → (t.setIfInBounds k true).getD e.on false = true := by
  intro k' o' ho' ht' e he hb
  rcases set_or ht' with rfl | ht'
  ·
   obtain rfl : o' = o := Option.some.inj (ho'.symm.trans ho)
   exact set_mono (hed e he hb)
  ·
   exact set_mono (I.wait k' o' ho' ht' e he hb)
 rcases F.cover k hkn with hq | ⟨x, hx, hxk | hxj⟩
 ·
  -- a quiet one
  obtain ⟨o', ho', hfirm⟩ := hV k hq
  obtain rfl : o' = o := Option.some.inj (ho'.symm.trans ho)
  have hsame : execOp a.eval o' = execOp A.eval o' := by
   refine exec_same (ops := ops) hsel fun s hs => ?_
   by_cases hex : ∃ k', dstOf ops k' = some s
   ·
    obtain ⟨k', hk'⟩ := hex
    obtain ⟨hks, e, he, hb, hon⟩ := F.look k hq o' ho s hs k' hk'
    have := hed e he hb
    rw [hon] at this
    exact I.quiet k' hks this s hk'
   ·
    rw [I.keep s (fun k' hk' => absurd ⟨k', hk'⟩ hex), hA, puts_ne V s ks a0 (fun k' _ e => hex ⟨k', e⟩)]
  have hfirm' : Firm P W o' (V k) a := hfirm.of_same hsame
  refine wpOp_of_qOp (C := Cls w) (K := fun a' => a' = a.put o'.dst (V k)) (Cls.refl w) (fun a' w' hw' ha' => ?_) ?_
  ·
   subst ha'
   have hdst := dstOf_of ho
   rw [← hdst]
   have hb := hw'.below
   refine h G _ _ ⟨by simp [I.tsz], by rw [put_defers]; exact I.defs, by rw [put_size]; exact I.sz, fun s hs => ?_, fun k' hk' ht d hd => ?_, fun x hx ht => ?_, fun x hx y hy hne h1 h2 => ?_, I.below.trans (hb.mono I.below.size), wait'⟩
   ·
    have hne : dstOf ops k ≠ some s := fun e => by have := hs k e; rw [set_at hkt'] at this; cases this
    rw [put_ne _ _ _ _ hne]
    refine I.keep s fun k' hk' => ?_
    cases ht : t.getD k' false
    ·
     rfl
    ·
     have := hs k' hk'; rw [set_mono ht] at this; cases this
   ·
    rcases set_or ht with rfl | ht2
    ·
     rw [hd, put_same _ _ _ (hdk d hd), hA, puts_at V d k' hd ks a0 (by rw [← I.sz]; exact hdk d hd) hk' (fun k'' _ e => F.dsts _ _ _ e hd)]
    ·
     by_cases e : k' = k
     ·
      subst e; rw [hkf] at ht2; cases ht2
     ·
      rw [put_ne _ _ _ _ (fun e2 => e (F.dsts _ _ _ hd e2))]; exact I.quiet k' hk' ht2 d hd
   ·
    have hxk := F.ak x hx
    have hne : x.k ≠ k := fun e => hxk.2.1 (by rw [e]; exact hq)
    have hnj : x.j ≠ k := fun e => hxk.2.2 (by rw [e]; exact hq)
    rw [getD_set_ne false (Ne.symm hne)] at ht
    obtain ⟨h1, h2, h3⟩ := I.al x hx ht
    rw [put_ne _ _ _ _ (fun e => hne (F.dsts _ _ _ hxk.1 e)), getD_set_ne false (Ne.symm hnj), hb.block _ (lt_of_heap h3)]
    exact ⟨h1, h2, h3⟩
   ·
    have hxk := F.ak x hx
    have hyk := F.ak y hy
    rw [getD_set_ne false (fun e => hxk.2.1 (by rw [← e]; exact hq))] at h1
    rw [getD_set_ne false (fun e => hyk.2.1 (by rw [← e]; exact hq))] at h2
    exact I.dist x hx y hy hne h1 h2
  ·
   unfold qOp
   simp only [ho, hwt, if_true]
   exact ⟨V k, fun w1 hw1 => upon_mono (fun w2 hw2 => hw1.trans hw2) (hfirm' w1 (I.below.trans (hw1.below.mono I.below.size))), rfl⟩
 ·
  -- a new block
  subst hxk
  obtain ⟨⟨o', ho', hIs⟩, ⟨oj, hoj, hSt⟩⟩ := hal x hx
  obtain rfl : o' = o := Option.some.inj (ho'.symm.trans ho)
  have hxk := F.ak x hx
  unfold wpOp
  simp only [ho, hwt, if_true]
  refine .inl ?_
  unfold Oper.wp
  rw [hIs.run]
  show K (a.put o'.dst (ptr w.heap.size)) (w.alloc (.cells x.old x.T))
  rw [hIs.dst]
  have hjf : t.getD x.j false = false := by
   cases ht : t.getD x.j false
   ·
    rfl
   ·
    obtain ⟨⟨e, he, hb, hon⟩, _⟩ := F.ajk x hx oj hoj
    have := I.wait x.j oj hoj ht e he hb
    rw [hon, hkf] at this; cases this
  have hjk : x.k ≠ x.j := F.nkj x hx x hx
  refine h (fun j => if j = x.k then w.heap.size else G j) _ _ ⟨by simp [I.tsz], by rw [put_defers]; exact I.defs, by rw [put_size]; exact I.sz, fun s hs => ?_, fun k' hk' ht d hd => ?_, fun y hy ht => ?_, fun y hy z hz hne h1 h2 => ?_, I.below.alloc I.below.size _, wait'⟩
  ·
   have hne : x.d ≠ s := fun e => by have := hs x.k (by rw [← e]; exact hxk.1); rw [set_at hkt'] at this; cases this
   rw [put_ne _ _ _ _ (fun e => hne (Option.some.inj e))]
   refine I.keep s fun k' hk' => ?_
   cases ht : t.getD k' false
   ·
    rfl
   ·
    have := hs k' hk'; rw [set_mono ht] at this; cases this
  ·
   have hne : k' ≠ x.k := fun e => hxk.2.1 (by rw [← e]; exact hk')
   rw [getD_set_ne false (Ne.symm hne)] at ht
   rw [put_ne _ _ _ _ (fun e => hne (F.dsts _ _ _ hd (by rw [← Option.some.inj e]; exact hxk.1)))]
   exact I.quiet k' hk' ht d hd
  ·
   by_cases hyk : y.k = x.k
   ·
    obtain rfl : y = x := nodup_inj F.ndk y hy x hx hyk
    rw [put_same _ _ _ (hdk _ hxk.1), getD_set_ne false hjk, hjf]
    simp only [if_true, Bool.false_eq_true, if_false]
    exact ⟨trivial, I.below.size, heap_alloc_new _ _⟩
   ·
    rw [getD_set_ne false (Ne.symm hyk)] at ht
    obtain ⟨h1, h2, h3⟩ := I.al y hy ht
    rw [put_ne _ _ _ _ (fun e => hyk (F.dsts _ _ _ (F.ak y hy).1 (by rw [← Option.some.inj e]; exact hxk.1))), getD_set_ne false (F.nkj x hx y hy), if_neg hyk, heap_alloc_old _ _ (lt_of_heap h3)]
    exact ⟨h1, h2, h3⟩
  ·
   by_cases hyk : y.k = x.k
   ·
    have hzk : z.k ≠ x.k := fun e => hne (hyk.trans e.symm)
    rw [getD_set_ne false (Ne.symm hzk)] at h2
    have := lt_of_heap (I.al z hz h2).2.2
    simp only [if_pos hyk, if_neg hzk]; omega
   ·
    by_cases hzk : z.k = x.k
    ·
     rw [getD_set_ne false (Ne.symm hyk)] at h1
     have := lt_of_heap (I.al y hy h1).2.2
     simp only [if_pos hzk, if_neg hyk]; omega
    ·
     rw [getD_set_ne false (Ne.symm hyk)] at h1
     rw [getD_set_ne false (Ne.symm hzk)] at h2
     simp only [if_neg hyk, if_neg hzk]
     exact I.dist y hy z hz hne h1 h2
 ·
  -- a store
  subst hxj
  obtain ⟨_, ⟨o', ho', hSt⟩⟩ := hal x hx
  obtain rfl : o' = o := Option.some.inj (ho'.symm.trans ho)
  have hxk := F.ak x hx
  obtain ⟨⟨e1, he1, hb1, hon1⟩, k2, hk2, hd2, e2, he2, hb2, hon2⟩ := F.ajk x hx o' ho
  have t1 := hed e1 he1 hb1
  have t2 := hed e2 he2 hb2
  rw [hon1] at t1
  rw [hon2] at t2
  obtain ⟨g1, g2, g3⟩ := I.al x hx t1
  rw [hkf] at g3
  have hsvv := I.quiet k2 hk2 t2 x.sv hd2
  rw [hsv x hx] at hsvv
  obtain ⟨ty, hop, hinfo⟩ := hSt.op
  unfold wpOp
  simp only [ho, hwt, if_true]
  refine .inl (wp_store_row ty (.tmp x.d) (.tmp x.sv) hop (G x.k) x.row (by simp [Act.eval, Array.getD_eq_getD_getElem?, g1]) (by simp [Act.eval, Array.getD_eq_getD_getElem?, hsvv]) x.T x.old g3 hinfo hSt.size hSt.one ?_)
  rw [hSt.dst]
  show K a _
  have hdn : ∀ s, dstOf ops x.j ≠ some s := fun s e => by rw [dstOf_of ho, hSt.dst] at e; cases e
  refine h G _ _ ⟨by simp [I.tsz], I.defs, I.sz, fun s hs => ?_, fun k' hk' ht d hd => ?_, fun y hy ht => ?_, fun y hy z hz hne h1 h2 => ?_, below_setRow I.below g2 _, wait'⟩
  ·
   refine I.keep s fun k' hk' => ?_
   cases ht : t.getD k' false
   ·
    rfl
   ·
    have := hs k' hk'; rw [set_mono ht] at this; cases this
  ·
   rcases set_or ht with rfl | ht
   ·
    exact absurd hd (hdn d)
   ·
    exact I.quiet k' hk' ht d hd
  ·
   have ht' : t.getD y.k false = true := by rw [getD_set_ne false (Ne.symm (F.nkj y hy x hx))] at ht; exact ht
   obtain ⟨h1, h2, h3⟩ := I.al y hy ht'
   by_cases hyk : y.k = x.k
   ·
    obtain rfl : y = x := nodup_inj F.ndk y hy x hx hyk
    rw [set_at hkt', setRow_heap _ _ _ _ _ _ g3]
    exact ⟨h1, h2, rfl⟩
   ·
    have hyj : x.j ≠ y.j := fun e => hyk (by rw [nodup_inj F.ndj x hx y hy e])
    rw [getD_set_ne false hyj, setRow_other _ _ _ _ (I.dist y hy x hx hyk ht' t1)]
    exact ⟨h1, h2, h3⟩
  ·
   rw [getD_set_ne false (Ne.symm (F.nkj y hy x hx))] at h1
   rw [getD_set_ne false (Ne.symm (F.nkj z hz x hx))] at h2
   exact I.dist y hy z hz hne h1 h2

def lay (G : Nat → Nat) : List Nw → Act → Act
 | [], A => A
 | x :: r, A => lay G r (A.put (some x.d) (ptr (G x.k)))
theorem lay_defers (G : Nat → Nat) : ∀ (r : List Nw) (A : Act), (lay G r A).defers = A.defers := by
 intro r; induction r with
 | nil => intro A; rfl
 | cons x r ih => intro A; rw [lay, ih, put_defers]
theorem lay_ne (G : Nat → Nat) (s : Tmp) : ∀ (r : List Nw) (A : Act), (∀ x ∈ r, x.d ≠ s) → (lay G r A).tmps[s]? = A.tmps[s]? := by
 intro r; induction r with
 | nil => intro A _; rfl
 | cons x r ih => intro A h; rw [lay, ih _ (fun y hy => h y (List.mem_cons_of_mem _ hy)), put_ne _ _ _ _ (fun e => h x (by simp) (Option.some.inj e))]
theorem lay_at (G : Nat → Nat) (s : Tmp) (g : Nat) : ∀ (r : List Nw) (A : Act), s < A.tmps.size → (∃ x ∈ r, x.d = s) → (∀ x ∈ r, x.d = s → G x.k = g) → (lay G r A).tmps[s]? = some (ptr g) := by
 intro r; induction r with
 | nil => intro A _ h; obtain ⟨x, hx, _⟩ := h; cases hx
 | cons z r ih =>
  intro A hlt hx hu
  rw [lay]
  by_cases hin : ∃ y ∈ r, y.d = s
  ·
   exact ih _ (by rw [put_size]; exact hlt) hin (fun y hy => hu y (List.mem_cons_of_mem _ hy))
  ·
   obtain ⟨x, hx, hxs⟩ := hx
   have hz : x = z := by
    rcases List.mem_cons.1 hx with h | h
    ·
     exact h
    ·
     exact absurd ⟨x, h, hxs⟩ hin
   subst hz
   subst hxs
   rw [lay_ne _ _ _ _ (fun y hy e => hin ⟨y, hy, e⟩), put_same _ _ _ hlt, hu x (by simp) rfl]

theorem free_any {a0 A : Act} {V : Nat → Value} {R : Exit → Act → World → Prop} (F : Fits md ops N ks als) (hN : a0.tmps.size = N) (hA : A = puts ops V ks a0)
  (hV : ∀ k ∈ ks, ∃ o, ops[k]? = some o ∧ Firm P W o (V k) A) (hal : ∀ x ∈ als, (∃ o, ops[x.k]? = some o ∧ IsAl P o x.d (.cells x.old x.T)) ∧ ∃ o, ops[x.j]? = some o ∧ IsSt P o x)
  (hsv : ∀ x ∈ als, A.tmps[x.sv]? = some (.agg x.row))
  (hEnd : ∀ G a w, Inv md ops W ks als a0 A G (a := a) (w := w) (t := Array.replicate ops.size true) → R .normal a w) :
  ∀ (f : Nat) (r : List Nat) (G : Nat → Nat) (t : Array Bool) (a : Act) (w : World), r.length ≤ f → (∀ k, k < ops.size → t.getD k false = false → k ∈ r) → Inv md ops W ks als a0 A G t a w → wpAny P md ops R f t a w := by
 have over : ∀ (G : Nat → Nat) (t : Array Bool) (a : Act) (w : World), Region.ready md ops t = [] → Inv md ops W ks als a0 A G t a w → R .normal a w := by
  intro G t a w hr I
  have hall : ∀ k, k < ops.size → t.getD k false = true := by
   intro k
   induction k using Nat.strongRecOn with
   | ind k ih =>
    intro hk
    cases ht : t.getD k false
    ·
     have : k ∈ Region.ready md ops t := mem_ready.2 ⟨getD_in (by rw [I.tsz]; exact hk) ht, ops[k], by simp [hk], fun e he hb => by
      have h1 := F.back k ops[k] (by simp [hk]) e he hb
      exact ih _ h1 (by omega)⟩
     rw [hr] at this; cases this
    ·
     rfl
  have : t = Array.replicate ops.size true := by
   apply Array.ext
   ·
    simp [I.tsz]
   ·
    intro i h1 h2
    have := hall i (by rw [← I.tsz]; exact h1)
    simpa [Array.getD_eq_getD_getElem?, h1] using this
  subst this
  exact hEnd G a w I
 intro f
 induction f with
 | zero =>
  intro r G t a w hl hr I
  have hnil : r = [] := List.length_eq_zero_iff.1 (by omega)
  have : Region.ready md ops t = [] := by
   apply List.eq_nil_iff_forall_not_mem.2
   intro k hk
   obtain ⟨h1, o, ho, _⟩ := mem_ready.1 hk
   have := hr k (Array.getElem?_eq_some_iff.1 ho).1 (getD_both h1)
   rw [hnil] at this; cases this
  exact ⟨this, over G t a w this I⟩
 | succ f ih =>
  intro r G t a w hl hr I
  refine ⟨fun h0 => over G t a w h0 I, fun k hk => Inv.step F hN hA hV hal hsv I hk fun G' a' w' I' => ?_⟩
  obtain ⟨h1, o, ho, _⟩ := mem_ready.1 hk
  have hkr := hr k (Array.getElem?_eq_some_iff.1 ho).1 (getD_both h1)
  refine ih (r.erase k) G' _ a' w' (by rw [List.length_erase_of_mem hkr]; omega) (fun j hj ht => ?_) I'
  by_cases e : k = j
  ·
   subst e
   rw [set_at (by rw [I.tsz]; exact hj)] at ht; cases ht
  ·
   rw [getD_set_ne false e] at ht
   exact (List.mem_erase_of_ne (Ne.symm e)).2 (hr j hj ht)
end

/-- THE LAW -/
theorem wp_region_free {P : Program} {id : Nat} {Q : Exit → Act → World → Prop} {a : Act} {w : World} {l : List Oper} (N : Nat) (ks : List Nat) (als : List Nw) (hm : P.follows .mixedOrders = true) (hN : a.tmps.size = N)
  (hB : freeB .any l.toArray N ks (als.map fun x => (x.k, x.d, x.j, x.sv)) = true)
  (hal : ∀ x ∈ als, (∃ o, l.toArray[x.k]? = some o ∧ IsAl P o x.d (.cells x.old x.T)) ∧ ∃ o, l.toArray[x.j]? = some o ∧ IsSt P o x)
  (h : Walk P l.toArray w (fun A => (∀ x ∈ als, A.tmps[x.sv]? = some (.agg x.row)) ∧
   ∀ G : Nat → Nat, (∀ x ∈ als, w.heap.size ≤ G x.k) → (∀ x ∈ als, ∀ y ∈ als, x.k ≠ y.k → G x.k ≠ G y.k) → ∀ w', Below w.heap.size w w' → (∀ x ∈ als, w'.heap[G x.k]? = some (.cells x.row x.T)) → wpList P l.toArray Q [] (lay G als A) w') ks a) : (Code.region id l.toArray true).wp P Q a w := by
 have F := fits_of hB
 obtain ⟨V, ⟨hsv, hK⟩, hV⟩ := Walk.puts_ (fun j o cs b => Region.noSelect_spec F.sel j o cs b) ks a F.sorted (fun k hk o ho s hs k' hk' => by
  obtain ⟨_, e, he, hb, hon⟩ := F.look k hk o ho s hs k' hk'
  have := F.back k o ho e he hb
  omega) h
 refine wp_region_any hm ?_
 refine free_any (V := V) F hN rfl hV hal hsv (fun G b w' I => ?_) _ (List.range l.toArray.size) (fun _ => 0) _ _ _ (by simp) (fun k hk _ => List.mem_range.2 hk) ?inv
 case inv =>
  refine ⟨by simp, rfl, rfl, fun s _ => rfl, fun k _ ht => ?_, fun x _ ht => ?_, fun x _ y _ _ ht => ?_, ⟨rfl, rfl, rfl, Nat.le_refl _, fun _ _ => rfl⟩, fun k o _ ht => ?_⟩ <;> (rw [getD_replicate_false] at ht; cases ht)
 have tr : ∀ k, k < l.toArray.size → (Array.replicate l.toArray.size true).getD k false = true := fun k hk => by simp [Array.getD_eq_getD_getElem?, hk] at *; simp [hk]
 have hkl : ∀ x ∈ als, x.k < l.toArray.size ∧ x.j < l.toArray.size := fun x hx => by
  obtain ⟨⟨o, ho, _⟩, ⟨o', ho', _⟩⟩ := hal x hx
  exact ⟨(Array.getElem?_eq_some_iff.1 ho).1, (Array.getElem?_eq_some_iff.1 ho').1⟩
 have hb : b = lay G als (puts l.toArray V ks a) := by
  have e1 : b.tmps = (lay G als (puts l.toArray V ks a)).tmps := by
   apply Array.ext_getElem?
   intro s
   by_cases h1 : ∃ x ∈ als, x.d = s
   ·
    obtain ⟨x, hx, rfl⟩ := h1
    have h2 := F.ak x hx
    rw [lay_at G x.d (G x.k) als _ (by rw [puts_size, hN]; exact F.fits _ _ h2.1) ⟨x, hx, rfl⟩ (fun y hy e => by rw [F.dsts _ _ _ (F.ak y hy).1 (by rw [e]; exact h2.1)])]
    exact (I.al x hx (tr _ (hkl x hx).1)).1
   ·
    rw [lay_ne _ _ _ _ (fun x hx e => h1 ⟨x, hx, e⟩)]
    by_cases h2 : ∃ k ∈ ks, dstOf l.toArray k = some s
    ·
     obtain ⟨k, hk, hd⟩ := h2
     exact I.quiet k hk (tr k (F.inn k hk)) s hd
    ·
     rw [puts_ne V s ks a (fun k hk e => h2 ⟨k, hk, e⟩)]
     refine I.keep s fun k hk => ?_
     rcases F.cover k (dstOf_lt hk) with hq | ⟨x, hx, rfl | rfl⟩
     ·
      exact absurd ⟨k, hq, hk⟩ h2
     ·
      exact absurd ⟨x, hx, Option.some.inj ((F.ak x hx).1.symm.trans hk)⟩ h1
     ·
      obtain ⟨_, ⟨o', ho', hSt⟩⟩ := hal x hx
      rw [dstOf_of ho', hSt.dst] at hk; cases hk
  have e2 : b.defers = (lay G als (puts l.toArray V ks a)).defers := by rw [lay_defers, puts_defers]; exact I.defs
  generalize lay G als (puts l.toArray V ks a) = c at e1 e2
  cases b; cases c; simp only at e1 e2; rw [e1, e2]
 rw [hb]
 refine hK G (fun x hx => (I.al x hx (tr _ (hkl x hx).1)).2.1) (fun x hx y hy hne => I.dist x hx y hy hne (tr _ (hkl x hx).1) (tr _ (hkl y hy).1)) w' I.below (fun x hx => ?_)
 have := (I.al x hx (tr _ (hkl x hx).1)).2.2
 rw [tr _ (hkl x hx).2] at this
 exact this
end Go.Proofs.YtdaokkgenfpmhaaGreat.Qf

/- A region that draws its order, each of whose operations leaves in a slot of its own a value that fits a predicate of the world (and goes on fitting it in later worlds), whatever values that fit theirs stand in the slots it looks at: so literals with slices within ('[]Mesh{{Points: []Vec{..}}, ..}'), whose values hang on where the blocks come to lie, are shown without asking in which order. No program is named here. -/
set_option linter.unusedVariables false
set_option linter.unusedSimpArgs false
namespace Go.Proofs.YtdaokkgenfpmhaaGreat.Qr
open Go.RowKit Go.Sort Qb Qt Qa Qf

/-- what an operation leaves -/
def relUpon (P : Program) (Φ : World → Value → Prop) (w : World) : Result Next → Prop
 | .ok (.value u) w' => Φ w' u ∧ Below w.heap.size w w'
 | .ok .skip w' => Φ w' undef ∧ Below w.heap.size w w'
 | .ok (.enter f args) w' => Calls P f args w' (fun e w'' => ∃ v, e = .returned v ∧ Φ w'' v ∧ Below w.heap.size w w'')
 | _ => False
/-- one operation: in every later world, whatever fits in its slots -/
def StepOK (P : Program) (ops : Array Oper) (Φ : Nat → World → Value → Prop) (W : World) (a : Act) (k : Nat) (o : Oper) : Prop :=
 ∀ (b : Act) (w : World), Below W.heap.size W w → (∀ s ∈ o.looksAt ops, ∀ k', dstOf ops k' = some s → Φ k' w (b.eval (.tmp s))) → (∀ s, (∀ k', dstOf ops k' ≠ some s) → b.tmps[s]? = a.tmps[s]?) → relUpon P (Φ k) w ((execOp b.eval o).run P w)
def Steps (P : Program) (ops : Array Oper) (Φ : Nat → World → Value → Prop) (W : World) (a : Act) : Nat → List Oper → Prop
 | _, [] => True
 | k, o :: r => StepOK P ops Φ W a k o ∧ Steps P ops Φ W a (k + 1) r
def putsL (V : Nat → Value) : Nat → List Oper → Act → Act
 | _, [], a => a
 | k, o :: r, a => putsL V (k + 1) r (a.put o.dst (V k))
theorem steps_at {P : Program} {ops : Array Oper} {Φ : Nat → World → Value → Prop} {W : World} {a : Act} : ∀ (l : List Oper) (k : Nat), Steps P ops Φ W a k l → ∀ i o, l[i]? = some o → StepOK P ops Φ W a (k + i) o := by
 intro l
 induction l with
 | nil => intro k _ i o h; simp at h
 | cons x l ih =>
  intro k h i o ho
  cases i with
  | zero => simp at ho; subst ho; exact h.1
  | succ i => rw [show k + (i + 1) = k + 1 + i by omega]; exact ih (k + 1) h.2 i o (by simpa using ho)
theorem putsL_size (V : Nat → Value) : ∀ (l : List Oper) (k : Nat) (a : Act), (putsL V k l a).tmps.size = a.tmps.size := by
 intro l; induction l with
 | nil => intro k a; rfl
 | cons x l ih => intro k a; rw [putsL, ih, put_size]
theorem putsL_defers (V : Nat → Value) : ∀ (l : List Oper) (k : Nat) (a : Act), (putsL V k l a).defers = a.defers := by
 intro l; induction l with
 | nil => intro k a; rfl
 | cons x l ih => intro k a; rw [putsL, ih, put_defers]
theorem putsL_ne (V : Nat → Value) (s : Tmp) : ∀ (l : List Oper) (k : Nat) (a : Act), (∀ (i : Nat) (o : Oper), l[i]? = some o → o.dst ≠ some s) → (putsL V k l a).tmps[s]? = a.tmps[s]? := by
 intro l; induction l with
 | nil => intro k a _; rfl
 | cons x l ih => intro k a h; rw [putsL, ih _ _ (fun i o ho => h (i + 1) o (by simpa using ho)), put_ne _ _ _ _ (h 0 x rfl)]
theorem putsL_at (V : Nat → Value) (d : Tmp) : ∀ (l : List Oper) (k : Nat) (a : Act) (i : Nat) (o : Oper), l[i]? = some o → o.dst = some d → d < a.tmps.size → (∀ (j : Nat) (o' : Oper), l[j]? = some o' → o'.dst = some d → j = i) → (putsL V k l a).tmps[d]? = some (V (k + i)) := by
 intro l; induction l with
 | nil => intro k a i o h; simp at h
 | cons x l ih =>
  intro k a i o ho hd hlt hu
  rw [putsL]
  cases i with
  | zero =>
   simp at ho; subst ho
   rw [putsL_ne V d l _ _ (fun j o' hj e => by have := hu (j + 1) o' (by simpa using hj) e; omega), hd, put_same _ _ _ hlt]; rfl
  | succ i =>
   rw [show k + (i + 1) = k + 1 + i by omega]
   exact ih _ _ i o (by simpa using ho) hd (by rw [put_size]; exact hlt) (fun j o' hj e => by have := hu (j + 1) o' (by simpa using hj) e; omega)

section
variable {P : Program} {ops : Array Oper} {W : World} {md : Region.Mode} {N : Nat} {Φ : Nat → World → Value → Prop}
structure FitR (md : Region.Mode) (ops : Array Oper) (N : Nat) : Prop where
 sel : Region.noSelect ops = true
 gd : ∀ (k : Nat) (o : Oper), ops[k]? = some o → o.guard = none
 back : ∀ (k : Nat) (o : Oper), ops[k]? = some o → ∀ e ∈ o.after, Region.binds md e = true → e.on < k
 dsts : ∀ k k' d, dstOf ops k = some d → dstOf ops k' = some d → k = k'
 has : ∀ k, k < ops.size → ∃ d, dstOf ops k = some d ∧ d < N
 look : ∀ (k : Nat) (o : Oper), ops[k]? = some o → ∀ s ∈ o.looksAt ops, ∀ k', dstOf ops k' = some s → ∃ e ∈ o.after, Region.binds md e = true ∧ e.on = k'
def relB (md : Region.Mode) (ops : Array Oper) (N : Nat) : Bool :=
 Region.noSelect ops &&
 (ops.all fun o => o.guard.isNone) &&
 (upto ops.size fun k => ((ops[k]?).map fun o => o.after.all fun e => !Region.binds md e || decide (e.on < k)).getD false) &&
 (upto ops.size fun k => upto ops.size fun k' => k == k' || (match dstOf ops k with | none => true | some d => dstOf ops k' != some d)) &&
 (upto ops.size fun k => match dstOf ops k with | none => false | some d => decide (d < N)) &&
 (upto ops.size fun k => ((ops[k]?).map fun o => (o.looksAt ops).all fun s => upto ops.size fun k' => dstOf ops k' != some s || edgeB md o k').getD true)
theorem fitR_of (h : relB md ops N = true) : FitR md ops N := by
 unfold relB at h
 simp only [Bool.and_eq_true] at h
 obtain ⟨⟨⟨⟨⟨h1, h2⟩, h3⟩, h4⟩, h5⟩, h6⟩ := h
 refine ⟨h1, ?_, ?_, ?_, ?_, ?_⟩
 ·
  intro k o ho
  have := Array.all_eq_true_iff_forall_mem.1 h2 o (Array.mem_of_getElem? ho)
  simpa using this
 ·
  intro k o ho e he hb
  have hk : k < ops.size := (Array.getElem?_eq_some_iff.1 ho).1
  have := upto_spec h3 k hk
  rw [ho] at this
  simp only [Option.map_some, Option.getD_some] at this
  have := Array.all_eq_true_iff_forall_mem.1 this e he
  simpa [hb] using this
 ·
  intro k k' d hd hd'
  have := upto_spec (upto_spec h4 k (dstOf_lt hd)) k' (dstOf_lt hd')
  rw [hd, hd'] at this
  simpa using this
 ·
  intro k hk
  have := upto_spec h5 k hk
  cases hd : dstOf ops k with
  | none => rw [hd] at this; simp at this
  | some d => rw [hd] at this; exact ⟨d, rfl, by simpa using this⟩
 ·
  intro k o ho s hs k' hk'
  have := upto_spec h6 k (Array.getElem?_eq_some_iff.1 ho).1
  rw [ho] at this
  simp only [Option.map_some, Option.getD_some] at this
  have := upto_spec (List.all_eq_true.1 this s hs) k' (dstOf_lt hk')
  rw [hk'] at this
  simp only [bne_self_eq_false, Bool.false_or] at this
  exact edge_spec this

structure InvR (ops : Array Oper) (W : World) (Φ : Nat → World → Value → Prop) (a0 : Act) (t : Array Bool) (a : Act) (w : World) : Prop where
 tsz : t.size = ops.size
 defs : a.defers = a0.defers
 sz : a.tmps.size = a0.tmps.size
 keep : ∀ s, (∀ k, dstOf ops k = some s → t.getD k false = false) → a.tmps[s]? = a0.tmps[s]?
 got : ∀ k, t.getD k false = true → ∀ d, dstOf ops k = some d → ∃ v, a.tmps[d]? = some v ∧ Φ k w v
 below : Below W.heap.size W w
theorem InvR.step {a0 : Act} {K : Act → World → Prop} {R : Exit → Act → World → Prop} (F : FitR md ops N) (hN : a0.tmps.size = N) (mono : ∀ k v w1 w2, Φ k w1 v → Below w1.heap.size w1 w2 → Φ k w2 v)
  (hst : ∀ k o, ops[k]? = some o → StepOK P ops Φ W a0 k o) {t : Array Bool} {a : Act} {w : World} (I : InvR ops W Φ a0 t a w) {k : Nat} (hk : k ∈ Region.ready md ops t)
  (h : ∀ a' w', InvR ops W Φ a0 (t.setIfInBounds k true) a' w' → K a' w') : wpOp P ops R k K a w := by
 obtain ⟨hkt, o, ho, hed⟩ := mem_ready.1 hk
 have hkn : k < ops.size := (Array.getElem?_eq_some_iff.1 ho).1
 have hwt : ∀ f, Region.wanted o f = true := fun f => by simp [Region.wanted, F.gd k o ho]
 obtain ⟨d, hd, hdN⟩ := F.has k hkn
 have hod : o.dst = some d := by rw [← dstOf_of ho]; exact hd
 have hkt' : k < t.size := by rw [I.tsz]; exact hkn
 have hlt : d < a.tmps.size := by rw [I.sz, hN]; exact hdN
 have hdep : ∀ s ∈ o.looksAt ops, ∀ k', dstOf ops k' = some s → Φ k' w (a.eval (.tmp s)) := by
  intro s hs k' hk'
  obtain ⟨e, he, hb, hon⟩ := F.look k o ho s hs k' hk'
  have ht := hed e he hb
  rw [hon] at ht
  obtain ⟨v, hv, hp⟩ := I.got k' ht s hk'
  simpa [Act.eval, Array.getD_eq_getD_getElem?, hv] using hp
 have hr := hst k o ho a w I.below hdep (fun s hs => I.keep s fun k' hk' => absurd hk' (hs k'))
 have next : ∀ v w', Φ k w' v → Below w.heap.size w w' → K (a.put o.dst v) w' := by
  intro v w' hp hb
  refine h _ _ ⟨by simp [I.tsz], by rw [put_defers]; exact I.defs, by rw [put_size]; exact I.sz, fun s hs => ?_, fun k' ht d' hd' => ?_, I.below.trans (hb.mono I.below.size)⟩
  ·
   have hne : o.dst ≠ some s := fun e => by have := hs k (by rw [dstOf_of ho]; exact e); rw [set_at hkt'] at this; cases this
   rw [put_ne _ _ _ _ hne]
   refine I.keep s fun k' hk' => ?_
   cases ht : t.getD k' false
   ·
    rfl
   ·
    have := hs k' hk'; rw [set_mono ht] at this; cases this
  ·
   rcases set_or ht with rfl | ht
   ·
    have e : d' = d := Option.some.inj (hd'.symm.trans hd)
    subst e
    exact ⟨v, by rw [hod, put_same _ _ _ hlt], hp⟩
   ·
    by_cases e : d = d'
    ·
     subst e
     obtain rfl := F.dsts _ _ _ hd' hd
     exact ⟨v, by rw [hod, put_same _ _ _ hlt], hp⟩
    ·
     obtain ⟨u, hu, hup⟩ := I.got k' ht d' hd'
     exact ⟨u, by rw [hod, put_ne _ _ _ _ (fun e2 => e (Option.some.inj e2))]; exact hu, mono _ _ _ _ hup hb⟩
 unfold wpOp
 simp only [ho, hwt, if_true]
 refine .inl ?_
 unfold Oper.wp
 generalize (execOp a.eval o).run P w = r at hr
 cases r with
 | halt x w' => simp only [relUpon] at hr
 | ok nx w' =>
  cases nx <;> simp only [relUpon] at hr
  case value u => exact next u w' hr.1 hr.2
  case skip => exact next undef w' hr.1 hr.2
  case enter f args =>
   refine hr.mono ?_
   rintro e w'' ⟨v, rfl, hp, hb⟩
   exact next v w'' hp hb
end

/-- THE LAW -/
theorem wp_region_rel {P : Program} {id : Nat} {Q : Exit → Act → World → Prop} {a : Act} {w : World} {l : List Oper} (N : Nat) (Φ : Nat → World → Value → Prop) (hm : P.follows .mixedOrders = true) (hN : a.tmps.size = N)
  (hB : relB .any l.toArray N = true) (mono : ∀ k v w1 w2, Φ k w1 v → Below w1.heap.size w1 w2 → Φ k w2 v) (hst : Steps P l.toArray Φ w a 0 l)
  (h : ∀ (V : Nat → Value) (w' : World), Below w.heap.size w w' → (∀ k, k < l.length → Φ k w' (V k)) → wpList P l.toArray Q [] (putsL V 0 l a) w') : (Code.region id l.toArray true).wp P Q a w := by
 have F := fitR_of hB
 have hst' : ∀ k o, l.toArray[k]? = some o → StepOK P l.toArray Φ w a k o := fun k o ho => by
  have := steps_at l 0 hst k o (by simpa using ho)
  rwa [Nat.zero_add] at this
 refine wp_region_any hm ?_
 have over : ∀ (t : Array Bool) (b : Act) (w' : World), Region.ready .any l.toArray t = [] → InvR l.toArray w Φ a t b w' → Q .normal b w' := by
  intro t b w' hr I
  have hall : ∀ k, k < l.toArray.size → t.getD k false = true := by
   intro k
   induction k using Nat.strongRecOn with
   | ind k ih =>
    intro hk
    cases ht : t.getD k false
    ·
     have : k ∈ Region.ready .any l.toArray t := mem_ready.2 ⟨getD_in (by rw [I.tsz]; exact hk) ht, l.toArray[k], Array.getElem?_eq_getElem hk, fun e he hb => by
      have h1 := F.back k l.toArray[k] (Array.getElem?_eq_getElem hk) e he hb
      exact ih _ h1 (by omega)⟩
     rw [hr] at this; cases this
    ·
     rfl
  have hV : ∃ V : Nat → Value, ∀ k d, dstOf l.toArray k = some d → b.tmps[d]? = some (V k) ∧ Φ k w' (V k) := by
   refine ⟨fun k => b.tmps.getD ((dstOf l.toArray k).getD 0) undef, fun k d hd => ?_⟩
   obtain ⟨v, hv, hp⟩ := I.got k (hall k (dstOf_lt hd)) d hd
   simp only [hd, Option.getD_some, Array.getD_eq_getD_getElem?, hv]
   exact ⟨trivial, hp⟩
  obtain ⟨V, hV⟩ := hV
  have hdl : ∀ i o, l[i]? = some o → dstOf l.toArray i = o.dst := fun i o ho => dstOf_of (by simpa using ho)
  have hb : b = putsL V 0 l a := by
   have e1 : b.tmps = (putsL V 0 l a).tmps := by
    apply Array.ext_getElem?
    intro s
    by_cases h1 : ∃ k, dstOf l.toArray k = some s
    ·
     obtain ⟨k, hk⟩ := h1
     have hkl : k < l.length := by have := dstOf_lt hk; simpa using this
     have ho : l[k]? = some l[k] := by simp [hkl]
     have e2 := putsL_at V s l 0 a k l[k] ho (by rw [← hdl k _ ho]; exact hk) (by
      obtain ⟨d', hd', hlt⟩ := F.has k (dstOf_lt hk)
      have : d' = s := Option.some.inj (hd'.symm.trans hk)
      rw [hN, ← this]; exact hlt) (fun j o' hj e => F.dsts j k s (by rw [hdl j o' hj]; exact e) hk)
     rw [e2, Nat.zero_add]
     exact (hV k s hk).1
    ·
     rw [putsL_ne V s l 0 a (fun i o ho e => h1 ⟨i, by rw [hdl i o ho]; exact e⟩)]
     exact I.keep s fun k hk => absurd ⟨k, hk⟩ h1
   have e2 : b.defers = (putsL V 0 l a).defers := by rw [putsL_defers]; exact I.defs
   generalize putsL V 0 l a = c at e1 e2
   cases b; cases c; simp only at e1 e2; rw [e1, e2]
  rw [hb]
  refine h V w' I.below fun k hk => ?_
  obtain ⟨d, hd, _⟩ := F.has k (by simpa using hk)
  exact (hV k d hd).2
 have run : ∀ (f : Nat) (r : List Nat) (t : Array Bool) (b : Act) (w' : World), r.length ≤ f → (∀ k, k < l.toArray.size → t.getD k false = false → k ∈ r) → InvR l.toArray w Φ a t b w' → wpAny P .any l.toArray Q f t b w' := by
  intro f
  induction f with
  | zero =>
   intro r t b w' hl hr I
   have hnil : r = [] := List.length_eq_zero_iff.1 (by omega)
   have : Region.ready .any l.toArray t = [] := by
    apply List.eq_nil_iff_forall_not_mem.2
    intro k hk
    obtain ⟨h1, o, ho, _⟩ := mem_ready.1 hk
    have := hr k (Array.getElem?_eq_some_iff.1 ho).1 (getD_both h1)
    rw [hnil] at this; cases this
   exact ⟨this, over t b w' this I⟩
  | succ f ih =>
   intro r t b w' hl hr I
   refine ⟨fun h0 => over t b w' h0 I, fun k hk => InvR.step F hN mono hst' I hk fun b' w'' I' => ?_⟩
   obtain ⟨h1, o, ho, _⟩ := mem_ready.1 hk
   have hkr := hr k (Array.getElem?_eq_some_iff.1 ho).1 (getD_both h1)
   refine ih (r.erase k) _ b' w'' (by rw [List.length_erase_of_mem hkr]; omega) (fun j hj ht => ?_) I'
   by_cases e : k = j
   ·
    subst e
    rw [set_at (by rw [I.tsz]; exact hj)] at ht; cases ht
   ·
    rw [getD_set_ne false e] at ht
    exact (List.mem_erase_of_ne (Ne.symm e)).2 (hr j hj ht)
 refine run _ (List.range l.toArray.size) _ _ _ (by simp) (fun k hk _ => List.mem_range.2 hk) ⟨by simp, rfl, rfl, fun s _ => rfl, fun k ht => ?_, ⟨rfl, rfl, rfl, Nat.le_refl _, fun _ _ => rfl⟩⟩
 rw [getD_replicate_false] at ht; cases ht

/-! ### with one operation behind all the others ('p := &T{..make..}': the store) -/
end Go.Proofs.YtdaokkgenfpmhaaGreat.Qr

/- A region that draws its order, of quiet operations and stores of whole rows into blocks that stand already ('return l[i], l[j], l[k]' of structs), in ANY order that the binding edges leave: shown by an invariant; the quiet ones are asked for in every world in which only these blocks may have turned. No program is named here. -/
set_option linter.unusedVariables false
set_option linter.unusedSimpArgs false
namespace Go.Proofs.YtdaokkgenfpmhaaGreat.Qg
open Go.RowKit Go.Sort Qb Qt Qa Qf Base

/-- a store: its number, the slot of the pointer, the block, its type, its first row, the slot of the row stored, that row -/
structure Sw where
 j : Nat
 p : Tmp
 g : Nat
 T : TypeId
 old : Array Value
 sv : Tmp
 row : Array Value
def Sof (sts : List Sw) : Nat → Prop := fun k => ∃ x ∈ sts, k = x.g
section
variable {P : Program} {ops : Array Oper} {W : World} {md : Region.Mode} {N : Nat} {ks : List Nat} {sts : List Sw} {S : Nat → Prop}
/-- one value in every world in which only the blocks of S may have turned -/
def FirmK (P : Program) (S : Nat → Prop) (W : World) (o : Oper) (v : Value) (a : Act) : Prop := ∀ w, Keeps S W w → o.quietAt P a (Cls w) w v
theorem FirmK.of_same {o : Oper} {v : Value} {a a' : Act} (h : FirmK P S W o v a) (he : execOp a'.eval o = execOp a.eval o) : FirmK P S W o v a' := by
 intro w hw
 have := h w hw
 unfold Oper.quietAt at *
 rw [he]; exact this
def WalkK (P : Program) (ops : Array Oper) (S : Nat → Prop) (W : World) (K : Act → Prop) : List Nat → Act → Prop
 | [], a => K a
 | k :: ks, a => ∃ o, ops[k]? = some o ∧ ∃ v, FirmK P S W o v a ∧ WalkK P ops S W K ks (a.put o.dst v)
theorem keeps_cls {w w1 : World} (h : Keeps S W w) (h1 : Cls w w1) : Keeps S W w1 := h.trans (Keeps.of_ext h1.below S) (fun k hk => .inl hk)
theorem WalkK.step {K : Act → Prop} {k : Nat} {ks : List Nat} {a A : Act} {o : Oper} (ho : ops[k]? = some o) (d : Tmp) (hd : o.dst = some d) (hlt : d < a.tmps.size)
  (h : ∀ W1, Keeps S W W1 → o.quiet P a (fun w' => ∃ p : Regrown, w' = grow (redrawn W1 p.d) p.os) (fun a' => a' = A)) (hn : WalkK P ops S W K ks A) : WalkK P ops S W K (k :: ks) a := by
 have hput : ∀ v, a.put o.dst v = A → v = A.tmps.getD d undef := by
  intro v e
  rw [← e, hd]
  simp [Act.put, hlt]
 obtain ⟨v0, _, e0⟩ := h W (Keeps.refl _ _)
 have hv0 := hput v0 e0
 refine ⟨o, ho, v0, fun w hw' => ?_, by rw [e0]; exact hn⟩
 obtain ⟨v, h1, e1⟩ := h w hw'
 have hv := hput v e1
 rw [hv0, ← hv]
 exact h1 w (Cls.refl w)
theorem WalkK.puts_ {K : Act → Prop} (hsel : ∀ (j : Nat) (o : Oper) cs b, ops[j]? = some o → o.op ≠ .select cs b) :
  ∀ (ks : List Nat) (a : Act), ks.Pairwise (· < ·) → (∀ k ∈ ks, ∀ o, ops[k]? = some o → ∀ s ∈ o.looksAt ops, ∀ k', dstOf ops k' = some s → k' < k) → WalkK P ops S W K ks a →
   ∃ V : Nat → Value, K (puts ops V ks a) ∧ ∀ k ∈ ks, ∃ o, ops[k]? = some o ∧ FirmK P S W o (V k) (puts ops V ks a) := by
 intro ks
 induction ks with
 | nil => intro a _ _ h; exact ⟨fun _ => undef, h, fun k hk => by cases hk⟩
 | cons k ks ih =>
  intro a hp hl h
  rw [List.pairwise_cons] at hp
  obtain ⟨o, ho, v, hf, hw⟩ := h
  obtain ⟨V, hK, hV⟩ := ih _ hp.2 (fun k' hk' => hl k' (List.mem_cons_of_mem _ hk')) hw
  have hnk : k ∉ ks := fun hk => absurd (hp.1 k hk) (Nat.lt_irrefl _)
  have e1 : puts ops (fun j => if j = k then v else V j) (k :: ks) a = puts ops V ks (a.put o.dst v) := by
   rw [puts]
   simp only [if_true, dstOf_of ho]
   exact puts_congr _ _ ks _ (fun j hj => by rw [if_neg (fun e : j = k => hnk (by rw [← e]; exact hj))])
  refine ⟨fun j => if j = k then v else V j, by rw [e1]; exact hK, fun j hj => ?_⟩
  by_cases hjk : j = k
  ·
   subst hjk
   refine ⟨o, ho, ?_⟩
   simp only [if_true]
   refine hf.of_same (exec_same (ops := ops) (fun cs b => hsel j o cs b ho) fun s hs => ?_)
   refine puts_ne _ s _ _ fun k' hk' e => ?_
   have h1 := hl j (by simp) o ho s hs k' e
   rcases List.mem_cons.1 hk' with rfl | h2
   ·
    omega
   ·
    have := hp.1 k' h2; omega
  ·
   obtain ⟨o', ho', hf'⟩ := hV j (by rcases List.mem_cons.1 hj with h | h; exact absurd h hjk; exact h)
   refine ⟨o', ho', ?_⟩
   rw [e1]
   simp only [if_neg hjk]
   exact hf'

structure IsSw (P : Program) (o : Oper) (x : Sw) : Prop where
 op : ∃ ty, o.op = .store ty (.tmp x.p) (.tmp x.sv) ∧ (P.info? ty).map (·.size) = some x.row.size
 dst : o.dst = none
 size : x.old.size = x.row.size
 one : x.row.all (·.oneCell') = true
structure FitsG (md : Region.Mode) (ops : Array Oper) (N : Nat) (ks : List Nat) (sts : List (Nat × Tmp × Tmp)) : Prop where
 sel : Region.noSelect ops = true
 gd : ∀ (k : Nat) (o : Oper), ops[k]? = some o → o.guard = none
 back : ∀ (k : Nat) (o : Oper), ops[k]? = some o → ∀ e ∈ o.after, Region.binds md e = true → e.on < k
 cover : ∀ k, k < ops.size → k ∈ ks ∨ ∃ x ∈ sts, k = x.1
 sorted : ks.Pairwise (· < ·)
 inn : ∀ k ∈ ks, k < ops.size
 dsts : ∀ k k' d, dstOf ops k = some d → dstOf ops k' = some d → k = k'
 fits : ∀ k d, dstOf ops k = some d → d < N
 look : ∀ k ∈ ks, ∀ (o : Oper), ops[k]? = some o → ∀ s ∈ o.looksAt ops, ∀ k', dstOf ops k' = some s → k' ∈ ks ∧ ∃ e ∈ o.after, Region.binds md e = true ∧ e.on = k'
 ptr_ : ∀ x ∈ sts, x.1 ∉ ks ∧ ∀ k, dstOf ops k ≠ some x.2.1
 val : ∀ x ∈ sts, ∀ (o : Oper), ops[x.1]? = some o → ∃ k' ∈ ks, dstOf ops k' = some x.2.2 ∧ ∃ e ∈ o.after, Region.binds md e = true ∧ e.on = k'
 ndj : (sts.map (·.1)).Nodup
def storesB (md : Region.Mode) (ops : Array Oper) (N : Nat) (ks : List Nat) (sts : List (Nat × Tmp × Tmp)) : Bool :=
 Region.noSelect ops &&
 (ops.all fun o => o.guard.isNone) &&
 (upto ops.size fun k => ((ops[k]?).map fun o => o.after.all fun e => !Region.binds md e || decide (e.on < k)).getD false) &&
 (upto ops.size fun k => ks.contains k || sts.any fun x => k == x.1) &&
 decide (ks.Pairwise (· < ·)) &&
 (ks.all fun k => decide (k < ops.size)) &&
 (upto ops.size fun k => upto ops.size fun k' => k == k' || (match dstOf ops k with | none => true | some d => dstOf ops k' != some d)) &&
 (upto ops.size fun k => match dstOf ops k with | none => true | some d => decide (d < N)) &&
 (ks.all fun k => ((ops[k]?).map fun o => (o.looksAt ops).all fun s => upto ops.size fun k' => dstOf ops k' != some s || (ks.contains k' && edgeB md o k')).getD true) &&
 (sts.all fun x => !ks.contains x.1 && upto ops.size fun k => dstOf ops k != some x.2.1) &&
 (sts.all fun x => ((ops[x.1]?).map fun o => ks.any fun k' => dstOf ops k' == some x.2.2 && edgeB md o k').getD true) &&
 decide ((sts.map (·.1)).Nodup)
theorem fitsG_of {sts : List (Nat × Tmp × Tmp)} (h : storesB md ops N ks sts = true) : FitsG md ops N ks sts := by
 unfold storesB at h
 simp only [Bool.and_eq_true] at h
 obtain ⟨⟨⟨⟨⟨⟨⟨⟨⟨⟨⟨h1, h2⟩, h3⟩, h4⟩, h5⟩, h6⟩, h7⟩, h8⟩, h9⟩, h10⟩, h11⟩, h12⟩ := h
 refine ⟨h1, ?_, ?_, ?_, by simpa using h5, ?_, ?_, ?_, ?_, ?_, ?_, by simpa using h12⟩
 ·
  intro k o ho
  have := Array.all_eq_true_iff_forall_mem.1 h2 o (Array.mem_of_getElem? ho)
  simpa using this
 ·
  intro k o ho e he hb
  have hk : k < ops.size := (Array.getElem?_eq_some_iff.1 ho).1
  have := upto_spec h3 k hk
  rw [ho] at this
  simp only [Option.map_some, Option.getD_some] at this
  have := Array.all_eq_true_iff_forall_mem.1 this e he
  simpa [hb] using this
 ·
  intro k hk
  have := upto_spec h4 k hk
  simp only [Bool.or_eq_true, List.any_eq_true, beq_iff_eq] at this
  rcases this with h | ⟨x, hx, h⟩
  ·
   exact .inl (by simpa using h)
  ·
   exact .inr ⟨x, hx, h⟩
 ·
  intro k hk
  have := List.all_eq_true.1 h6 k hk
  simpa using this
 ·
  intro k k' d hd hd'
  have := upto_spec (upto_spec h7 k (dstOf_lt hd)) k' (dstOf_lt hd')
  rw [hd, hd'] at this
  simpa using this
 ·
  intro k d hd
  have := upto_spec h8 k (dstOf_lt hd)
  rw [hd] at this
  simpa using this
 ·
  intro k hk o ho s hs k' hk'
  have := List.all_eq_true.1 h9 k hk
  rw [ho] at this
  simp only [Option.map_some, Option.getD_some] at this
  have := upto_spec (List.all_eq_true.1 this s hs) k' (dstOf_lt hk')
  rw [hk'] at this
  simp only [bne_self_eq_false, Bool.false_or, Bool.and_eq_true] at this
  exact ⟨by simpa using this.1, edge_spec this.2⟩
 ·
  intro x hx
  have := List.all_eq_true.1 h10 x hx
  simp only [Bool.and_eq_true, Bool.not_eq_true'] at this
  refine ⟨by simpa using this.1, fun k hk => ?_⟩
  have h := upto_spec this.2 k (dstOf_lt hk)
  rw [hk] at h
  simp at h
 ·
  intro x hx o ho
  have := List.all_eq_true.1 h11 x hx
  simp only [ho, Option.map_some, Option.getD_some, List.any_eq_true, Bool.and_eq_true, beq_iff_eq] at this
  obtain ⟨k', hk', e2, e3⟩ := this
  exact ⟨k', hk', e2, edge_spec e3⟩

structure InvG (ops : Array Oper) (W : World) (ks : List Nat) (sts : List Sw) (a0 A : Act) (t : Array Bool) (a : Act) (w : World) : Prop where
 tsz : t.size = ops.size
 defs : a.defers = a0.defers
 sz : a.tmps.size = a0.tmps.size
 keep : ∀ s, (∀ k, dstOf ops k = some s → t.getD k false = false) → a.tmps[s]? = a0.tmps[s]?
 quiet : ∀ k ∈ ks, t.getD k false = true → ∀ d, dstOf ops k = some d → a.tmps[d]? = A.tmps[d]?
 st : ∀ x ∈ sts, w.heap[x.g]? = some (.cells (if t.getD x.j false = true then x.row else x.old) x.T)
 kept : Keeps (Sof sts) W w
def tri (sts : List Sw) : List (Nat × Tmp × Tmp) := sts.map fun x => (x.j, x.p, x.sv)
theorem InvG.step {a0 A : Act} {V : Nat → Value} {K : Act → World → Prop} {R : Exit → Act → World → Prop} (F : FitsG md ops N ks (tri sts)) (hN : a0.tmps.size = N) (hA : A = puts ops V ks a0)
  (hV : ∀ k ∈ ks, ∃ o, ops[k]? = some o ∧ FirmK P (Sof sts) W o (V k) A) (hst : ∀ x ∈ sts, ∃ o, ops[x.j]? = some o ∧ IsSw P o x)
  (hsv : ∀ x ∈ sts, A.tmps[x.sv]? = some (.agg x.row)) (hp : ∀ x ∈ sts, a0.tmps[x.p]? = some (ptr x.g)) (hg : ∀ x ∈ sts, ∀ y ∈ sts, x.j ≠ y.j → x.g ≠ y.g)
  {t : Array Bool} {a : Act} {w : World} (I : InvG ops W ks sts a0 A t a w) {k : Nat} (hk : k ∈ Region.ready md ops t)
  (h : ∀ a' w', InvG ops W ks sts a0 A (t.setIfInBounds k true) a' w' → K a' w') : wpOp P ops R k K a w := by
 obtain ⟨hkt, o, ho, hed⟩ := mem_ready.1 hk
 have hkn : k < ops.size := (Array.getElem?_eq_some_iff.1 ho).1
 have hkf : t.getD k false = false := getD_both hkt
 have hwt : ∀ f, Region.wanted o f = true := fun f => by simp [Region.wanted, F.gd k o ho]
 have hsel := fun cs b => Region.noSelect_spec F.sel k o cs b ho
 have hdk : ∀ s, dstOf ops k = some s → s < a.tmps.size := fun s hs => by rw [I.sz, hN]; exact F.fits k s hs
 have hkt' : k < t.size := by rw [I.tsz]; exact hkn
 have jnk : ∀ x ∈ sts, x.j ∉ ks := fun x hx => (F.ptr_ (x.j, x.p, x.sv) (List.mem_map.2 ⟨x, hx, rfl⟩)).1
 rcases F.cover k hkn with hq | ⟨x3, hx3, hxj⟩
 ·
  obtain ⟨o', ho', hfirm⟩ := hV k hq
  obtain rfl : o' = o := Option.some.inj (ho'.symm.trans ho)
  have hsame : execOp a.eval o' = execOp A.eval o' := by
   refine exec_same (ops := ops) hsel fun s hs => ?_
   by_cases hex : ∃ k', dstOf ops k' = some s
   ·
    obtain ⟨k', hk'⟩ := hex
    obtain ⟨hks, e, he, hb, hon⟩ := F.look k hq o' ho s hs k' hk'
    have := hed e he hb
    rw [hon] at this
    exact I.quiet k' hks this s hk'
   ·
    rw [I.keep s (fun k' hk' => absurd ⟨k', hk'⟩ hex), hA, puts_ne V s ks a0 (fun k' _ e => hex ⟨k', e⟩)]
  have hfirm' : FirmK P (Sof sts) W o' (V k) a := hfirm.of_same hsame
  refine wpOp_of_qOp (C := Cls w) (K := fun a' => a' = a.put o'.dst (V k)) (Cls.refl w) (fun a' w' hw' ha' => ?_) ?_
  ·
   subst ha'
   have hdst := dstOf_of ho
   rw [← hdst]
   have hb := hw'.below
   refine h _ _ ⟨by simp [I.tsz], by rw [put_defers]; exact I.defs, by rw [put_size]; exact I.sz, fun s hs => ?_, fun k' hk' ht d hd => ?_, fun x hx => ?_, keeps_cls I.kept hw'⟩
   ·
    have hne : dstOf ops k ≠ some s := fun e => by have := hs k e; rw [set_at hkt'] at this; cases this
    rw [put_ne _ _ _ _ hne]
    refine I.keep s fun k' hk' => ?_
    cases ht : t.getD k' false
    ·
     rfl
    ·
     have := hs k' hk'; rw [set_mono ht] at this; cases this
   ·
    rcases set_or ht with rfl | ht2
    ·
     rw [hd, put_same _ _ _ (hdk d hd), hA, puts_at V d k' hd ks a0 (by rw [← I.sz]; exact hdk d hd) hk' (fun k'' _ e => F.dsts _ _ _ e hd)]
    ·
     by_cases e : k' = k
     ·
      subst e; rw [hkf] at ht2; cases ht2
     ·
      rw [put_ne _ _ _ _ (fun e2 => e (F.dsts _ _ _ hd e2))]; exact I.quiet k' hk' ht2 d hd
   ·
    have hne : x.j ≠ k := fun e => jnk x hx (by rw [e]; exact hq)
    have h3 := I.st x hx
    rw [getD_set_ne false (Ne.symm hne), hb.block _ (Qf.lt_of_heap h3)]
    exact h3
  ·
   unfold qOp
   simp only [ho, hwt, if_true]
   exact ⟨V k, fun w1 hw1 => upon_mono (fun w2 hw2 => hw1.trans hw2) (hfirm' w1 (keeps_cls I.kept hw1)), rfl⟩
 ·
  obtain ⟨x, hx, rfl⟩ := List.mem_map.1 hx3
  dsimp only at hxj
  subst hxj
  obtain ⟨o', ho', hSt⟩ := hst x hx
  obtain rfl : o' = o := Option.some.inj (ho'.symm.trans ho)
  have hxp := F.ptr_ (x.j, x.p, x.sv) hx3
  obtain ⟨k2, hk2, hd2, e2, he2, hb2, hon2⟩ := F.val (x.j, x.p, x.sv) hx3 o' ho
  have t2 := hed e2 he2 hb2
  rw [hon2] at t2
  have g3 := I.st x hx
  rw [hkf] at g3
  have hpp : a.tmps[x.p]? = some (ptr x.g) := by rw [I.keep x.p (fun k' hk' => absurd hk' (hxp.2 k'))]; exact hp x hx
  have hsvv := I.quiet k2 hk2 t2 x.sv hd2
  rw [hsv x hx] at hsvv
  obtain ⟨ty, hop, hinfo⟩ := hSt.op
  unfold wpOp
  simp only [ho, hwt, if_true]
  refine .inl (wp_store_row ty (.tmp x.p) (.tmp x.sv) hop x.g x.row (by simp [Act.eval, Array.getD_eq_getD_getElem?, hpp]) (by simp [Act.eval, Array.getD_eq_getD_getElem?, hsvv]) x.T x.old g3 hinfo hSt.size hSt.one ?_)
  rw [hSt.dst]
  show K a _
  have hdn : ∀ s, dstOf ops x.j ≠ some s := fun s e => by rw [dstOf_of ho, hSt.dst] at e; cases e
  refine h _ _ ⟨by simp [I.tsz], I.defs, I.sz, fun s hs => ?_, fun k' hk' ht d hd => ?_, fun y hy => ?_, I.kept.setRow x.g x.row (.inl ⟨x, hx, rfl⟩)⟩
  ·
   refine I.keep s fun k' hk' => ?_
   cases ht : t.getD k' false
   ·
    rfl
   ·
    have := hs k' hk'; rw [set_mono ht] at this; cases this
  ·
   rcases set_or ht with rfl | ht
   ·
    exact absurd hd (hdn d)
   ·
    exact I.quiet k' hk' ht d hd
  ·
   by_cases hyj : y.j = x.j
   ·
    have hnd : (sts.map (·.j)).Nodup := by have := F.ndj; simpa [tri, List.map_map, Function.comp_def] using this
    obtain rfl : y = x := nodup_inj hnd y hy x hx hyj
    rw [set_at hkt', setRow_heap _ _ _ _ _ _ g3]
    rfl
   ·
    rw [getD_set_ne false (Ne.symm hyj), setRow_other _ _ _ _ (hg y hy x hx hyj)]
    exact I.st y hy
end

/-- THE LAW -/
theorem wp_region_stores {P : Program} {id : Nat} {Q : Exit → Act → World → Prop} {a : Act} {w : World} {l : List Oper} (N : Nat) (ks : List Nat) (sts : List Sw) (hm : P.follows .mixedOrders = true) (hN : a.tmps.size = N)
  (hB : storesB .any l.toArray N ks (tri sts) = true) (hst : ∀ x ∈ sts, ∃ o, l.toArray[x.j]? = some o ∧ IsSw P o x)
  (hp : ∀ x ∈ sts, a.tmps[x.p]? = some (ptr x.g)) (hg : ∀ x ∈ sts, ∀ y ∈ sts, x.j ≠ y.j → x.g ≠ y.g) (ho : ∀ x ∈ sts, w.heap[x.g]? = some (.cells x.old x.T))
  (h : WalkK P l.toArray (Sof sts) w (fun A => (∀ x ∈ sts, A.tmps[x.sv]? = some (.agg x.row)) ∧ ∀ w', Keeps (Sof sts) w w' → (∀ x ∈ sts, w'.heap[x.g]? = some (.cells x.row x.T)) → wpList P l.toArray Q [] A w') ks a) : (Code.region id l.toArray true).wp P Q a w := by
 have F := fitsG_of hB
 obtain ⟨V, ⟨hsv, hK⟩, hV⟩ := WalkK.puts_ (fun j o cs b => Region.noSelect_spec F.sel j o cs b) ks a F.sorted (fun k hk o ho s hs k' hk' => by
  obtain ⟨_, e, he, hb, hon⟩ := F.look k hk o ho s hs k' hk'
  have := F.back k o ho e he hb
  omega) h
 refine wp_region_any hm ?_
 have over : ∀ (t : Array Bool) (b : Act) (w' : World), Region.ready .any l.toArray t = [] → InvG l.toArray w ks sts a (puts l.toArray V ks a) t b w' → Q .normal b w' := by
  intro t b w' hr I
  have hall : ∀ k, k < l.toArray.size → t.getD k false = true := by
   intro k
   induction k using Nat.strongRecOn with
   | ind k ih =>
    intro hk
    cases ht : t.getD k false
    ·
     have : k ∈ Region.ready .any l.toArray t := mem_ready.2 ⟨getD_in (by rw [I.tsz]; exact hk) ht, l.toArray[k], Array.getElem?_eq_getElem hk, fun e he hb => by
      have h1 := F.back k l.toArray[k] (Array.getElem?_eq_getElem hk) e he hb
      exact ih _ h1 (by omega)⟩
     rw [hr] at this; cases this
    ·
     rfl
  have hb : b = puts l.toArray V ks a := by
   have e1 : b.tmps = (puts l.toArray V ks a).tmps := by
    apply Array.ext_getElem?
    intro s
    by_cases h2 : ∃ k ∈ ks, dstOf l.toArray k = some s
    ·
     obtain ⟨k, hk, hd⟩ := h2
     exact I.quiet k hk (hall k (F.inn k hk)) s hd
    ·
     rw [puts_ne V s ks a (fun k hk e => h2 ⟨k, hk, e⟩)]
     refine I.keep s fun k hk => ?_
     rcases F.cover k (dstOf_lt hk) with hq | ⟨x3, hx3, rfl⟩
     ·
      exact absurd ⟨k, hq, hk⟩ h2
     ·
      obtain ⟨x, hx, rfl⟩ := List.mem_map.1 hx3
      obtain ⟨o', ho', hSt⟩ := hst x hx
      rw [dstOf_of ho', hSt.dst] at hk; cases hk
   have e2 : b.defers = (puts l.toArray V ks a).defers := by rw [puts_defers]; exact I.defs
   generalize puts l.toArray V ks a = c at e1 e2
   cases b; cases c; simp only at e1 e2; rw [e1, e2]
  rw [hb]
  refine hK w' I.kept fun x hx => ?_
  have := I.st x hx
  obtain ⟨o', ho', _⟩ := hst x hx
  rw [hall x.j (Array.getElem?_eq_some_iff.1 ho').1] at this
  exact this
 have run : ∀ (f : Nat) (r : List Nat) (t : Array Bool) (b : Act) (w' : World), r.length ≤ f → (∀ k, k < l.toArray.size → t.getD k false = false → k ∈ r) → InvG l.toArray w ks sts a (puts l.toArray V ks a) t b w' → wpAny P .any l.toArray Q f t b w' := by
  intro f
  induction f with
  | zero =>
   intro r t b w' hl hr I
   have hnil : r = [] := List.length_eq_zero_iff.1 (by omega)
   have : Region.ready .any l.toArray t = [] := by
    apply List.eq_nil_iff_forall_not_mem.2
    intro k hk
    obtain ⟨h1, o, ho, _⟩ := mem_ready.1 hk
    have := hr k (Array.getElem?_eq_some_iff.1 ho).1 (getD_both h1)
    rw [hnil] at this; cases this
   exact ⟨this, over t b w' this I⟩
  | succ f ih =>
   intro r t b w' hl hr I
   refine ⟨fun h0 => over t b w' h0 I, fun k hk => InvG.step F hN rfl hV hst hsv hp hg I hk fun b' w'' I' => ?_⟩
   obtain ⟨h1, o, ho, _⟩ := mem_ready.1 hk
   have hkr := hr k (Array.getElem?_eq_some_iff.1 ho).1 (getD_both h1)
   refine ih (r.erase k) _ b' w'' (by rw [List.length_erase_of_mem hkr]; omega) (fun j hj ht => ?_) I'
   by_cases e : k = j
   ·
    subst e
    rw [set_at (by rw [I.tsz]; exact hj)] at ht; cases ht
   ·
    rw [getD_set_ne false e] at ht
    exact (List.mem_erase_of_ne (Ne.symm e)).2 (hr j hj ht)
 refine run _ (List.range l.toArray.size) _ _ _ (by simp) (fun k hk _ => List.mem_range.2 hk) ⟨by simp, rfl, rfl, fun s _ => rfl, fun k _ ht => ?_, fun x hx => ?_, ⟨rfl, rfl, rfl, Nat.le_refl _, fun _ _ _ => rfl⟩⟩
 ·
  rw [getD_replicate_false] at ht; cases ht
 ·
  rw [getD_replicate_false]
  exact ho x hx
end Go.Proofs.YtdaokkgenfpmhaaGreat.Qg

/- A region that draws its order, whose operations each leave in a slot of their own a value that fits a predicate of the world (as in Qr), guarded ones among them (each guard known to be true), and one store of a whole row into a block that the region makes: in ANY order that the binding edges leave. No program is named here. -/
set_option linter.unusedVariables false
set_option linter.unusedSimpArgs false
namespace Go.Proofs.YtdaokkgenfpmhaaGreat.Qs
open Go.RowKit Go.Sort Qb Qt Qa Qf Qr

/-- the one store: its number, its pointer's slot and the operation that fills it, the row's slot and the operation that fills it, the block's type, the row -/
structure St1 where
 j : Nat
 p : Tmp
 kp : Nat
 s : Tmp
 ks : Nat
 T : TypeId
 row : Array Value
section
variable {P : Program} {ops : Array Oper} {W : World} {md : Region.Mode} {N : Nat} {Φ : Nat → World → Value → Prop} {x : St1} {gs : List Nat}
structure FitS (md : Region.Mode) (ops : Array Oper) (N : Nat) (x : St1) (gs : List Nat) : Prop where
 sel : Region.noSelect ops = true
 gd : ∀ (k : Nat) (o : Oper), ops[k]? = some o → o.guard = none ∨ ∃ g, o.guard = some (g, true) ∧ g ∈ gs ∧ (∃ d, dstOf ops g = some d) ∧ ∃ e ∈ o.after, Region.binds md e = true ∧ e.on = g
 back : ∀ (k : Nat) (o : Oper), ops[k]? = some o → ∀ e ∈ o.after, Region.binds md e = true → e.on < k
 dsts : ∀ k k' d, dstOf ops k = some d → dstOf ops k' = some d → k = k'
 has : ∀ k, k < ops.size → k ≠ x.j → ∃ d, dstOf ops k = some d ∧ d < N
 look : ∀ (k : Nat) (o : Oper), ops[k]? = some o → k ≠ x.j → ∀ s ∈ o.looksAt ops, ∀ k', dstOf ops k' = some s → ∃ e ∈ o.after, Region.binds md e = true ∧ e.on = k'
 stk : ∀ (o : Oper), ops[x.j]? = some o → (dstOf ops x.kp = some x.p ∧ ∃ e ∈ o.after, Region.binds md e = true ∧ e.on = x.kp) ∧ (dstOf ops x.ks = some x.s ∧ ∃ e ∈ o.after, Region.binds md e = true ∧ e.on = x.ks)
def fitB (md : Region.Mode) (ops : Array Oper) (N : Nat) (j : Nat) (p : Tmp) (kp : Nat) (s : Tmp) (ks : Nat) (gs : List Nat) : Bool :=
 Region.noSelect ops &&
 (upto ops.size fun k => ((ops[k]?).map fun o => match o.guard with | none => true | some (g, b) => b && gs.contains g && (dstOf ops g).isSome && edgeB md o g).getD true) &&
 (upto ops.size fun k => ((ops[k]?).map fun o => o.after.all fun e => !Region.binds md e || decide (e.on < k)).getD false) &&
 (upto ops.size fun k => upto ops.size fun k' => k == k' || (match dstOf ops k with | none => true | some d => dstOf ops k' != some d)) &&
 (upto ops.size fun k => k == j || match dstOf ops k with | none => false | some d => decide (d < N)) &&
 (upto ops.size fun k => k == j || ((ops[k]?).map fun o => (o.looksAt ops).all fun s => upto ops.size fun k' => dstOf ops k' != some s || edgeB md o k').getD true) &&
 (((ops[j]?).map fun o => dstOf ops kp == some p && edgeB md o kp && dstOf ops ks == some s && edgeB md o ks).getD true)
theorem fitS_of (h : fitB md ops N x.j x.p x.kp x.s x.ks gs = true) : FitS md ops N x gs := by
 unfold fitB at h
 simp only [Bool.and_eq_true] at h
 obtain ⟨⟨⟨⟨⟨⟨h1, h2⟩, h3⟩, h4⟩, h5⟩, h6⟩, h7⟩ := h
 refine ⟨h1, ?_, ?_, ?_, ?_, ?_, ?_⟩
 ·
  intro k o ho
  have := upto_spec h2 k (Array.getElem?_eq_some_iff.1 ho).1
  rw [ho] at this
  simp only [Option.map_some, Option.getD_some] at this
  cases hg : o.guard with
  | none => exact .inl rfl
  | some gb =>
   obtain ⟨g, b⟩ := gb
   rw [hg] at this
   simp only [Bool.and_eq_true] at this
   obtain ⟨⟨⟨e1, e2⟩, e3⟩, e4⟩ := this
   refine .inr ⟨g, by rw [e1], by simpa using e2, Option.isSome_iff_exists.1 e3, edge_spec e4⟩
 ·
  intro k o ho e he hb
  have hk : k < ops.size := (Array.getElem?_eq_some_iff.1 ho).1
  have := upto_spec h3 k hk
  rw [ho] at this
  simp only [Option.map_some, Option.getD_some] at this
  have := Array.all_eq_true_iff_forall_mem.1 this e he
  simpa [hb] using this
 ·
  intro k k' d hd hd'
  have := upto_spec (upto_spec h4 k (dstOf_lt hd)) k' (dstOf_lt hd')
  rw [hd, hd'] at this
  simpa using this
 ·
  intro k hk hne
  have := upto_spec h5 k hk
  have hf : (k == x.j) = false := by simpa using hne
  rw [hf, Bool.false_or] at this
  cases hd : dstOf ops k with
  | none => rw [hd] at this; simp at this
  | some d => rw [hd] at this; exact ⟨d, rfl, by simpa using this⟩
 ·
  intro k o ho hne s hs k' hk'
  have := upto_spec h6 k (Array.getElem?_eq_some_iff.1 ho).1
  have hf : (k == x.j) = false := by simpa using hne
  rw [hf, Bool.false_or, ho] at this
  simp only [Option.map_some, Option.getD_some] at this
  have := upto_spec (List.all_eq_true.1 this s hs) k' (dstOf_lt hk')
  rw [hk'] at this
  simp only [bne_self_eq_false, Bool.false_or] at this
  exact edge_spec this
 ·
  intro o ho
  rw [ho] at h7
  simp only [Option.map_some, Option.getD_some, Bool.and_eq_true, beq_iff_eq] at h7
  obtain ⟨⟨⟨e1, e2⟩, e3⟩, e4⟩ := h7
  exact ⟨⟨e1, edge_spec e2⟩, e3, edge_spec e4⟩

end

end Go.Proofs.YtdaokkgenfpmhaaGreat.Qs

/- Tools for regions walked by predicates (Qr, Qs): an operation whose value is one, shown in a literal act by the tactics; a call; a load. No program is named here. -/
set_option linter.unusedVariables false
set_option linter.unusedSimpArgs false
namespace Go.Proofs.YtdaokkgenfpmhaaGreat.Qz
open Go.RowKit Go.Sort Qb Qt Qa Qf Qr Qs

section
variable {P : Program} {ops : Array Oper} {Φ : Nat → World → Value → Prop} {W : World} {a : Act} {k : Nat} {o : Oper}
theorem nodst {s : Tmp} (h : (upto ops.size fun k => dstOf ops k != some s) = true) : ∀ k', dstOf ops k' ≠ some s := fun k' hk => by
 have := upto_spec h k' (dstOf_lt hk)
 rw [hk] at this
 simp at this
/-- a slot that the act A and whatever act fits agree upon -/
def Agrees (ops : Array Oper) (Φ : Nat → World → Value → Prop) (a A : Act) (s : Tmp) : Prop :=
 (∃ k' u, dstOf ops k' = some s ∧ (∀ w v, Φ k' w v → v = u) ∧ A.tmps[s]? = some u) ∨ ((∀ k', dstOf ops k' ≠ some s) ∧ A.tmps[s]? = a.tmps[s]?)
theorem eval_of {b A : Act} (hb : ∀ s ∈ o.looksAt ops, b.eval (.tmp s) = A.eval (.tmp s)) (hs : ∀ cs b, o.op ≠ .select cs b) : execOp b.eval o = execOp A.eval o :=
 execOp_congr o hs fun x hx => by
  cases x with
  | tmp t => exact hb t (List.mem_append_left _ (List.mem_filterMap.2 ⟨.tmp t, by simpa using hx, rfl⟩))
  | const v => rfl
  | global g => rfl
  | func f => rfl
theorem st_one {A : Act} {d : Tmp} {v : Value} (hd : o.dst = some d) (hlt : d < A.tmps.size) (hsel : ∀ cs b, o.op ≠ .select cs b) (hl : ∀ s ∈ o.looksAt ops, Agrees ops Φ a A s) (hΦ : ∀ w, Φ k w v)
  (hq : ∀ W1, Below W.heap.size W W1 → o.quiet P A (fun w' => ∃ p : Regrown, w' = grow (redrawn W1 p.d) p.os) (fun a' => a' = A.put o.dst v)) : StepOK P ops Φ W a k o := by
 intro b w hb hdp hk
 have he : execOp b.eval o = execOp A.eval o := by
  refine eval_of (ops := ops) (fun s hs => ?_) hsel
  rcases hl s hs with ⟨k', u, hk', hu, hA⟩ | ⟨hn, hA⟩
  ·
   rw [hu _ _ (hdp s hs k' hk')]
   simp [Act.eval, Array.getD_eq_getD_getElem?, hA]
  ·
   simp [Act.eval, Array.getD_eq_getD_getElem?, hA, hk s hn]
 obtain ⟨v0, h1, h2⟩ := hq w hb
 have hv : v0 = v := by
  rw [hd] at h2
  have : (A.put (some d) v0).tmps[d]? = (A.put (some d) v).tmps[d]? := by rw [h2]
  rw [put_same _ _ _ hlt, put_same _ _ _ hlt] at this
  exact Option.some.inj this
 subst hv
 have h3 := h1 w ⟨⟨w.drawn, #[]⟩, by rw [grow_empty]; rfl⟩
 unfold Oper.quietAt at h3
 rw [he]
 generalize (execOp A.eval o).run P w = r at h3
 cases r with
 | halt x w' => simp only [Oper.quietUpon] at h3
 | ok nx w' =>
  cases nx <;> simp only [Oper.quietUpon] at h3
  case value u => obtain ⟨rfl, rfl⟩ := h3; exact ⟨hΦ _, Below.refl _ _⟩
  case skip => obtain ⟨rfl, rfl⟩ := h3; exact ⟨hΦ _, Below.refl _ _⟩
  case enter f args =>
   obtain ⟨rfl, h3⟩ := h3
   exact h3.mono fun e w'' hh => ⟨v0, hh.1, hΦ _, by obtain ⟨p, rfl⟩ := hh.2; exact below_regrown _ _ _⟩
/-- the steps of a region, the store left out -/
def StepsX (P : Program) (ops : Array Oper) (Φ : Nat → World → Value → Prop) (W : World) (a : Act) (j : Nat) : Nat → List Oper → Prop
 | _, [] => True
 | k, o :: r => (k = j ∨ StepOK P ops Φ W a k o) ∧ StepsX P ops Φ W a j (k + 1) r
theorem stepsX_at {j : Nat} : ∀ (l : List Oper) (k : Nat), StepsX P ops Φ W a j k l → ∀ (i : Nat) (o : Oper), l[i]? = some o → k + i ≠ j → StepOK P ops Φ W a (k + i) o := by
 intro l
 induction l with
 | nil => intro k _ i o h; simp at h
 | cons x l ih =>
  intro k h i o ho hne
  cases i with
  | zero => simp at ho; subst ho; exact h.1.resolve_left hne
  | succ i => rw [show k + (i + 1) = k + 1 + i by omega] at hne ⊢; exact ih (k + 1) h.2 i o (by simpa using ho) hne
theorem st_val {l : List Oper} {VS : Nat → Value} {N : Nat} {x : St1} {gs : List Nat} (F : FitS .any l.toArray N x gs) (hN : a.tmps.size = N) {d : Tmp} {v : Value} (hd : o.dst = some d) (hlt : d < N) (hsel : ∀ cs b, o.op ≠ .select cs b)
  (hl : ∀ s ∈ o.looksAt l.toArray, (∃ k', dstOf l.toArray k' = some s ∧ s < N ∧ ∀ w v, Φ k' w v → v = VS k') ∨ ∀ k', dstOf l.toArray k' ≠ some s) (hΦ : ∀ w, Φ k w v)
  (hq : ∀ W1, Below W.heap.size W W1 → o.quiet P (putsL VS 0 l a) (fun w' => ∃ p : Regrown, w' = grow (redrawn W1 p.d) p.os) (fun a' => a' = (putsL VS 0 l a).put o.dst v)) : StepOK P l.toArray Φ W a k o := by
 refine st_one (A := putsL VS 0 l a) hd (by rw [putsL_size, hN]; exact hlt) hsel (fun s hs => ?_) hΦ hq
 rcases hl s hs with ⟨k', hk', hsN, hu⟩ | hn
 ·
  refine .inl ⟨k', VS k', hk', hu, ?_⟩
  have hkl : k' < l.length := by have := dstOf_lt hk'; simpa using this
  have hko : l[k']? = some l[k'] := by simp [hkl]
  have := putsL_at VS s l 0 a k' l[k'] hko (by rw [← dstOf_of (show l.toArray[k']? = some l[k'] by simp [hkl])]; exact hk') (by rw [hN]; exact hsN) (fun j o' hj e => F.dsts j k' s (by rw [dstOf_of (show l.toArray[j]? = some o' by simpa using hj)]; exact e) hk')
  rw [this, Nat.zero_add]
 ·
  exact .inr ⟨hn, putsL_ne VS s l 0 a (fun i o' hi e => hn i (by rw [dstOf_of (show l.toArray[i]? = some o' by simpa using hi)]; exact e))⟩
theorem call_run {e : Operand → Value} {f : FuncId} {fn : Func} {c : Code} {args : Array Operand} {argTypes : Array TypeId} (ho : o.op = .call { callee := .value (.func f), args := args, argTypes := argTypes }) (he : e (.func f) = .func (.func f) #[] #[])
  (hf : P.funcs[f]? = some fn) (hname : (fn.name == "runtime.NumGoroutine") = false) (hb : fn.body = some c) (w : World) : (execOp e o).run P w = .ok (.enter f (args.map e)) w := by
 have h1 : fn.name ≠ "runtime.NumGoroutine" := by simpa using hname
 unfold execOp
 simp [ho, resolve, he, callFunc, hf, h1, hb, mark, invoke, Deferred.ofValue, go_sem]
end

/-- as st_val, the act named -/
theorem st_valA {P : Program} {Φ : Nat → World → Value → Prop} {W : World} {a A : Act} {k : Nat} {o : Oper} {l : List Oper} {VS : Nat → Value} {N : Nat} {x : St1} {gs : List Nat} (hA : putsL VS 0 l a = A) (F : FitS .any l.toArray N x gs) (hN : a.tmps.size = N) {d : Tmp} {v : Value} (hd : o.dst = some d) (hlt : d < N) (hsel : ∀ cs b, o.op ≠ .select cs b)
  (hl : ∀ s ∈ o.looksAt l.toArray, (∃ k', dstOf l.toArray k' = some s ∧ s < N ∧ ∀ w v, Φ k' w v → v = VS k') ∨ ∀ k', dstOf l.toArray k' ≠ some s) (hΦ : ∀ w, Φ k w v)
  (hq : ∀ W1, Below W.heap.size W W1 → o.quiet P A (fun w' => ∃ p : Regrown, w' = grow (redrawn W1 p.d) p.os) (fun a' => a' = A.put o.dst v)) : StepOK P l.toArray Φ W a k o := by
 subst hA
 exact st_val F hN hd hlt hsel hl hΦ hq
end Go.Proofs.YtdaokkgenfpmhaaGreat.Qz

