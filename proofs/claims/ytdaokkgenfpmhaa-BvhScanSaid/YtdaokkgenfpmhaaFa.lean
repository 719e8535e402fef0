import Derived.WalkKit
import Derived.WalkLawsBesides
import Derived.WalkSpells
import Derived.Outline
import Derived.Lib.Hide
import Derived.Deep.DeepCutAuto
import Derived.Deep.LoopGhost
import Derived.Laws.CopyOwn
import Derived.Laws.AppendOwnNone
import Derived.Lib.SlBytesConst
import Derived.Laws.Bits64
import Derived.Laws.Bits64b
import Derived.Laws.Rows
import Derived.Test.YtdaokkgenfpmhaaRows
import Derived.Lib.Mul64
import Derived.Lib.Strings
import Derived.Lib.Slices
import Derived.Lib.Small
import Derived.Lib.Walk
import Derived.Lib.BitFns
import Derived.Deep.QuietTactic
import Derived.BigQuiet
import Derived.Deep.CutBlock
/- Words and small laws that all walks of this seat share: a slice of numbers that reads as a list, one that the call itself owns, append and conversion over these, a whole array stored into a block. No program is named here. -/
set_option linter.unusedVariables false
set_option linter.unusedSimpArgs false
namespace Go.Proofs.Ytdaokkgenfpmhaa.Base
open Go.RowKit

theorem ret_int {k : IntKind} {a b : Int} (h : a = b) : Ending.returned (.int k a) = .returned (.int k b) := by rw [h]
theorem ret_bool {a b : Bool} (h : a = b) : Ending.returned (.bool a) = .returned (.bool b) := by rw [h]

/-- the numbers of a list, as cells -/
def numCells (k : IntKind) (l : List Nat) : List Value := l.map fun (n : Nat) => Value.int k (n : Int)
theorem numCells_at (k : IntKind) (l : List Nat) (i : Nat) (h : i < l.length) : (numCells k l)[i]? = some (.int k (l[i] : Int)) := by
  simp [numCells, h]
theorem numCells_one (k : IntKind) (l : List Nat) : ∀ u ∈ numCells k l, u.oneCell' = true := by
  intro u hu; simp only [numCells, List.mem_map] at hu; obtain ⟨n, _, rfl⟩ := hu; rfl
theorem numCells_length (k : IntKind) (l : List Nat) : (numCells k l).length = l.length := by simp [numCells]
theorem numCells_append (k : IntKind) (l m : List Nat) : numCells k (l ++ m) = numCells k l ++ numCells k m := by simp [numCells]

/-- WHAT A SLICE OF NUMBERS HOLDS: the value v is a slice whose elements are the numbers l, each below N. -/
structure Nums (k : IntKind) (N : Nat) (w : World) (v : Value) (l : List Nat) : Prop where
  shape : ∃ a cap, v = .slice a l.length cap ∧ l.length ≤ cap ∧ cap ≤ maxLen ∧ (a = none → l.length = 0 ∧ cap = 0)
  bound : ∀ x ∈ l, x < N
  cells : l ≠ [] → ∃ b off cap, v = .slice (some ⟨b, off, none⟩) l.length cap ∧ b < w.heap.size ∧ ∀ i (h : i < l.length), w.cell? ⟨b, off + i, none⟩ = some (.int k (l[i] : Int))

theorem Nums.below {k : IntKind} {N : Nat} {w w' : World} {B : Nat} {v : Value} {l : List Nat} (h : Nums k N w v l) (hb : Below B w w') (hB : w.heap.size ≤ B) : Nums k N w' v l where
  shape := h.shape
  bound := h.bound
  cells := fun hne => by
    obtain ⟨b, off, cap, e, hlt, hc⟩ := h.cells hne
    exact ⟨b, off, cap, e, Nat.lt_of_lt_of_le hlt hb.size, fun i hi => (hb.cell (p := ⟨b, off + i, none⟩) (Nat.lt_of_lt_of_le hlt hB)).trans (hc i hi)⟩

theorem Nums.drew {k : IntKind} {N : Nat} {w : World} {v : Value} {l : List Nat} (h : Nums k N w v l) : Nums k N w.drew v l := ⟨h.shape, h.bound, h.cells⟩
/-- the first of them -/
theorem Nums.take {k : IntKind} {N : Nat} {w : World} {a : Option Addr} {n cap : Nat} {l : List Nat} (h : Nums k N w (.slice a n cap) l) (j : Nat) (hj : j ≤ n) (hn : n = l.length) (ha : a ≠ none) : Nums k N w (.slice a j cap) (l.take j) := by
  have hlen : (l.take j).length = j := by simp; omega
  obtain ⟨a', cap', e, h1, h2, h3⟩ := h.shape
  simp only [Value.slice.injEq] at e
  obtain ⟨rfl, _, rfl⟩ := e
  refine ⟨⟨a, cap, by rw [hlen], by omega, h2, fun h0 => absurd h0 ha⟩, fun x hx => h.bound x (List.mem_of_mem_take hx), ?_⟩
  intro hne
  have hl : l ≠ [] := by intro h0; subst h0; simp at hne
  obtain ⟨b, off, cap2, e2, hb, hc⟩ := h.cells hl
  simp only [Value.slice.injEq] at e2
  obtain ⟨rfl, _, rfl⟩ := e2
  refine ⟨b, off, cap, by rw [hlen], hb, fun i hi => ?_⟩
  rw [hlen] at hi
  rw [hc i (by omega)]; simp

/-- what stands behind the first of them -/
theorem Nums.drop {k : IntKind} {N : Nat} {w : World} {b off n cap : Nat} {l : List Nat} (h : Nums k N w (.slice (some ⟨b, off, none⟩) n cap) l) (j : Nat) (hj : j ≤ n) : Nums k N w (.slice (some ⟨b, off + j, none⟩) (n - j) (cap - j)) (l.drop j) := by
  obtain ⟨a', cap', e, h1, h2, h3⟩ := h.shape
  simp only [Value.slice.injEq] at e
  obtain ⟨rfl, hn, rfl⟩ := e
  have hlen : (l.drop j).length = n - j := by simp; omega
  refine ⟨⟨_, cap - j, by rw [hlen], by omega, by unfold maxLen at *; omega, fun h0 => by simp at h0⟩, fun x hx => h.bound x (List.mem_of_mem_drop hx), ?_⟩
  intro hne
  have hl : l ≠ [] := by intro h0; subst h0; simp at hne
  obtain ⟨b2, off2, cap2, e2, hb, hc⟩ := h.cells hl
  simp only [Value.slice.injEq, Option.some.injEq, Addr.mk.injEq, and_true] at e2
  obtain ⟨⟨rfl, rfl⟩, _, rfl⟩ := e2
  refine ⟨b, off + j, cap - j, by rw [hlen], hb, fun i hi => ?_⟩
  rw [hlen] at hi
  have := hc (j + i) (by omega)
  rw [← Nat.add_assoc] at this
  rw [this]; simp
theorem Nums.empty (k : IntKind) (N : Nat) (w : World) (b off cap : Nat) (h : cap ≤ maxLen) : Nums k N w (.slice (some ⟨b, off, none⟩) 0 cap) [] :=
  ⟨⟨_, cap, rfl, Nat.zero_le _, h, fun e => by simp at e⟩, by simp, fun e => absurd rfl e⟩

theorem Nums.nil (k : IntKind) (N : Nat) (w : World) : Nums k N w (.slice none 0 0) [] where
  shape := ⟨none, 0, rfl, Nat.le_refl _, by unfold maxLen; omega, fun _ => ⟨rfl, rfl⟩⟩
  bound := by simp
  cells := fun h => absurd rfl h

/-- a slice as the walks meet it: opened, its address known where it has an element -/
theorem Nums.open_ {k : IntKind} {N : Nat} {w : World} {v : Value} {l : List Nat} (h : Nums k N w v l) : ∃ a cap, v = .slice a l.length cap ∧ l.length ≤ 9223372036854775807 ∧ (∀ x ∈ l, x < N) ∧
    (∀ j (_ : j < l.length), ∃ b off, a = some ⟨b, off, none⟩ ∧ b < w.heap.size ∧ ∀ i (h : i < l.length), w.cell? ⟨b, off + i, none⟩ = some (.int k (l[i] : Int))) := by
  obtain ⟨a, cap, rfl, h1, h2, _⟩ := h.shape
  refine ⟨a, cap, rfl, by unfold maxLen at h2; omega, h.bound, ?_⟩
  intro j hj
  obtain ⟨b, off, cap', e, hb, hc⟩ := h.cells (by intro h0; subst h0; simp at hj)
  simp only [Value.slice.injEq] at e
  exact ⟨b, off, e.1, hb, hc⟩

/-- A SLICE OF NUMBERS THAT THE CALL ITSELF MADE (its block's number at least 'base'). -/
structure Own (k : IntKind) (N : Nat) (E base : Nat) (w : World) (v : Value) (l : List Nat) : Prop where
  row : w.ownsRow base E 1 v l.length (numCells k l)
  bound : ∀ x ∈ l, x < N

theorem Own.nil (k : IntKind) (N E base : Nat) (w : World) : Own k N E base w (.slice none 0 0) [] := ⟨World.ownsRow_nil _ _ _ _, by simp⟩
theorem Own.nums {k : IntKind} {N E base : Nat} {w : World} {v : Value} {l : List Nat} (h : Own k N E base w v l) : Nums k N w v l where
  shape := by
    rcases h.row.2 with ⟨rfl, h0⟩ | ⟨g, cap, cur, rfl, _, _, h1, h2, _⟩
    · exact ⟨none, 0, by rw [h0], by omega, by unfold maxLen; omega, fun _ => ⟨h0, rfl⟩⟩
    · exact ⟨_, cap, rfl, h1, h2, fun e => by simp at e⟩
  bound := h.bound
  cells := fun hne => by
    rcases h.row.2 with ⟨rfl, h0⟩ | ⟨g, cap, cur, rfl, _, hg, h1, h2, h3, h4⟩
    · exact absurd (List.eq_nil_of_length_eq_zero h0) hne
    · refine ⟨g, 0, cap, rfl, ?_, ?_⟩
      · rcases Nat.lt_or_ge g w.heap.size with h | h
        · exact h
        · rw [Array.getElem?_eq_none h] at hg; simp at hg
      · intro i hi
        rw [cell_of_row w g (0 + i) cur _ _ hg]
        have e : (numCells k l)[i]? = cur[i]? := by rw [← h4]; simp [hi]
        rw [Nat.zero_add, ← e, numCells_at k l i hi]
theorem Own.slice_ {k : IntKind} {N E base : Nat} {w : World} {v : Value} {l : List Nat} (h : Own k N E base w v l) : ∃ a n cap, v = .slice a n cap := by
  obtain ⟨a, cap, e, _⟩ := h.nums.shape; exact ⟨a, _, cap, e⟩
theorem Own.mono {k : IntKind} {N E base base' : Nat} {w : World} {v : Value} {l : List Nat} (h : Own k N E base w v l) (hb : base' ≤ base) : Own k N E base' w v l := by
  refine ⟨⟨h.row.1, ?_⟩, h.bound⟩
  rcases h.row.2 with h0 | ⟨g, cap, cur, e, hbg, r⟩
  · exact .inl h0
  · exact .inr ⟨g, cap, cur, e, by omega, r⟩
/-- what is owned stays owned where only blocks from B on may have turned, its own block lying below B -/
theorem Own.below {k : IntKind} {N E base B : Nat} {w w' : World} {v : Value} {l : List Nat} (h : Own k N E base w v l) (hb : Below B w w') (hB : w.heap.size ≤ B) : Own k N E base w' v l := by
  refine ⟨⟨h.row.1, ?_⟩, h.bound⟩
  rcases h.row.2 with h0 | ⟨g, cap, cur, e, hbg, hg, r⟩
  · exact .inl h0
  · refine .inr ⟨g, cap, cur, e, hbg, ?_, r⟩
    rw [hb.block g ?_]; exact hg
    rcases Nat.lt_or_ge g w.heap.size with h | h
    · omega
    · rw [Array.getElem?_eq_none h] at hg; simp at hg
theorem Own.alloc {k : IntKind} {N E base : Nat} {w : World} {v : Value} {l : List Nat} (h : Own k N E base w v l) (o : Obj) : Own k N E base (w.alloc o) v l := ⟨h.row.alloc o, h.bound⟩
theorem Own.drew {k : IntKind} {N E base : Nat} {w : World} {v : Value} {l : List Nat} (h : Own k N E base w v l) : Own k N E base w.drew v l := ⟨h.row, h.bound⟩

theorem setCell_below {B : Nat} {w0 w : World} (hb : Below B w0 w) {g j : Nat} (h : B ≤ g) (v : Value) : Below B w0 (w.setCell ⟨g, j, none⟩ v) := hb.setCell h v
/-- an owned row that has an element: its block, its cells, a store into it -/
theorem Own.at_ {k : IntKind} {N E base : Nat} {w : World} {v : Value} {l : List Nat} (h : Own k N E base w v l) (hpos : 0 < l.length) :
    ∃ g cap, v = .slice (some ⟨g, 0, none⟩) l.length cap ∧ l.length ≤ cap ∧ base ≤ g ∧ g < w.heap.size ∧ (∀ j (hj : j < l.length), w.cell? ⟨g, j, none⟩ = some (.int k (l[j] : Int))) ∧ (∀ j, w.frozen? ⟨g, j, none⟩ = false) ∧
      (∀ j y, y < N → Own k N E base (w.setCell ⟨g, j, none⟩ (.int k (y : Int))) v (l.set j y)) := by
  obtain ⟨hr, hb⟩ := h
  rcases hr.2 with ⟨rfl, h0⟩ | ⟨g, cap, cur, rfl, hbg, hg, hcap, _⟩
  · omega
  · refine ⟨g, cap, rfl, hcap, hbg, ?_, ?_, fun j => hr.frozenAt j, ?_⟩
    · rcases Nat.lt_or_ge g w.heap.size with h | h
      · exact h
      · rw [Array.getElem?_eq_none h] at hg; simp at hg
    · intro j hj
      rw [hr.cellAt j (by omega), numCells_at k l j hj]
    · intro j y hy
      refine ⟨?_, ?_⟩
      · have := (hr.stored j (.int k (y : Int))).1
        have e : numCells k (l.set j y) = (numCells k l).set j (.int k (y : Int)) := by unfold numCells; rw [List.map_set]
        rw [e, List.length_set]; exact this
      · intro x hx
        rcases List.mem_or_eq_of_mem_set hx with h | h
        · exact hb x h
        · rw [h]; exact hy

/-- one number, laid into a block of its own -/
theorem nums_one (k : IntKind) (N E : Nat) (w : World) (x : Nat) (hx : x < N) : Nums k N (w.alloc (.cells #[.int k (x : Int)] E)) (.slice (some ⟨w.heap.size, 0, none⟩) 1 1) [x] where
  shape := ⟨_, 1, rfl, Nat.le_refl _, by unfold maxLen; omega, fun e => by simp at e⟩
  bound := by simp; exact hx
  cells := fun _ => ⟨w.heap.size, 0, 1, rfl, by simp, fun i hi => by
    have : i = 0 := by simp at hi; omega
    subst this; rw [World.cell?_alloc_at _ _ _ _ rfl]; simp⟩
/-- a literal row of numbers -/
theorem nums_lit (k : IntKind) (N E : Nat) (w : World) (l : List Nat) (hl : l.length ≤ maxLen) (hx : ∀ x ∈ l, x < N) (cs : Array Value) (hcs : cs.toList = numCells k l) (n : Nat) (hn : n = l.length) :
    Nums k N (w.alloc (.cells cs E)) (.slice (some ⟨w.heap.size, 0, none⟩) n n) l where
  shape := ⟨_, n, by rw [hn], by omega, by omega, fun e => by simp at e⟩
  bound := hx
  cells := fun _ => ⟨w.heap.size, 0, n, by rw [hn], by simp, fun i hi => by
    rw [World.cell?_alloc_at _ _ _ _ rfl, Nat.zero_add, ← Array.getElem?_toList, hcs, numCells_at k l i hi]⟩

/-- a block that is known whole, read as a slice of all its numbers -/
theorem nums_blk (k : IntKind) (N : Nat) {w : World} {g : Nat} {cs : Array Value} {t : TypeId} {fr : Nat × Nat} (hg : w.heap[g]? = some (.cells cs t fr)) (l : List Nat) (hl : l.length ≤ maxLen) (hx : ∀ x ∈ l, x < N)
    (hcs : cs.toList = numCells k l) (n : Nat) (hn : n = l.length) : Nums k N w (.slice (some ⟨g, 0, none⟩) n n) l where
  shape := ⟨_, n, by rw [hn], by omega, by omega, fun e => by simp at e⟩
  bound := hx
  cells := fun _ => ⟨g, 0, n, by rw [hn], by
      rcases Nat.lt_or_ge g w.heap.size with h | h
      · exact h
      · rw [Array.getElem?_eq_none h] at hg; simp at hg, fun i hi => by
    rw [cell_of_row w g _ cs _ _ hg, Nat.zero_add, ← Array.getElem?_toList, hcs, numCells_at k l i hi]⟩

section
variable {P : Program}
/-- THE TYPES OF A SLICE OF NUMBERS: T is []E, E of the kind k, so many bytes wide. -/
structure NumSlice (P : Program) (T E : TypeId) (k : IntKind) (bytes : Nat) : Prop where
  und : P.underlying T = some (.slice E)
  info : ∃ i, P.info? E = some i ∧ i.zero = some (.int k 0) ∧ i.size = 1 ∧ i.bytes = bytes

theorem numSlice {P : Program} {T E : TypeId} {k : IntKind} {bytes : Nat} (h : P.underlying T = some (.slice E))
    (hi : (P.info? E).map (fun i => (i.zero, i.size, i.bytes)) = some (some (.int k 0), 1, bytes)) : NumSlice P T E k bytes := by
  obtain ⟨i, h1, h2, h3, h4⟩ := info_parts hi
  exact ⟨h, i, h1, h2, h3, h4⟩

/-- append(dst, src...): dst the call's own, src whatever reads as numbers. The new row lies where the elder one lay, or in a new block. -/
theorem wpList_append_nums_at {w : World} {ops : Array Oper} {rest : List Oper} {o : Oper} {a : Act} {Q : Exit → Act → World → Prop} (hgd : o.guard = none) (s x : Operand) (T E : TypeId)
    (ho : o.op = .call { callee := .builtin .append, args := #[s, x], argTypes := #[T, T] }) (k : IntKind) (N bytes base : Nat) (hT : NumSlice P T E k bytes)
    (v : Value) (l : List Nat) (hs : a.eval s = v) (hown : Own k N E base w v l) (u : Value) (m : List Nat) (hx : a.eval x = u) (hu : Nums k N w u m)
    (hb : (l.length + m.length) * bytes ≤ 140737488355328) (hl : l.length + m.length ≤ 140737488355328) (hbase : base ≤ w.heap.size)
    (h : ∀ v' w', Own k N E base w' v' (l ++ m) → w.grownBy w' v.ownBlock → (v'.ownBlock = v.ownBlock ∨ ∀ b, v'.ownBlock = some b → w.heap.size ≤ b) → wpList P ops Q rest (a.put o.dst v') w') : wpList P ops Q (o :: rest) a w := by
  obtain ⟨i, hi, hz, h1, h2⟩ := hT.info
  obtain ⟨ad, cap, rfl, hc1, hc2, hnone⟩ := hu.shape
  cases ad with
  | none =>
    obtain ⟨hm, rfl⟩ := hnone rfl
    obtain rfl : m = [] := List.eq_nil_of_length_eq_zero hm
    refine wpList_append_own_none hgd s x T ho base E i 1 hT.und hi v l.length (numCells k l) hs hown.row hx ?_
    refine h v w (by simpa using hown) ?_ (.inl rfl)
    exact ⟨rfl, rfl, rfl, Nat.le_refl _, fun _ _ _ => rfl⟩
  | some ad =>
    have hnews : ∀ j (y : Value), (numCells k m)[j]? = some y → w.cell? (ad.add j) = some y := by
      intro j y hj
      have hjl : j < m.length := by
        rcases Nat.lt_or_ge j m.length with h | h
        · exact h
        · rw [List.getElem?_eq_none (by rw [numCells_length]; exact h)] at hj; simp at hj
      obtain ⟨b, off, cap', e, _, hc⟩ := hu.cells (by intro h0; subst h0; simp at hjl)
      simp only [Value.slice.injEq, Option.some.injEq] at e
      obtain ⟨rfl, _, _⟩ := e
      rw [numCells_at k m j hjl] at hj
      have := hc j hjl
      rw [show ((⟨b, off, none⟩ : Addr).add j) = ⟨b, off + j, none⟩ from by unfold Addr.add; split <;> simp_all]
      rw [this]; exact hj
    have hbound : ∀ y ∈ l ++ m, y < N := by intro y hy; rcases List.mem_append.1 hy with hy | hy; exact hown.bound y hy; exact hu.bound y hy
    have hml : (numCells k m).length = m.length * 1 := by rw [numCells_length]; omega
    rcases hown.row.2 with ⟨rfl, h0⟩ | ⟨g, cap0, cur, rfl, hbg, hg, hcap, hcm, hcs, htk⟩
    · have hl0 : l = [] := List.eq_nil_of_length_eq_zero h0
      subst hl0
      refine wpList_append_own w hgd s x T ho w.heap.size E i (.int k 0) 1 bytes hT.und hi hz h1 h2 rfl (by omega) (.slice none 0 0) 0 [] hs (World.ownsRow_nil _ _ _ _) ad m.length cap (numCells k m) hx
        hml hnews (numCells_one k m) (by simp at hl; unfold maxLen; omega) (by simpa using hb) (Nat.le_refl _) ?_
      intro v' w' ho' hg' _
      have hO : Own k N E w.heap.size w' v' m := ⟨by simpa using ho', hu.bound⟩
      exact h v' w' (by simpa using hO.mono hbase) hg' (.inr fun b hb => (hO.row.lt b hb).1)
    · by_cases hroom : l.length + m.length ≤ cap0
      · refine wpList_plain hgd fun K hK => ?_
        obtain ⟨w', hrun, r1, r2⟩ := run_append_fits (P := P) w base T o.type E i 1 hT.und hi h1 g l.length cap0 (numCells k l) hown.row ad m.length cap (numCells k m) hml hnews (numCells_one k m) hroom
        unfold Oper.wp
        simp [execOp, ho, resolve, invoke, builtin, hs, hx, hrun, Result.andThen]
        exact hK _ _ (h _ w' ⟨by rw [List.length_append, numCells_append]; exact r1, hbound⟩ r2 (.inl rfl))
      · refine wpList_append_grows w hgd s x T ho E i (.int k 0) 1 bytes hT.und hi hz h1 h2 rfl (by omega) (some ⟨g, 0, none⟩) l.length cap0 (numCells k l) hs (by intro h; simp at h) (by rw [numCells_length]; omega)
          (by intro b hb j y hj; simp only [Option.some.injEq] at hb; subst hb; exact hown.row.cells rfl j y hj) ad m.length cap (numCells k m) hx hml hnews (numCells_one k m) (by omega) (by unfold maxLen; omega) hb ?_
        intro v' w' ho' hg'
        have hO : Own k N E w.heap.size w' v' (l ++ m) := ⟨by rw [List.length_append, numCells_append]; exact ho', hbound⟩
        refine h v' w' (hO.mono hbase) ⟨hg'.os, hg'.tape, hg'.output, hg'.size, fun k' hk' _ => hg'.block k' hk' (by simp)⟩ (.inr fun b hb => (hO.row.lt b hb).1)
theorem wpList_append_nums {w : World} {ops : Array Oper} {rest : List Oper} {o : Oper} {a : Act} {Q : Exit → Act → World → Prop} (hgd : o.guard = none) (s x : Operand) (T E : TypeId)
    (ho : o.op = .call { callee := .builtin .append, args := #[s, x], argTypes := #[T, T] }) (k : IntKind) (N bytes base : Nat) (hT : NumSlice P T E k bytes)
    (v : Value) (l : List Nat) (hs : a.eval s = v) (hown : Own k N E base w v l) (u : Value) (m : List Nat) (hx : a.eval x = u) (hu : Nums k N w u m)
    (hb : (l.length + m.length) * bytes ≤ 140737488355328) (hl : l.length + m.length ≤ 140737488355328) (hbase : base ≤ w.heap.size)
    (h : ∀ v' w', Own k N E base w' v' (l ++ m) → w.grownBy w' v.ownBlock → wpList P ops Q rest (a.put o.dst v') w') : wpList P ops Q (o :: rest) a w :=
  wpList_append_nums_at hgd s x T E ho k N bytes base hT v l hs hown u m hx hu hb hl hbase fun v' w' h1 h2 _ => h v' w' h1 h2

/-- a string's bytes -/
def strOf (l : List Nat) : ByteArray := l.foldl (fun r n => r.push (UInt8.ofNat n)) ByteArray.empty
theorem strOf_data (l : List Nat) : (strOf l).data.toList = l.map UInt8.ofNat := by
  have key : ∀ (l : List Nat) (r : ByteArray), (l.foldl (fun r n => r.push (UInt8.ofNat n)) r).data.toList = r.data.toList ++ l.map UInt8.ofNat := by
    intro l
    induction l with
    | nil => intro r; simp
    | cons x l ih => intro r; simp only [List.foldl_cons, ih, List.map_cons]; simp [ByteArray.push]
  have := key l ByteArray.empty
  rw [strOf, this]; rfl
theorem strOf_inj (l m : List Nat) (hl : ∀ x ∈ l, x < 256) (hm : ∀ x ∈ m, x < 256) (h : strOf l = strOf m) : l = m := by
  have h1 : (strOf l).data.toList = (strOf m).data.toList := by rw [h]
  rw [strOf_data, strOf_data] at h1
  have h2 := congrArg (List.map UInt8.toNat) h1
  simp only [List.map_map] at h2
  have e : ∀ l : List Nat, (∀ x ∈ l, x < 256) → l.map (UInt8.toNat ∘ UInt8.ofNat) = l := by
    intro l hl
    conv => rhs; rw [← List.map_id l]
    apply List.map_congr_left
    intro x hx
    have := hl x hx
    simp only [Function.comp, id_eq, UInt8.toNat_ofNat']
    omega
  rw [e l hl, e m hm] at h2
  exact h2

/-- string(b) -/
theorem run_toString {w : World} {v : Value} {l : List Nat} {N : Nat} (h : Nums .u8 N w v l) : (Conv.bytesToString v).run P w = .ok (.string (strOf l)) w := by
  obtain ⟨ad, cap, rfl, hc1, hc2, hnone⟩ := h.shape
  cases ad with
  | none =>
    obtain ⟨hm, rfl⟩ := hnone rfl
    obtain rfl : l = [] := List.eq_nil_of_length_eq_zero hm
    rfl
  | some ad =>
    have hnews : ∀ j (y : Value), (numCells .u8 l)[j]? = some y → w.cell? (ad.add j) = some y := by
      intro j y hj
      have hjl : j < l.length := by
        rcases Nat.lt_or_ge j l.length with h | h
        · exact h
        · rw [List.getElem?_eq_none (by rw [numCells_length]; exact h)] at hj; simp at hj
      obtain ⟨b, off, cap', e, _, hc⟩ := h.cells (by intro h0; subst h0; simp at hjl)
      simp only [Value.slice.injEq, Option.some.injEq] at e
      obtain ⟨rfl, _, _⟩ := e
      rw [numCells_at .u8 l j hjl] at hj
      have := hc j hjl
      rw [show ((⟨b, off, none⟩ : Addr).add j) = ⟨b, off + j, none⟩ from by unfold Addr.add; split <;> simp_all]
      rw [this]; exact hj
    have hl := run_loadCells_list (P := P) w ad (numCells .u8 l) hnews
    rw [numCells_length] at hl
    have e1 : numCells .u8 l = (l.map (fun n : Nat => (n : Int))).map (Value.int .u8) := by simp [numCells]
    rw [e1] at hl
    rw [run_bytesToString w ad l.length cap (l.map (fun n : Nat => (n : Int))) hl]
    congr 2
    unfold strOf
    rw [List.foldl_map]
    rfl
theorem wpList_toString {w : World} {ops : Array Oper} {rest : List Oper} {o : Oper} {a : Act} {Q : Exit → Act → World → Prop} (hgd : o.guard = none) (S T E : TypeId) (x : Operand)
    (ho : o.op = .convert T S x) (hS : P.underlying S = some .string) (hT : P.underlying T = some (.slice E)) (hE : P.underlying E = some (.int .u8)) (v : Value) (l : List Nat) (N : Nat) (hx : a.eval x = v) (hu : Nums .u8 N w v l)
    (h : wpList P ops Q rest (a.put o.dst (.string (strOf l))) w) : wpList P ops Q (o :: rest) a w := by
  refine wpList_plain hgd fun K hK => ?_
  obtain ⟨ad, cap, rfl, _⟩ := hu.shape
  have hrun := (run_convert_bytes_string w T S E ad l.length cap hT hE hS).trans (run_toString (P := P) hu)
  unfold Oper.wp
  simp only [execOp, ho, hx]
  simp [hrun, Result.andThen]
  exact hK _ _ h

/-- A WHOLE ARRAY (or struct) STORED INTO A BLOCK of its own size. -/
theorem wpList_store_arr {ops : Array Oper} {rest : List Oper} {o : Oper} {a : Act} {w : World} {Q : Exit → Act → World → Prop} (hgd : o.guard = none) (ty : TypeId) (x y : Operand) (ho : o.op = .store ty x y)
    (g : Nat) (cs : Array Value) (hx : a.eval x = .pointer (some ⟨g, 0, none⟩)) (hy : a.eval y = .agg cs) (t : TypeId) (cur : Array Value) (hg : w.heap[g]? = some (.cells cur t (0, 0)))
    (hi : (P.info? ty).map (·.size) = some cs.size) (hs : cur.size = cs.size) (h1 : ∀ v ∈ cs.toList, v.oneCell' = true) (hd : o.dst = none)
    (h : wpList P ops Q rest a (w.setRow g cs)) : wpList P ops Q (o :: rest) a w := by
  refine Go.wpList_store_row hgd ty x y ho g cs hx hy t cur hg hi hs ?_ ?_
  · rw [Array.all_eq_true]
    intro i hi
    exact h1 _ (by simp)
  · have : a.put o.dst undef = a := by rw [hd]; rfl
    rw [this]; exact h
end

theorem ext_refl (w : World) : Below w.heap.size w w := Below.refl _ _
theorem ext_trans {w w1 w2 : World} (h1 : Below w.heap.size w w1) (h2 : Below w1.heap.size w1 w2) : Below w.heap.size w w2 := h1.trans (h2.mono h1.size)
theorem ext_alloc (w : World) (o : Obj) : Below w.heap.size w (w.alloc o) := (Below.refl _ _).alloc (Nat.le_refl _) o
theorem below_of_drew {B : Nat} {w w' : World} (h : Below B w.drew w') : Below B w w' := ⟨h.os, h.tape, h.output, h.size, h.block⟩
theorem below_drew {B : Nat} {w w' : World} (h : Below B w w') : Below B w w'.drew := ⟨h.os, h.tape, h.output, h.size, h.block⟩
theorem below_setRow_new {B g : Nat} {w0 w : World} (hb : Below B w0 w) (h : B ≤ g) (cs : Array Value) : Below B w0 (w.setRow g cs) := below_setRow hb h cs
/-- what append leaves, seen from an elder world: its own row lies from B on -/
theorem below_grown {B : Nat} {w0 w w' : World} {v : Value} {k : IntKind} {N E base : Nat} {l : List Nat} (hb : Below B w0 w) (ho : Own k N E base w v l) (hg : w.grownBy w' v.ownBlock) (hB : B ≤ base) (hs : B ≤ w.heap.size) : Below B w0 w' := by
  refine hb.grown hg hs ?_
  intro k' hk'
  have := (ho.row.lt k' hk').1
  omega

/-! ### WHAT A CALL LEAVES ALONE: every block that was there but those of a set S -/
structure Keeps (S : Nat → Prop) (w w' : World) : Prop where
  os : w'.os = w.os
  tape : w'.tape = w.tape
  output : w'.output = w.output
  size : w.heap.size ≤ w'.heap.size
  block : ∀ k, k < w.heap.size → ¬ S k → w'.heap[k]? = w.heap[k]?
theorem Keeps.refl (S : Nat → Prop) (w : World) : Keeps S w w := ⟨rfl, rfl, rfl, Nat.le_refl _, fun _ _ _ => rfl⟩
theorem Keeps.trans {S S' : Nat → Prop} {w w1 w2 : World} (h1 : Keeps S w w1) (h2 : Keeps S' w1 w2) (hs : ∀ k, S' k → S k ∨ w.heap.size ≤ k) : Keeps S w w2 :=
  ⟨h2.os.trans h1.os, h2.tape.trans h1.tape, h2.output.trans h1.output, Nat.le_trans h1.size h2.size, fun k hk hn => by
    rw [h2.block k (Nat.lt_of_lt_of_le hk h1.size) (fun h => by rcases hs k h with h | h; exact hn h; omega)]; exact h1.block k hk hn⟩
theorem Keeps.mono {S S' : Nat → Prop} {w w' : World} (h : Keeps S w w') (hs : ∀ k, S k → S' k) : Keeps S' w w' :=
  ⟨h.os, h.tape, h.output, h.size, fun k hk hn => h.block k hk (fun h => hn (hs k h))⟩
theorem Keeps.alloc {S : Nat → Prop} {w w1 : World} (h : Keeps S w w1) (o : Obj) : Keeps S w (w1.alloc o) :=
  ⟨h.os, h.tape, h.output, by have := h.size; simp; omega, fun k hk hn => by
    rw [heap_alloc_old w1 o (Nat.lt_of_lt_of_le hk h.size)]; exact h.block k hk hn⟩
theorem Keeps.drew {S : Nat → Prop} {w w1 : World} (h : Keeps S w w1) : Keeps S w w1.drew := ⟨h.os, h.tape, h.output, h.size, h.block⟩
theorem Keeps.of_drew {S : Nat → Prop} {w w1 : World} (h : Keeps S w.drew w1) : Keeps S w w1 := ⟨h.os, h.tape, h.output, h.size, h.block⟩
theorem Keeps.setCell {S : Nat → Prop} {w w1 : World} (h : Keeps S w w1) (g j : Nat) (v : Value) (hg : S g ∨ w.heap.size ≤ g) : Keeps S w (w1.setCell ⟨g, j, none⟩ v) :=
  ⟨h.os, h.tape, h.output, by have := h.size; simp only [World.setCell, Array.size_modify]; exact this, fun k hk hn => by
    rw [heap_setCell_other w1 ⟨g, j, none⟩ k v (by rintro rfl; rcases hg with hg | hg; exact hn hg; omega)]; exact h.block k hk hn⟩
theorem Keeps.setRow {S : Nat → Prop} {w w1 : World} (h : Keeps S w w1) (g : Nat) (cs : Array Value) (hg : S g ∨ w.heap.size ≤ g) : Keeps S w (w1.setRow g cs) :=
  ⟨h.os, h.tape, h.output, by rw [setRow_size]; exact h.size, fun k hk hn => by
    rw [setRow_other w1 g k cs (by rintro rfl; rcases hg with hg | hg; exact hn hg; omega)]; exact h.block k hk hn⟩
theorem Keeps.grown {S : Nat → Prop} {w w1 w2 : World} {row : Option Nat} (h : Keeps S w w1) (hg : w1.grownBy w2 row) (hr : ∀ k, row = some k → S k ∨ w.heap.size ≤ k) : Keeps S w w2 :=
  ⟨hg.os.trans h.os, hg.tape.trans h.tape, hg.output.trans h.output, Nat.le_trans h.size hg.size, fun k hk hn => by
    rw [hg.block k (Nat.lt_of_lt_of_le hk h.size) (fun e => by rcases hr k e.symm with h | h; exact hn h; omega)]; exact h.block k hk hn⟩
theorem Keeps.of_below {w w' : World} {B : Nat} (h : Below B w w') (S : Nat → Prop) (hS : ∀ k, B ≤ k → k < w.heap.size → S k) : Keeps S w w' :=
  ⟨h.os, h.tape, h.output, h.size, fun k hk hn => h.block k (by rcases Nat.lt_or_ge k B with h | h; exact h; exact absurd (hS k h hk) hn)⟩
theorem Keeps.of_ext {w w' : World} (h : Below w.heap.size w w') (S : Nat → Prop) : Keeps S w w' := Keeps.of_below h S (fun k h1 h2 => by omega)
theorem Keeps.below {S : Nat → Prop} {w w' : World} (h : Keeps S w w') (B : Nat) (hB : B ≤ w.heap.size) (hS : ∀ k, S k → B ≤ k) : Below B w w' :=
  ⟨h.os, h.tape, h.output, h.size, fun k hk => h.block k (by omega) (fun hs => by have := hS k hs; omega)⟩
theorem Keeps.ext {S : Nat → Prop} {w w' : World} (h : Keeps S w w') (hS : ∀ k, S k → w.heap.size ≤ k) : Below w.heap.size w w' := h.below _ (Nat.le_refl _) hS

theorem lt_of_heap {w : World} {g : Nat} {o : Obj} (h : w.heap[g]? = some o) : g < w.heap.size := by
  rcases Nat.lt_or_ge g w.heap.size with h' | h'
  · exact h'
  · rw [Array.getElem?_eq_none h'] at h; simp at h
theorem Nums.frame {k : IntKind} {N : Nat} {w w' : World} {S : Nat → Prop} {v : Value} {l : List Nat} (h : Nums k N w v l) (hf : Keeps S w w') (hn : ∀ b, v.ownBlock = some b → ¬ S b) : Nums k N w' v l where
  shape := h.shape
  bound := h.bound
  cells := fun hne => by
    obtain ⟨b, off, cap, e, hlt, hc⟩ := h.cells hne
    refine ⟨b, off, cap, e, Nat.lt_of_lt_of_le hlt hf.size, fun i hi => ?_⟩
    rw [← hc i hi]
    exact World.cell?_of_block (a := ⟨b, off + i, none⟩) (hf.block b hlt (hn b (by rw [e]; rfl)))
theorem Own.frame {k : IntKind} {N E base : Nat} {w w' : World} {S : Nat → Prop} {v : Value} {l : List Nat} (h : Own k N E base w v l) (hf : Keeps S w w') (hn : ∀ b, v.ownBlock = some b → ¬ S b) : Own k N E base w' v l := by
  refine ⟨⟨h.row.1, ?_⟩, h.bound⟩
  rcases h.row.2 with h0 | ⟨g, cap, cur, e, hbg, hg, r⟩
  · exact .inl h0
  · exact .inr ⟨g, cap, cur, e, hbg, by rw [hf.block g (lt_of_heap hg) (hn g (by rw [e]; rfl))]; exact hg, r⟩
theorem Own.lt {k : IntKind} {N E base : Nat} {w : World} {v : Value} {l : List Nat} (h : Own k N E base w v l) : ∀ b, v.ownBlock = some b → base ≤ b ∧ b < w.heap.size := h.row.lt
/-- what append's law leaves says of the new row: its block is the elder one's, or new -/
theorem Own.block_of_grown {k : IntKind} {N E base : Nat} {w w' : World} {v' : Value} {l : List Nat} {row : Option Nat} (h : Own k N E base w' v' l) (hb : w.heap.size ≤ base) : ∀ b, v'.ownBlock = some b → row = some b ∨ w.heap.size ≤ b :=
  fun b hb' => .inr (by have := (h.lt b hb').1; omega)

/-! ### SLICES OF ANYTHING THAT TAKES ONE CELL (bools, ..): the same words over an encoding -/
structure Seq {α : Type} (enc : α → Value) (w : World) (v : Value) (l : List α) : Prop where
  shape : ∃ a cap, v = .slice a l.length cap ∧ l.length ≤ cap ∧ cap ≤ maxLen ∧ (a = none → l.length = 0 ∧ cap = 0)
  cells : l ≠ [] → ∃ b off cap, v = .slice (some ⟨b, off, none⟩) l.length cap ∧ b < w.heap.size ∧ ∀ i (h : i < l.length), w.cell? ⟨b, off + i, none⟩ = some (enc l[i])
structure SeqOwn {α : Type} (enc : α → Value) (E base : Nat) (w : World) (v : Value) (l : List α) : Prop where
  row : w.ownsRow base E 1 v l.length (l.map enc)
section
variable {α : Type} {enc : α → Value}
theorem Seq.nil (w : World) : Seq enc w (.slice none 0 0) [] where
  shape := ⟨none, 0, rfl, Nat.le_refl _, by unfold maxLen; omega, fun _ => ⟨rfl, rfl⟩⟩
  cells := fun h => absurd rfl h
theorem Seq.below {w w' : World} {B : Nat} {v : Value} {l : List α} (h : Seq enc w v l) (hb : Below B w w') (hB : w.heap.size ≤ B) : Seq enc w' v l where
  shape := h.shape
  cells := fun hne => by
    obtain ⟨b, off, cap, e, hlt, hc⟩ := h.cells hne
    exact ⟨b, off, cap, e, Nat.lt_of_lt_of_le hlt hb.size, fun i hi => (hb.cell (p := ⟨b, off + i, none⟩) (Nat.lt_of_lt_of_le hlt hB)).trans (hc i hi)⟩
theorem Seq.frame {w w' : World} {S : Nat → Prop} {v : Value} {l : List α} (h : Seq enc w v l) (hf : Keeps S w w') (hn : ∀ b, v.ownBlock = some b → ¬ S b) : Seq enc w' v l where
  shape := h.shape
  cells := fun hne => by
    obtain ⟨b, off, cap, e, hlt, hc⟩ := h.cells hne
    refine ⟨b, off, cap, e, Nat.lt_of_lt_of_le hlt hf.size, fun i hi => ?_⟩
    rw [← hc i hi]
    exact World.cell?_of_block (a := ⟨b, off + i, none⟩) (hf.block b hlt (hn b (by rw [e]; rfl)))
theorem Seq.open_ {w : World} {v : Value} {l : List α} (h : Seq enc w v l) : ∃ a cap, v = .slice a l.length cap ∧ l.length ≤ 9223372036854775807 ∧
    (∀ j (_ : j < l.length), ∃ b off, a = some ⟨b, off, none⟩ ∧ b < w.heap.size ∧ ∀ i (h : i < l.length), w.cell? ⟨b, off + i, none⟩ = some (enc l[i])) := by
  obtain ⟨a, cap, rfl, h1, h2, _⟩ := h.shape
  refine ⟨a, cap, rfl, by unfold maxLen at h2; omega, ?_⟩
  intro j hj
  obtain ⟨b, off, cap', e, hb, hc⟩ := h.cells (by intro h0; subst h0; simp at hj)
  simp only [Value.slice.injEq] at e
  exact ⟨b, off, e.1, hb, hc⟩
theorem Seq.fits {w : World} {a : Option Addr} {n cap : Nat} {l : List α} (h : Seq enc w (.slice a n cap) l) : n = l.length := by
  obtain ⟨_, _, e, _⟩ := h.shape; simp only [Value.slice.injEq] at e; exact e.2.1
theorem SeqOwn.nil (E base : Nat) (w : World) : SeqOwn enc E base w (.slice none 0 0) [] := ⟨World.ownsRow_nil _ _ _ _⟩
theorem SeqOwn.seq {E base : Nat} {w : World} {v : Value} {l : List α} (h : SeqOwn enc E base w v l) : Seq enc w v l where
  shape := by
    rcases h.row.2 with ⟨rfl, h0⟩ | ⟨g, cap, cur, rfl, _, _, h1, h2, _⟩
    · exact ⟨none, 0, by rw [h0], by omega, by unfold maxLen; omega, fun _ => ⟨h0, rfl⟩⟩
    · exact ⟨_, cap, rfl, h1, h2, fun e => by simp at e⟩
  cells := fun hne => by
    rcases h.row.2 with ⟨rfl, h0⟩ | ⟨g, cap, cur, rfl, _, hg, h1, h2, h3, h4⟩
    · exact absurd (List.eq_nil_of_length_eq_zero h0) hne
    · refine ⟨g, 0, cap, rfl, lt_of_heap hg, ?_⟩
      intro i hi
      rw [cell_of_row w g (0 + i) cur _ _ hg]
      have e : (l.map enc)[i]? = cur[i]? := by rw [← h4]; simp [hi]
      rw [Nat.zero_add, ← e]; simp [hi]
theorem SeqOwn.mono {E base base' : Nat} {w : World} {v : Value} {l : List α} (h : SeqOwn enc E base w v l) (hb : base' ≤ base) : SeqOwn enc E base' w v l := by
  refine ⟨⟨h.row.1, ?_⟩⟩
  rcases h.row.2 with h0 | ⟨g, cap, cur, e, hbg, r⟩
  · exact .inl h0
  · exact .inr ⟨g, cap, cur, e, by omega, r⟩
theorem SeqOwn.lt {E base : Nat} {w : World} {v : Value} {l : List α} (h : SeqOwn enc E base w v l) : ∀ b, v.ownBlock = some b → base ≤ b ∧ b < w.heap.size := h.row.lt
theorem SeqOwn.frame {E base : Nat} {w w' : World} {S : Nat → Prop} {v : Value} {l : List α} (h : SeqOwn enc E base w v l) (hf : Keeps S w w') (hn : ∀ b, v.ownBlock = some b → ¬ S b) : SeqOwn enc E base w' v l := by
  refine ⟨⟨h.row.1, ?_⟩⟩
  rcases h.row.2 with h0 | ⟨g, cap, cur, e, hbg, hg, r⟩
  · exact .inl h0
  · exact .inr ⟨g, cap, cur, e, hbg, by rw [hf.block g (lt_of_heap hg) (hn g (by rw [e]; rfl))]; exact hg, r⟩
theorem SeqOwn.below {E base B : Nat} {w w' : World} {v : Value} {l : List α} (h : SeqOwn enc E base w v l) (hb : Below B w w') (hB : w.heap.size ≤ B) : SeqOwn enc E base w' v l :=
  h.frame (Keeps.of_below hb (fun k => B ≤ k) (fun _ h _ => h)) (fun b hb' => by have := (h.lt b hb').2; omega)
theorem SeqOwn.alloc {E base : Nat} {w : World} {v : Value} {l : List α} (h : SeqOwn enc E base w v l) (o : Obj) : SeqOwn enc E base (w.alloc o) v l := ⟨h.row.alloc o⟩
theorem SeqOwn.drew {E base : Nat} {w : World} {v : Value} {l : List α} (h : SeqOwn enc E base w v l) : SeqOwn enc E base w.drew v l := ⟨h.row⟩
/-- one element, laid into a block of its own -/
theorem seq_one (E : Nat) (w : World) (x : α) (u : Value) (hu : u = enc x) : Seq enc (w.alloc (.cells #[u] E)) (.slice (some ⟨w.heap.size, 0, none⟩) 1 1) [x] where
  shape := ⟨_, 1, rfl, Nat.le_refl _, by unfold maxLen; omega, fun e => by simp at e⟩
  cells := fun _ => ⟨w.heap.size, 0, 1, rfl, by simp, fun i hi => by
    have : i = 0 := by simp at hi; omega
    subst this; rw [World.cell?_alloc_at _ _ _ _ rfl]; simp [hu]⟩
end
structure SeqSlice {α : Type} (P : Program) (T E : TypeId) (enc : α → Value) (z : Value) (bytes : Nat) : Prop where
  und : P.underlying T = some (.slice E)
  info : ∃ i, P.info? E = some i ∧ i.zero = some z ∧ i.size = 1 ∧ i.bytes = bytes
  zone : z.cells.size = 1
  one : ∀ x, (enc x).oneCell' = true
theorem seqSlice {α : Type} {P : Program} {T E : TypeId} {enc : α → Value} {z : Value} {bytes : Nat} (h : P.underlying T = some (.slice E))
    (hi : (P.info? E).map (fun i => (i.zero, i.size, i.bytes)) = some (some z, 1, bytes)) (hz : z.cells.size = 1) (h1 : ∀ x, (enc x).oneCell' = true) : SeqSlice P T E enc z bytes := by
  obtain ⟨i, e1, e2, e3, e4⟩ := info_parts hi
  exact ⟨h, ⟨i, e1, e2, e3, e4⟩, hz, h1⟩
theorem wpList_append_seq {P : Program} {α : Type} {enc : α → Value} {w : World} {ops : Array Oper} {rest : List Oper} {o : Oper} {a : Act} {Q : Exit → Act → World → Prop} (hgd : o.guard = none) (s x : Operand) (T E : TypeId)
    (ho : o.op = .call { callee := .builtin .append, args := #[s, x], argTypes := #[T, T] }) (z : Value) (bytes base : Nat) (hT : SeqSlice P T E enc z bytes)
    (v : Value) (l : List α) (hs : a.eval s = v) (hown : SeqOwn enc E base w v l) (u : Value) (m : List α) (hx : a.eval x = u) (hu : Seq enc w u m)
    (hb : (l.length + m.length) * bytes ≤ 140737488355328) (hl : l.length + m.length ≤ 140737488355328) (hbase : base ≤ w.heap.size)
    (h : ∀ v' w', SeqOwn enc E base w' v' (l ++ m) → w.grownBy w' v.ownBlock → (v'.ownBlock = v.ownBlock ∨ ∀ b, v'.ownBlock = some b → w.heap.size ≤ b) → wpList P ops Q rest (a.put o.dst v') w') : wpList P ops Q (o :: rest) a w := by
  obtain ⟨i, hi, hz, h1, h2⟩ := hT.info
  obtain ⟨ad, cap, rfl, hc1, hc2, hnone⟩ := hu.shape
  have hone : ∀ y ∈ m.map enc, y.oneCell' = true := by intro y hy; simp only [List.mem_map] at hy; obtain ⟨n, _, rfl⟩ := hy; exact hT.one n
  cases ad with
  | none =>
    obtain ⟨hm, rfl⟩ := hnone rfl
    obtain rfl : m = [] := List.eq_nil_of_length_eq_zero hm
    refine wpList_append_own_none hgd s x T ho base E i 1 hT.und hi v l.length (l.map enc) hs hown.row hx ?_
    refine h v w (by simpa using hown) ?_ (.inl rfl)
    exact ⟨rfl, rfl, rfl, Nat.le_refl _, fun _ _ _ => rfl⟩
  | some ad =>
    have hnews : ∀ j (y : Value), (m.map enc)[j]? = some y → w.cell? (ad.add j) = some y := by
      intro j y hj
      have hjl : j < m.length := by
        rcases Nat.lt_or_ge j m.length with h | h
        · exact h
        · rw [List.getElem?_eq_none (by simpa using h)] at hj; simp at hj
      obtain ⟨b, off, cap', e, _, hc⟩ := hu.cells (by intro h0; subst h0; simp at hjl)
      simp only [Value.slice.injEq, Option.some.injEq] at e
      obtain ⟨rfl, _, _⟩ := e
      have := hc j hjl
      rw [show ((⟨b, off, none⟩ : Addr).add j) = ⟨b, off + j, none⟩ from by unfold Addr.add; split <;> simp_all]
      rw [this]; simpa [hjl] using hj
    have hml : (m.map enc).length = m.length * 1 := by simp
    have hap : (l ++ m).map enc = l.map enc ++ m.map enc := List.map_append
    rcases hown.row.2 with ⟨rfl, h0⟩ | ⟨g, cap0, cur, rfl, hbg, hg, hcap, hcm, hcs, htk⟩
    · have hl0 : l = [] := List.eq_nil_of_length_eq_zero h0
      subst hl0
      refine wpList_append_own w hgd s x T ho w.heap.size E i z 1 bytes hT.und hi hz h1 h2 hT.zone (by omega) (.slice none 0 0) 0 [] hs (World.ownsRow_nil _ _ _ _) ad m.length cap (m.map enc) hx
        hml hnews hone (by simp at hl; unfold maxLen; omega) (by simpa using hb) (Nat.le_refl _) ?_
      intro v' w' ho' hg' _
      have hO : SeqOwn enc E w.heap.size w' v' m := ⟨by simpa using ho'⟩
      exact h v' w' (by simpa using hO.mono hbase) hg' (.inr fun b hb => (hO.row.lt b hb).1)
    · by_cases hroom : l.length + m.length ≤ cap0
      · refine wpList_plain hgd fun K hK => ?_
        obtain ⟨w', hrun, r1, r2⟩ := run_append_fits (P := P) w base T o.type E i 1 hT.und hi h1 g l.length cap0 (l.map enc) hown.row ad m.length cap (m.map enc) hml hnews hone hroom
        unfold Oper.wp
        simp [execOp, ho, resolve, invoke, builtin, hs, hx, hrun, Result.andThen]
        exact hK _ _ (h _ w' ⟨by rw [List.length_append, hap]; exact r1⟩ r2 (.inl rfl))
      · refine wpList_append_grows w hgd s x T ho E i z 1 bytes hT.und hi hz h1 h2 hT.zone (by omega) (some ⟨g, 0, none⟩) l.length cap0 (l.map enc) hs (by intro h; simp at h) (by simp)
          (by intro b hb j y hj; simp only [Option.some.injEq] at hb; subst hb; exact hown.row.cells rfl j y hj) ad m.length cap (m.map enc) hx hml hnews hone (by omega) (by unfold maxLen; omega) hb ?_
        intro v' w' ho' hg'
        have hO : SeqOwn enc E w.heap.size w' v' (l ++ m) := ⟨by rw [List.length_append, hap]; exact ho'⟩
        refine h v' w' (hO.mono hbase) ⟨hg'.os, hg'.tape, hg'.output, hg'.size, fun k' hk' _ => hg'.block k' hk' (by simp)⟩ (.inr fun b hb => (hO.row.lt b hb).1)
end Go.Proofs.Ytdaokkgenfpmhaa.Base

/- Numbers as the walks meet them: sums, shifts and bit by bit work of u32, u64 and u8 over natural numbers; rows of numbers that lie in arrays. No program is named here. -/
set_option linter.unusedVariables false
set_option linter.unusedSimpArgs false
namespace Go.Proofs.Ytdaokkgenfpmhaa.Num
open Go.RowKit

theorem wrap32 (a : Nat) : IntKind.u32.wrap (a : Int) = ((a % 4294967296 : Nat) : Int) := by rw [IntKind.wrap_u32]; omega
theorem wrap64u (a : Nat) : IntKind.u64.wrap (a : Int) = ((a % 18446744073709551616 : Nat) : Int) := by rw [IntKind.wrap_u64]; omega
theorem wrap8 (a : Nat) : IntKind.u8.wrap (a : Int) = ((a % 256 : Nat) : Int) := by rw [IntKind.wrap_u8]; omega
theorem add32 (a b : Nat) : IntKind.u32.wrap ((a : Int) + (b : Int)) = (((a + b) % 4294967296 : Nat) : Int) := by rw [IntKind.wrap_u32]; omega
theorem natDiv (a b : Nat) : (a : Int) / (b : Int) = ((a / b : Nat) : Int) := (Int.natCast_ediv a b).symm
theorem natMod (a b : Nat) : (a : Int) % (b : Int) = ((a % b : Nat) : Int) := (Int.natCast_emod a b).symm
theorem natMul (a b : Nat) : (a : Int) * (b : Int) = ((a * b : Nat) : Int) := (Int.natCast_mul a b).symm
theorem natAdd (a b : Nat) : (a : Int) + (b : Int) = ((a + b : Nat) : Int) := (Int.natCast_add a b).symm
theorem natPow (a b : Nat) : (a : Int) ^ b = ((a ^ b : Nat) : Int) := (Int.natCast_pow a b).symm
theorem or_disjoint (a b n : Nat) (h : b < 2 ^ n) : a * 2 ^ n ||| b = a * 2 ^ n + b := by
  rw [Nat.mul_comm]; exact (Nat.two_pow_add_eq_or_of_lt h a).symm
theorem xor32_lt {a b : Nat} (ha : a < 4294967296) (hb : b < 4294967296) : a ^^^ b < 4294967296 := Nat.xor_lt_two_pow (n := 32) ha hb
theorem and32_lt {a b : Nat} (hb : b < 4294967296) : a &&& b < 4294967296 := Nat.and_lt_two_pow (n := 32) a hb

/-! arrays of numbers -/
/-- the cells of an array of n numbers -/
def arr (k : IntKind) (n : Nat) (f : Nat → Nat) : Array Value := ((List.range n).map fun i => Value.int k (f i : Int)).toArray
theorem arr_size (k : IntKind) (n : Nat) (f : Nat → Nat) : (arr k n f).size = n := by simp [arr]
theorem arr_at (k : IntKind) (n : Nat) (f : Nat → Nat) (i : Nat) (h : i < n) : (arr k n f)[i]? = some (.int k (f i : Int)) := by simp [arr, h]
theorem arr_one (k : IntKind) (n : Nat) (f : Nat → Nat) : ∀ v ∈ (arr k n f).toList, v.oneCell' = true := by
  intro v hv
  simp only [arr, List.mem_map] at hv
  obtain ⟨i, _, rfl⟩ := hv
  rfl
theorem arr_congr (k : IntKind) (n : Nat) (f g : Nat → Nat) (h : ∀ i, i < n → f i = g i) : arr k n f = arr k n g := by
  unfold arr
  congr 1
  apply List.map_congr_left
  intro i hi
  rw [h i (by simpa using hi)]
theorem arr_set (k : IntKind) (n : Nat) (f : Nat → Nat) (i x : Nat) : (arr k n f).setIfInBounds i (.int k (x : Int)) = arr k n (fun j => if j = i then x else f j) := by
  apply Array.ext_getElem?
  intro j
  rw [Array.getElem?_setIfInBounds, arr_size]
  by_cases hj : j < n
  · rw [arr_at _ _ _ _ hj]
    by_cases hij : i = j
    · subst hij; rw [if_pos rfl, if_pos hj, arr_at _ _ _ _ hj]; simp
    · rw [if_neg hij, arr_at _ _ _ _ hj, if_neg (Ne.symm hij)]
  · rw [Array.getElem?_eq_none (xs := arr k n (fun j => if j = i then x else f j)) (by rw [arr_size]; omega), Array.getElem?_eq_none (xs := arr k n f) (by rw [arr_size]; omega)]
    by_cases hij : i = j
    · subst hij; simp [hj]
    · rw [if_neg hij]
theorem arr_toList (k : IntKind) (n : Nat) (f : Nat → Nat) : (arr k n f).toList = (List.range n).map fun i => Value.int k (f i : Int) := by simp [arr]
theorem arr_fill (k : IntKind) (n : Nat) (f : Nat → Nat) (i : Nat) : (arr k n fun j => if j < i then f j else 0).setIfInBounds i (.int k (f i : Int)) = arr k n (fun j => if j < i + 1 then f j else 0) := by
  rw [arr_set]
  apply arr_congr
  intro j _
  by_cases h : j = i
  · subst h; simp
  · rw [if_neg h]
    by_cases h2 : j < i
    · rw [if_pos h2, if_pos (by omega)]
    · rw [if_neg h2, if_neg (by omega)]
theorem arr_full (k : IntKind) (n : Nat) (f : Nat → Nat) (m : Nat) (h : n ≤ m) : arr k n (fun j => if j < m then f j else 0) = arr k n f :=
  arr_congr _ _ _ _ (fun i hi => if_pos (by omega))
/-- 'a[i]' of an array of numbers by value -/
theorem run_index_arr {P : Program} (T E : TypeId) (n : Nat) (k : IntKind) (f : Nat → Nat) (hT : P.underlying T = some (.array n E)) (hE : P.underlying E = some (.int k)) (hs : (P.info? E).map (·.size) = some 1) (i : Nat) (hi : i < n) (w : World) :
    (Instr.index T (.agg (arr k n f)) (.int .i64 (i : Int))).run P w = .ok (.int k (f i : Int)) w := by
  have hA := arr_at k n f i hi
  have hagg : (isAgg E).run P w = .ok false w := by
    unfold isAgg
    rw [Sem.run_bind, run_underlying hE w]
    rfl
  cases hq : P.info? E with
  | none => simp [hq] at hs
  | some d =>
    have hd : d.size = 1 := by simpa [hq] using hs
    have hin : (0 : Int) ≤ (i : Int) ∧ (i : Int) < (n : Int) := ⟨by omega, by omega⟩
    simp [Instr.index, run_underlying hT, asIntOf, hi, go_sem, sizeOf, typeInfo, hq, hd, part, hagg, hA]
attribute [irreducible] arr
end Go.Proofs.Ytdaokkgenfpmhaa.Num

/- The numbers of layer 1 (fix) as plain arithmetic over the integers: sums, products, quotients and roots that are brought in, and sines. No program is named here. -/
set_option linter.unusedVariables false
set_option linter.unusedSimpArgs false
namespace Go.Proofs.Ytdaokkgenfpmhaa.FixM

/-- brought in: a 64-bit number -/
def clamp (x : Int) : Int := if x < -9223372036854775808 then -9223372036854775808 else if 9223372036854775807 < x then 9223372036854775807 else x
def In (x : Int) : Prop := -9223372036854775808 ≤ x ∧ x ≤ 9223372036854775807
theorem clamp_in (x : Int) : In (clamp x) := by unfold clamp In; split <;> (try split) <;> omega
theorem clamp_lo (x : Int) : -9223372036854775808 ≤ clamp x := (clamp_in x).1
theorem clamp_hi (x : Int) : clamp x ≤ 9223372036854775807 := (clamp_in x).2
theorem clamp_id {x : Int} (h1 : -9223372036854775808 ≤ x) (h2 : x ≤ 9223372036854775807) : clamp x = x := by unfold clamp; split <;> (try split) <;> omega
theorem clamp_mono {x y : Int} (h : x ≤ y) : clamp x ≤ clamp y := by unfold clamp; split <;> (try split) <;> (try split) <;> (try split) <;> omega
theorem clamp_neg_mono {x y : Int} (h : x ≤ y) : clamp (-y) ≤ clamp (-x) := clamp_mono (by omega)

def addF (a b : Int) : Int := clamp (a + b)
def subF (a b : Int) : Int := clamp (a - b)
def negF (a : Int) : Int := clamp (-a)
def ofF (n : Int) : Int := clamp (n * 4294967296)
def floorF (x : Int) : Int := x / 4294967296
def mulF (a b : Int) : Int := clamp (a * b / 4294967296)
def divF (a b : Int) : Int :=
  if b = 0 then (if 0 < a then 9223372036854775807 else if a < 0 then -9223372036854775808 else 0)
  else if 0 < b then clamp (a * 4294967296 / b) else clamp (-(a * 4294967296) / -b)

/-- of sizes and signs: what lies above, the rest, whether something is left -/
def told (same : Bool) (hi lo : Nat) (rest : Bool) : Int :=
  if same then (if hi ≠ 0 ∨ 9223372036854775807 < lo then 9223372036854775807 else (lo : Int))
  else (if hi ≠ 0 ∨ 9223372036854775807 < lo then -9223372036854775808 else -(lo : Int) - (if rest then 1 else 0))
theorem told_clamp (same : Bool) (P : Nat) (rest : Bool) : told same (P / 18446744073709551616) (P % 18446744073709551616) rest = clamp (if same then (P : Int) else -(P : Int) - (if rest then 1 else 0)) := by
  unfold told clamp
  cases same <;> cases rest <;> simp only [if_true, if_false, Bool.false_eq_true] <;> (repeat' split) <;> omega
/-- is a below 0 just if b is? -/
def sameB (a b : Int) : Bool := decide (a < 0) == decide (b < 0)
theorem natAbs_mul_same {a b : Int} (h : sameB a b = true) : a * b = ((a.natAbs * b.natAbs : Nat) : Int) := by
  unfold sameB at h
  rw [beq_iff_eq, decide_eq_decide] at h
  by_cases ha : a < 0
  · have hb := h.1 ha
    obtain ⟨x, rfl⟩ : ∃ x : Nat, a = -(x : Int) := ⟨a.natAbs, by omega⟩
    obtain ⟨y, rfl⟩ : ∃ y : Nat, b = -(y : Int) := ⟨b.natAbs, by omega⟩
    rw [Int.neg_mul_neg]; simp
  · have hb : ¬ b < 0 := fun h' => ha (h.2 h')
    obtain ⟨x, rfl⟩ : ∃ x : Nat, a = (x : Int) := ⟨a.natAbs, by omega⟩
    obtain ⟨y, rfl⟩ : ∃ y : Nat, b = (y : Int) := ⟨b.natAbs, by omega⟩
    simp
theorem natAbs_mul_diff {a b : Int} (h : sameB a b = false) : a * b = -((a.natAbs * b.natAbs : Nat) : Int) := by
  unfold sameB at h
  rw [beq_eq_false_iff_ne, ne_eq, decide_eq_decide] at h
  by_cases ha : a < 0
  · have hb : ¬ b < 0 := fun h' => h ⟨fun _ => h', fun _ => ha⟩
    obtain ⟨x, rfl⟩ : ∃ x : Nat, a = -(x : Int) := ⟨a.natAbs, by omega⟩
    obtain ⟨y, rfl⟩ : ∃ y : Nat, b = (y : Int) := ⟨b.natAbs, by omega⟩
    simp [Int.neg_mul]
  · have hb : b < 0 := by
      rcases Int.lt_or_le b 0 with h' | h'
      · exact h'
      · exact absurd ⟨fun h1 => absurd h1 ha, fun h1 => by omega⟩ h
    obtain ⟨x, rfl⟩ : ∃ x : Nat, a = (x : Int) := ⟨a.natAbs, by omega⟩
    obtain ⟨y, rfl⟩ : ∃ y : Nat, b = -(y : Int) := ⟨b.natAbs, by omega⟩
    simp [Int.mul_neg]
theorem mulF_told (a b : Int) : told (sameB a b) (a.natAbs * b.natAbs / 4294967296 / 18446744073709551616) (a.natAbs * b.natAbs / 4294967296 % 18446744073709551616) (decide (a.natAbs * b.natAbs % 4294967296 ≠ 0)) = mulF a b := by
  rw [told_clamp]
  unfold mulF
  congr 1
  cases h : sameB a b
  · rw [natAbs_mul_diff h]
    simp only [Bool.false_eq_true, if_false, decide_eq_true_eq]
    generalize a.natAbs * b.natAbs = X
    split <;> omega
  · rw [natAbs_mul_same h]
    simp only [if_true]
    omega
theorem divF_told (a b : Int) (hb : b ≠ 0) : told (sameB a b) (a.natAbs * 4294967296 / b.natAbs / 18446744073709551616) (a.natAbs * 4294967296 / b.natAbs % 18446744073709551616) (decide (a.natAbs * 4294967296 % b.natAbs ≠ 0)) = divF a b := by
  rw [told_clamp]
  unfold divF
  rw [if_neg hb]
  have floor_neg : ∀ (X y : Nat), 0 < y → -(X : Int) / (y : Int) = -((X / y : Nat) : Int) - (if X % y ≠ 0 then 1 else 0) := by
    intro X y hy
    have e := Nat.div_add_mod X y
    have hm := Nat.mod_lt X hy
    have e2 : (X : Int) = (y : Int) * ((X / y : Nat) : Int) + ((X % y : Nat) : Int) := by exact_mod_cast e.symm
    by_cases h0 : X % y = 0
    · simp only [h0, ne_eq, not_true, if_false]
      rw [e2, h0]
      rw [show -((y : Int) * ((X / y : Nat) : Int) + ((0 : Nat) : Int)) = (y : Int) * (-((X / y : Nat) : Int)) by rw [Int.mul_neg]; simp]
      rw [Int.mul_ediv_cancel_left _ (by omega)]
      omega
    · simp only [ne_eq, h0, not_false_eq_true, if_true]
      rw [e2]
      rw [show -((y : Int) * ((X / y : Nat) : Int) + ((X % y : Nat) : Int)) = (y : Int) - ((X % y : Nat) : Int) + (-((X / y : Nat) : Int) - 1) * (y : Int) by rw [Int.sub_mul, Int.neg_mul, Int.mul_comm ((X / y : Nat) : Int)]; omega]
      rw [Int.add_mul_ediv_right _ _ (by omega)]
      rw [Int.ediv_eq_zero_of_lt (by omega) (by omega)]
      omega
  by_cases hpos : 0 < b
  · rw [if_pos hpos]
    congr 1
    obtain ⟨y, rfl⟩ : ∃ y : Nat, b = (y : Int) := ⟨b.natAbs, by omega⟩
    have hy : 0 < y := by omega
    by_cases ha : a < 0
    · have hs : sameB a (y : Int) = false := by unfold sameB; rw [decide_eq_true ha, decide_eq_false (by omega)]; rfl
      rw [hs]
      obtain ⟨x, rfl⟩ : ∃ x : Nat, a = -(x : Int) := ⟨a.natAbs, by omega⟩
      have := floor_neg (x * 4294967296) y hy
      simp only [Int.natAbs_neg, Int.natAbs_natCast, Bool.false_eq_true, if_false, decide_eq_true_eq]
      rw [← this]
      simp [Int.neg_mul]
    · have hs : sameB a (y : Int) = true := by unfold sameB; rw [decide_eq_false ha, decide_eq_false (by omega)]; rfl
      rw [hs]
      obtain ⟨x, rfl⟩ : ∃ x : Nat, a = (x : Int) := ⟨a.natAbs, by omega⟩
      simp
  · rw [if_neg hpos]
    congr 1
    obtain ⟨y, rfl⟩ : ∃ y : Nat, b = -(y : Int) := ⟨b.natAbs, by omega⟩
    have hy : 0 < y := by omega
    by_cases ha : a < 0
    · have hs : sameB a (-(y : Int)) = true := by unfold sameB; rw [decide_eq_true ha, decide_eq_true (by omega)]; rfl
      rw [hs]
      obtain ⟨x, rfl⟩ : ∃ x : Nat, a = -(x : Int) := ⟨a.natAbs, by omega⟩
      simp [Int.neg_mul]
    · have hs : sameB a (-(y : Int)) = false := by unfold sameB; rw [decide_eq_false ha, decide_eq_true (by omega)]; rfl
      rw [hs]
      obtain ⟨x, rfl⟩ : ∃ x : Nat, a = (x : Int) := ⟨a.natAbs, by omega⟩
      have := floor_neg (x * 4294967296) y hy
      simp only [Int.natAbs_neg, Int.natAbs_natCast, Bool.false_eq_true, if_false, decide_eq_true_eq]
      rw [← this]
      simp

/-! ### roots, bit by bit -/
theorem lt_of_sq {a b : Nat} (h : a * a < b * b) : a < b := by
  rcases Nat.lt_or_ge a b with h' | h'
  · exact h'
  · exact absurd (Nat.mul_le_mul h' h') (by omega)
def rootB (n : Nat) : Nat → Nat → Nat
  | 0, r => r
  | k + 1, r => if (r + 2 ^ k) * (r + 2 ^ k) ≤ n then rootB n k (r + 2 ^ k) else rootB n k r
theorem rootB_spec (n : Nat) : ∀ (k r : Nat), r * r ≤ n → n < (r + 2 ^ k) * (r + 2 ^ k) → rootB n k r * rootB n k r ≤ n ∧ n < (rootB n k r + 1) * (rootB n k r + 1) := by
  intro k
  induction k with
  | zero => intro r h1 h2; exact ⟨h1, by simpa [rootB] using h2⟩
  | succ k ih =>
    intro r h1 h2
    unfold rootB
    split
    · rename_i h; exact ih _ h (by rw [show r + 2 ^ k + 2 ^ k = r + 2 ^ (k + 1) by rw [Nat.pow_succ]; omega]; exact h2)
    · rename_i h; exact ih _ h1 (by omega)
theorem rootB_unique {n r s : Nat} (h1 : r * r ≤ n) (h2 : n < (r + 1) * (r + 1)) (h3 : s * s ≤ n) (h4 : n < (s + 1) * (s + 1)) : r = s := by
  have a : r < s + 1 := lt_of_sq (Nat.lt_of_le_of_lt h1 h4)
  have b : s < r + 1 := lt_of_sq (Nat.lt_of_le_of_lt h3 h2)
  omega
def root (n : Nat) : Nat := rootB n 48 0
theorem root_spec (n : Nat) (h : n < 79228162514264337593543950336) : root n * root n ≤ n ∧ n < (root n + 1) * (root n + 1) :=
  rootB_spec n 48 0 (by omega) (by simpa using h)
theorem root_eq {n r : Nat} (h : n < 79228162514264337593543950336) (h1 : r * r ≤ n) (h2 : n < (r + 1) * (r + 1)) : root n = r :=
  rootB_unique (root_spec n h).1 (root_spec n h).2 h1 h2
theorem root_lt (n : Nat) (h : n < 79228162514264337593543950336) : root n < 281474976710656 := by
  have := (root_spec n h).1
  exact lt_of_sq (Nat.lt_of_le_of_lt this (by simpa using h))
def sqrtF (a : Int) : Int := if a < 1 then 0 else ((root (a.toNat * 4294967296) : Nat) : Int)
theorem sqrtF_spec {a : Int} (h : 1 ≤ a) (h2 : a ≤ 9223372036854775807) : ∃ r : Nat, sqrtF a = (r : Int) ∧ r < 281474976710656 ∧ r * r ≤ a.toNat * 4294967296 ∧ a.toNat * 4294967296 < (r + 1) * (r + 1) := by
  have hlt : a.toNat * 4294967296 < 79228162514264337593543950336 := by omega
  refine ⟨root (a.toNat * 4294967296), by unfold sqrtF; rw [if_neg (by omega)], root_lt _ hlt, root_spec _ hlt⟩
theorem sqrtF_in (a : Int) (h2 : a ≤ 9223372036854775807) : 0 ≤ sqrtF a ∧ sqrtF a < 281474976710656 := by
  by_cases h : a < 1
  · unfold sqrtF; rw [if_pos h]; omega
  · obtain ⟨r, e, h, _⟩ := sqrtF_spec (by omega) h2; rw [e]; omega

theorem rootB_fit (n j r : Nat) (h : (r + 2 ^ j) * (r + 2 ^ j) ≤ n) : rootB n (j + 1) r = rootB n j (r + 2 ^ j) := by
  show (if (r + 2 ^ j) * (r + 2 ^ j) ≤ n then rootB n j (r + 2 ^ j) else rootB n j r) = _
  rw [if_pos h]
theorem rootB_skip (n j r : Nat) (h : ¬ (r + 2 ^ j) * (r + 2 ^ j) ≤ n) : rootB n (j + 1) r = rootB n j r := by
  show (if (r + 2 ^ j) * (r + 2 ^ j) ≤ n then rootB n j (r + 2 ^ j) else rootB n j r) = _
  rw [if_neg h]
theorem rootB_zero (n r : Nat) : rootB n 0 r = r := rfl
theorem rootB_start (n : Nat) : rootB n 48 0 = root n := rfl
theorem split_n (A : Nat) : A * 4294967296 = A / 4294967296 * 18446744073709551616 + A * 4294967296 % 18446744073709551616 := by omega
attribute [irreducible] rootB root

/-! ### sines -/
/-- within half a turn -/
def fold1 (a : Int) : Int := if 13493037704 < a % 26986075409 then a % 26986075409 - 26986075409 else a % 26986075409
/-- within a quarter -/
def fold2 (a : Int) : Int := if 6746518852 < fold1 a then 13493037704 - fold1 a else if fold1 a < -6746518852 then -13493037704 - fold1 a else fold1 a
theorem fold1_in (a : Int) : -13493037704 ≤ fold1 a ∧ fold1 a ≤ 13493037704 := by unfold fold1; split <;> omega
theorem fold2_in (a : Int) : -6746518852 ≤ fold2 a ∧ fold2 a ≤ 6746518852 := by
  have := fold1_in a
  unfold fold2; split <;> (try split) <;> omega
def sinS (q s k : Int) : Int := 4294967296 - mulF q s / k
def sinQ (r : Int) : Int := mulF r r
def sin0 (r : Int) : Int := 4294967296 - sinQ r / 72
def sin1 (r : Int) : Int := 4294967296 - mulF (sinQ r) (sin0 r) / 42
def sin2 (r : Int) : Int := 4294967296 - mulF (sinQ r) (sin1 r) / 20
def sin3 (r : Int) : Int := 4294967296 - mulF (sinQ r) (sin2 r) / 6
def sin4 (r : Int) : Int := mulF r (sin3 r)
def cut1 (x : Int) : Int := if x < -4294967296 then -4294967296 else if 4294967296 < x then 4294967296 else x
def sinF (a : Int) : Int := cut1 (sin4 (fold2 a))
def cosF (a : Int) : Int := sinF (addF a 6746518852)
theorem sinF_in (a : Int) : -4294967296 ≤ sinF a ∧ sinF a ≤ 4294967296 := by unfold sinF cut1; split <;> (try split) <;> omega

theorem mul_bound {a b A B : Int} (ha0 : 0 ≤ a) (ha : a ≤ A) (hb0 : 0 ≤ b) (hb : b ≤ B) : 0 ≤ a * b ∧ a * b ≤ A * B :=
  ⟨Int.mul_nonneg ha0 hb0, Int.mul_le_mul ha hb hb0 (by omega)⟩
theorem sq_bound {r A : Int} (h1 : -A ≤ r) (h2 : r ≤ A) : 0 ≤ r * r ∧ r * r ≤ A * A := by
  rcases Int.le_total 0 r with h | h
  · exact mul_bound h h2 h h2
  · have := mul_bound (a := -r) (b := -r) (A := A) (B := A) (by omega) (by omega) (by omega) (by omega)
    rw [Int.neg_mul_neg] at this; exact this
theorem sinQ_in {r : Int} (h1 : -6746518852 ≤ r) (h2 : r ≤ 6746518852) : 0 ≤ sinQ r ∧ sinQ r ≤ 10597407030 := by
  have := sq_bound h1 h2
  unfold sinQ mulF
  rw [clamp_id (by omega) (by omega)]
  omega
theorem mulF_small {q s : Int} (h1 : 0 ≤ q) (h2 : q ≤ 10597407030) (h3 : 0 ≤ s) (h4 : s ≤ 4294967296) : 0 ≤ mulF q s ∧ mulF q s ≤ 10597407030 := by
  have := mul_bound h1 h2 h3 h4
  unfold mulF
  rw [clamp_id (by omega) (by omega)]
  omega
theorem sin0_in {r : Int} (h1 : -6746518852 ≤ r) (h2 : r ≤ 6746518852) : 0 ≤ sin0 r ∧ sin0 r ≤ 4294967296 := by
  have := sinQ_in h1 h2; unfold sin0; omega
theorem sin1_in {r : Int} (h1 : -6746518852 ≤ r) (h2 : r ≤ 6746518852) : 0 ≤ sin1 r ∧ sin1 r ≤ 4294967296 := by
  have := sinQ_in h1 h2; have h := sin0_in h1 h2; have := mulF_small this.1 this.2 h.1 h.2; unfold sin1; omega
theorem sin2_in {r : Int} (h1 : -6746518852 ≤ r) (h2 : r ≤ 6746518852) : 0 ≤ sin2 r ∧ sin2 r ≤ 4294967296 := by
  have := sinQ_in h1 h2; have h := sin1_in h1 h2; have := mulF_small this.1 this.2 h.1 h.2; unfold sin2; omega
theorem sin3_in {r : Int} (h1 : -6746518852 ≤ r) (h2 : r ≤ 6746518852) : 0 ≤ sin3 r ∧ sin3 r ≤ 4294967296 := by
  have := sinQ_in h1 h2; have h := sin2_in h1 h2; have := mulF_small this.1 this.2 h.1 h.2; unfold sin3; omega
end Go.Proofs.Ytdaokkgenfpmhaa.FixM

/- The plain arithmetic of a division of 128 bits by 64 (math/bits.Div64: by halves), of a division bit by bit, and of a root by halving its span. No program is named here. -/
set_option linter.unusedVariables false
set_option linter.unusedSimpArgs false
namespace Go.Proofs.Ytdaokkgenfpmhaa.FixD

/-- one half of the division: what the loop's head keeps of the quotient q that it tries and of what is left, r -/
structure Half (yn1 yn0 u un : Nat) (q r : Nat) : Prop where
  sum : q * yn1 + r = u
  up : (u * 4294967296 + un) / (yn1 * 4294967296 + yn0) ≤ q
structure Pre (yn1 yn0 u un : Nat) : Prop where
  h1 : 2147483648 ≤ yn1
  h2 : yn1 < 4294967296
  h3 : yn0 < 4294967296
  h4 : u < yn1 * 4294967296 + yn0
  h5 : un < 4294967296
variable {yn1 yn0 u un q r : Nat}
theorem mulB (a b : Nat) : a * (b * 4294967296) = a * b * 4294967296 := by rw [Nat.mul_assoc]
theorem Half.start (p : Pre yn1 yn0 u un) : Half yn1 yn0 u un (u / yn1) (u % yn1) := by
  obtain ⟨h1, h2, h3, h4, h5⟩ := p
  refine ⟨by rw [Nat.mul_comm]; exact Nat.div_add_mod u yn1, ?_⟩
  rw [Nat.le_div_iff_mul_le (by omega)]
  have hle := Nat.div_mul_le_self (u * 4294967296 + un) (yn1 * 4294967296 + yn0)
  generalize (u * 4294967296 + un) / (yn1 * 4294967296 + yn0) = q' at *
  rw [Nat.mul_add, mulB] at hle
  have : q' * yn1 * 4294967296 < (u + 1) * 4294967296 := by omega
  have := Nat.lt_of_mul_lt_mul_right this
  omega
theorem start_r (p : Pre yn1 yn0 u un) : u % yn1 < 4294967296 := by have := Nat.mod_lt u (show yn1 > 0 by have := p.h1; omega); have := p.h2; omega
theorem start_q (p : Pre yn1 yn0 u un) : u / yn1 ≤ 4294967297 := by
  obtain ⟨h1, h2, h3, h4, h5⟩ := p
  have : u / yn1 < 4294967298 := by
    rw [Nat.div_lt_iff_lt_mul (by omega)]
    omega
  omega
theorem quo_lt (p : Pre yn1 yn0 u un) : (u * 4294967296 + un) / (yn1 * 4294967296 + yn0) < 4294967296 := by
  obtain ⟨h1, h2, h3, h4, h5⟩ := p
  rw [Nat.div_lt_iff_lt_mul (by omega)]
  omega
theorem Half.over (p : Pre yn1 yn0 u un) (h : Half yn1 yn0 u un q r) (hc : 4294967296 ≤ q ∨ 4294967296 * r + un < q * yn0) : (u * 4294967296 + un) / (yn1 * 4294967296 + yn0) < q := by
  rcases hc with hc | hc
  · have := quo_lt p; omega
  · have hs := h.sum
    rw [Nat.div_lt_iff_lt_mul (by have := p.h1; omega)]
    rw [Nat.mul_add, mulB]
    have : (q * yn1 + r) * 4294967296 = u * 4294967296 := by rw [hs]
    rw [Nat.add_mul] at this
    omega
theorem Half.pos (p : Pre yn1 yn0 u un) (h : Half yn1 yn0 u un q r) (hc : 4294967296 ≤ q ∨ 4294967296 * r + un < q * yn0) : 1 ≤ q := Nat.succ_le_of_lt (Nat.lt_of_le_of_lt (Nat.zero_le _) (h.over p hc))
theorem Half.next (p : Pre yn1 yn0 u un) (h : Half yn1 yn0 u un q r) (hc : 4294967296 ≤ q ∨ 4294967296 * r + un < q * yn0) : Half yn1 yn0 u un (q - 1) (r + yn1) := by
  have ho := h.over p hc
  have hs := h.sum
  refine ⟨?_, Nat.le_sub_one_of_lt ho⟩
  have hp := h.pos p hc
  clear ho
  obtain ⟨t, rfl⟩ : ∃ t, q = t + 1 := ⟨q - 1, by omega⟩
  rw [Nat.add_mul] at hs
  simp only [Nat.add_sub_cancel]
  omega
theorem Half.done (p : Pre yn1 yn0 u un) (h : Half yn1 yn0 u un q r) (hc : q * yn0 ≤ 4294967296 * r + un) : q = (u * 4294967296 + un) / (yn1 * 4294967296 + yn0) := by
  refine Nat.le_antisymm ?_ h.up
  have hs := h.sum
  rw [Nat.le_div_iff_mul_le (by have := p.h1; omega)]
  rw [Nat.mul_add, mulB]
  have : (q * yn1 + r) * 4294967296 = u * 4294967296 := by rw [hs]
  rw [Nat.add_mul] at this
  omega
theorem Half.broke (p : Pre yn1 yn0 u un) (h : Half yn1 yn0 u un q r) (hq : q ≤ 4294967296) (hr : 4294967296 ≤ r) : q = (u * 4294967296 + un) / (yn1 * 4294967296 + yn0) := by
  refine h.done p ?_
  have h3 := p.h3
  have : q * yn0 ≤ 4294967296 * 4294967295 := Nat.mul_le_mul hq (by omega)
  omega
theorem q_yn0 (p : Pre yn1 yn0 u un) (hq : q ≤ 4294967297) : q * yn0 ≤ 18446744073709551615 := by
  have h3 := p.h3
  have : q * yn0 ≤ 4294967297 * 4294967295 := Nat.mul_le_mul hq (by omega)
  omega
/-- what is left behind a half -/
theorem left_eq (p : Pre yn1 yn0 u un) (hq : q = (u * 4294967296 + un) / (yn1 * 4294967296 + yn0)) : u * 4294967296 + un = q * (yn1 * 4294967296 + yn0) + (u * 4294967296 + un) % (yn1 * 4294967296 + yn0) := by
  rw [hq]; exact (Nat.div_add_mod' _ _).symm
theorem left_lt (p : Pre yn1 yn0 u un) : (u * 4294967296 + un) % (yn1 * 4294967296 + yn0) < yn1 * 4294967296 + yn0 := Nat.mod_lt _ (by have := p.h1; omega)

/-- both halves together -/
theorem whole_gen (y X B b : Nat) (hy : 0 < y) : (X * B + b) / y = X / y * B + (X % y * B + b) / y ∧ (X * B + b) % y = (X % y * B + b) % y := by
  have e2 : X * B + b = y * (X / y * B) + (X % y * B + b) := by
    have e := Nat.div_add_mod X y
    calc X * B + b = (y * (X / y) + X % y) * B + b := by rw [e]
      _ = _ := by rw [Nat.add_mul, Nat.mul_assoc, Nat.add_assoc]
  refine ⟨?_, ?_⟩
  · conv => lhs; rw [e2]
    rw [Nat.mul_add_div hy]
  · conv => lhs; rw [e2]
    rw [Nat.mul_add_mod]
theorem whole_quo (y u a b : Nat) (hy : 0 < y) : ((u * 4294967296 + a) * 4294967296 + b) / y = (u * 4294967296 + a) / y * 4294967296 + ((u * 4294967296 + a) % y * 4294967296 + b) / y ∧
    ((u * 4294967296 + a) * 4294967296 + b) % y = ((u * 4294967296 + a) % y * 4294967296 + b) % y := whole_gen y (u * 4294967296 + a) 4294967296 b hy
/-- turned up by s bits -/
theorem shl_two (hi lo s : Nat) (hs : s < 64) : (hi * 2 ^ s + lo / 2 ^ (64 - s)) * 18446744073709551616 + lo * 2 ^ s % 18446744073709551616 = (hi * 18446744073709551616 + lo) * 2 ^ s := by
  have e : lo * 2 ^ s / 18446744073709551616 = lo / 2 ^ (64 - s) := by
    rw [show (18446744073709551616 : Nat) = 2 ^ (64 - s) * 2 ^ s by rw [← Nat.pow_add, show 64 - s + s = 64 by omega]]
    exact Nat.mul_div_mul_right _ _ (Nat.two_pow_pos s)
  have h := Nat.div_add_mod (lo * 2 ^ s) 18446744073709551616
  rw [e] at h
  rw [Nat.add_mul, Nat.add_mul, Nat.add_assoc, Nat.mul_comm (lo / 2 ^ (64 - s)), h]
  rw [Nat.mul_assoc, Nat.mul_assoc, Nat.mul_comm (2 ^ s)]
theorem shl_quo (N y s : Nat) : N * 2 ^ s / (y * 2 ^ s) = N / y := Nat.mul_div_mul_right _ _ (Nat.two_pow_pos s)
theorem shl_rem (N y s : Nat) : N * 2 ^ s % (y * 2 ^ s) / 2 ^ s = N % y := by
  rw [Nat.mul_mod_mul_right, Nat.mul_div_cancel _ (Nat.two_pow_pos s)]
theorem shl_below (hi lo y s : Nat) (hs : s < 64) (h : hi < y) (hl : lo < 18446744073709551616) : hi * 2 ^ s + lo / 2 ^ (64 - s) < y * 2 ^ s := by
  have h1 : lo / 2 ^ (64 - s) < 2 ^ s := by
    rw [Nat.div_lt_iff_lt_mul (Nat.two_pow_pos _), ← Nat.pow_add, show s + (64 - s) = 64 by omega]; exact hl
  have h2 : (hi + 1) * 2 ^ s ≤ y * 2 ^ s := Nat.mul_le_mul_right _ h
  rw [Nat.add_mul, Nat.one_mul] at h2
  omega

/-! ### one bit more -/
/-- X's bits from i on, divided: the next bit -/
theorem bit_step (Y y : Nat) (b : Nat) (hb : b ≤ 1) (hy : 0 < y) : (2 * Y + b) / y = 2 * (Y / y) + (if y ≤ 2 * (Y % y) + b then 1 else 0) ∧ (2 * Y + b) % y = (if y ≤ 2 * (Y % y) + b then 2 * (Y % y) + b - y else 2 * (Y % y) + b) := by
  have e := Nat.div_add_mod Y y
  have hm := Nat.mod_lt Y hy
  generalize Y / y = q at *
  generalize Y % y = r at *
  subst e
  have e2 : 2 * (y * q + r) + b = y * (2 * q) + (2 * r + b) := by rw [Nat.mul_add, Nat.mul_left_comm]; omega
  rw [e2, Nat.mul_add_div hy, Nat.mul_add_mod]
  split
  · rename_i h
    have h3 : 2 * r + b = y * 1 + (2 * r + b - y) := by omega
    have h4 : 2 * r + b - y < y := by omega
    refine ⟨?_, ?_⟩
    · rw [h3, Nat.mul_add_div hy, Nat.div_eq_of_lt h4]
    · rw [h3, Nat.mul_add_mod, Nat.mod_eq_of_lt h4, ← h3]
  · rename_i h
    refine ⟨?_, ?_⟩
    · rw [Nat.div_eq_of_lt (by omega)]
    · rw [Nat.mod_eq_of_lt (by omega)]
/-- the bits from i on: those from i + 1 on, and bit i -/
theorem shr_step (X i : Nat) : X / 2 ^ i = 2 * (X / 2 ^ (i + 1)) + X / 2 ^ i % 2 := by
  rw [Nat.pow_succ, ← Nat.div_div_eq_div_mul]; omega
end Go.Proofs.Ytdaokkgenfpmhaa.FixD

/- What layer 1's numbers answer: sums and products do not hang on order, what is greater stays greater, quotients and roots are right within one. Plain arithmetic: no program is named here. -/
set_option linter.unusedVariables false
set_option linter.unusedSimpArgs false
namespace Go.Proofs.Ytdaokkgenfpmhaa.FixP
open FixM

theorem addF_comm (a b : Int) : addF a b = addF b a := by unfold addF; rw [Int.add_comm]
theorem mulF_comm (a b : Int) : mulF a b = mulF b a := by unfold mulF; rw [Int.mul_comm]
theorem addF_mono {a b : Int} (c : Int) (h : a ≤ b) : addF a c ≤ addF b c := clamp_mono (by omega)
theorem subF_anti {a b : Int} (c : Int) (h : a ≤ b) : subF c b ≤ subF c a := clamp_mono (by omega)
theorem negF_anti {a b : Int} (h : a ≤ b) : negF b ≤ negF a := clamp_mono (by omega)
theorem floorF_mono {a b : Int} (h : a ≤ b) : floorF a ≤ floorF b := by unfold floorF; omega
theorem root_mono {n m : Nat} (h : n ≤ m) (hm : m < 79228162514264337593543950336) : root n ≤ root m := by
  have h1 := root_spec n (by omega)
  have h2 := root_spec m hm
  have : root n < root m + 1 := lt_of_sq (by omega)
  omega
theorem sqrtF_mono {a b : Int} (h : a ≤ b) (hb : b ≤ 9223372036854775807) : sqrtF a ≤ sqrtF b := by
  by_cases ha : a < 1
  · have e : sqrtF a = 0 := by unfold sqrtF; rw [if_pos ha]
    have := sqrtF_in b hb
    omega
  · have hb' : ¬ b < 1 := by omega
    unfold sqrtF
    rw [if_neg ha, if_neg hb']
    have := root_mono (n := a.toNat * 4294967296) (m := b.toNat * 4294967296) (by omega) (by omega)
    omega
theorem mulF_mono {a b c : Int} (h : a ≤ b) (hc : 0 ≤ c) : mulF a c ≤ mulF b c := by
  have := Int.mul_le_mul_of_nonneg_right h hc
  exact clamp_mono (by omega)
theorem mulF_anti {a b c : Int} (h : a ≤ b) (hc : c < 0) : mulF b c ≤ mulF a c := by
  have := Int.mul_le_mul_of_nonneg_right h (show (0 : Int) ≤ -c by omega)
  rw [Int.mul_neg, Int.mul_neg] at this
  exact clamp_mono (by omega)
theorem divF_mono {a b c : Int} (h : a ≤ b) (hc : 0 < c) : divF a c ≤ divF b c := by
  unfold divF
  rw [if_neg (by omega), if_pos hc, if_neg (by omega), if_pos hc]
  exact clamp_mono (Int.ediv_le_ediv hc (by omega))
theorem divF_anti {a b c : Int} (h : a ≤ b) (hc : c < 0) : divF b c ≤ divF a c := by
  unfold divF
  rw [if_neg (by omega), if_neg (by omega), if_neg (by omega), if_neg (by omega)]
  exact clamp_mono (Int.ediv_le_ediv (by omega) (by omega))
theorem sub_add {a c : Int} (h1 : -9223372036854775808 ≤ a) (h2 : a ≤ 9223372036854775807) (h3 : -9223372036854775808 < subF a c) (h4 : subF a c < 9223372036854775807) : addF (subF a c) c = a := by
  unfold subF at h3 h4 ⊢
  have e1 : -9223372036854775808 ≤ a - c := by
    rcases Int.lt_or_le (a - c) (-9223372036854775808) with h | h
    · have : clamp (a - c) = -9223372036854775808 := by unfold clamp; rw [if_pos h]
      omega
    · exact h
  have e2 : a - c ≤ 9223372036854775807 := by
    rcases Int.lt_or_le 9223372036854775807 (a - c) with h | h
    · have : clamp (a - c) = 9223372036854775807 := by unfold clamp; rw [if_neg (by omega), if_pos h]
      omega
    · exact h
  have : clamp (a - c) = a - c := clamp_id e1 e2
  rw [this]; unfold addF; rw [clamp_id (by omega) (by omega)]; omega
theorem mulF_one {a : Int} (h1 : -9223372036854775808 ≤ a) (h2 : a ≤ 9223372036854775807) : mulF a 4294967296 = a := by
  unfold mulF; rw [Int.mul_ediv_cancel _ (by decide), clamp_id h1 h2]
theorem divF_one {a : Int} (h1 : -9223372036854775808 ≤ a) (h2 : a ≤ 9223372036854775807) : divF a 4294967296 = a := by
  unfold divF; rw [if_neg (by decide), if_pos (by decide), Int.mul_ediv_cancel _ (by decide), clamp_id h1 h2]
theorem addF_zero {a : Int} (h1 : -9223372036854775808 ≤ a) (h2 : a ≤ 9223372036854775807) : addF a 0 = a := by
  unfold addF; rw [Int.add_zero, clamp_id h1 h2]
theorem mulF_zero (a : Int) : mulF a 0 = 0 := by unfold mulF; rw [Int.mul_zero]; rfl

/-- a quotient times what it was divided by -/
theorem div_mul {x y : Int} (hx1 : -17592186044416 ≤ x) (hx2 : x ≤ 17592186044416) (hy : 1048576 ≤ y) (hy2 : y ≤ 17592186044416) :
    -144115188075855872 ≤ divF x y ∧ divF x y ≤ 72057594037927936 ∧ mulF (divF x y) y ≤ x ∧ x ≤ mulF (divF x y + 1) y := by
  have e := Int.mul_ediv_add_emod (x * 4294967296) y
  have m0 := Int.emod_nonneg (x * 4294967296) (show y ≠ 0 by omega)
  have m1 := Int.emod_lt_of_pos (x * 4294967296) (show 0 < y by omega)
  have hq1 : -72057594037927936 ≤ x * 4294967296 / y := by
    rw [Int.le_ediv_iff_mul_le (by omega)]
    have := Int.mul_le_mul_of_nonneg_left hy (show (0 : Int) ≤ 72057594037927936 by decide)
    rw [Int.neg_mul]; omega
  have hq2 : x * 4294967296 / y ≤ 72057594037927936 := by
    have : x * 4294967296 / y < 72057594037927937 := by
      rw [Int.ediv_lt_iff_lt_mul (by omega)]
      have := Int.mul_le_mul_of_nonneg_left hy (show (0 : Int) ≤ 72057594037927937 by decide)
      omega
    omega
  have hv : divF x y = x * 4294967296 / y := by unfold divF; rw [if_neg (by omega), if_pos (by omega), clamp_id (by omega) (by omega)]
  rw [hv]
  generalize x * 4294967296 / y = q at *
  generalize x * 4294967296 % y = r at *
  refine ⟨by omega, hq2, ?_, ?_⟩
  · have : mulF q y = clamp (q * y / 4294967296) := rfl
    rw [this]
    have h1 : q * y / 4294967296 ≤ x := by rw [Int.mul_comm] at e; omega
    exact Int.le_trans (clamp_mono h1) (by rw [clamp_id (by omega) (by omega)]; omega)
  · have : mulF (q + 1) y = clamp ((q + 1) * y / 4294967296) := rfl
    rw [this]
    have h1 : x ≤ (q + 1) * y / 4294967296 := by rw [Int.add_mul, Int.one_mul, Int.mul_comm q y]; omega
    exact Int.le_trans (by rw [clamp_id (by omega) (by omega)]; omega) (clamp_mono h1)
/-- a root times itself -/
theorem root_mul {a : Int} (h1 : 1 ≤ a) (h2 : a ≤ 9223372036854775807) : mulF (sqrtF a) (sqrtF a) ≤ a ∧ a ≤ mulF (sqrtF a + 1) (sqrtF a + 1) := by
  obtain ⟨r, e, hr, h3, h4⟩ := sqrtF_spec h1 h2
  rw [e]
  have h3' : (r : Int) * (r : Int) ≤ a * 4294967296 := by
    have : ((r * r : Nat) : Int) ≤ ((a.toNat * 4294967296 : Nat) : Int) := by omega
    rw [Int.natCast_mul, Int.natCast_mul] at this
    rw [Int.toNat_of_nonneg (by omega)] at this
    exact this
  have h4' : a * 4294967296 < ((r : Int) + 1) * ((r : Int) + 1) := by
    have : ((a.toNat * 4294967296 : Nat) : Int) < (((r + 1) * (r + 1) : Nat) : Int) := by omega
    rw [Int.natCast_mul, Int.natCast_mul] at this
    rw [Int.toNat_of_nonneg (by omega)] at this
    simpa using this
  refine ⟨?_, ?_⟩
  · exact Int.le_trans (clamp_mono (show (r : Int) * r / 4294967296 ≤ a by omega)) (by rw [clamp_id (by omega) (by omega)]; omega)
  · exact Int.le_trans (by rw [clamp_id (by omega) (by omega)]; omega) (clamp_mono (show a ≤ ((r : Int) + 1) * (r + 1) / 4294967296 by omega))
theorem floor_of {m : Int} (h1 : -2147483648 ≤ m) (h2 : m ≤ 2147483647) : floorF (ofF m) = m := by
  unfold floorF ofF; rw [clamp_id (by omega) (by omega)]; omega
end Go.Proofs.Ytdaokkgenfpmhaa.FixP

/- The walks of package fix and of its reference: sums, differences, signs, whole numbers. -/
set_option linter.unusedVariables false
set_option linter.unusedSimpArgs false
namespace Go.Proofs.Ytdaokkgenfpmhaa.FixW
open Go.RowKit FixM Base Num

theorem clamp_top {x : Int} (h : 9223372036854775807 < x) : clamp x = 9223372036854775807 := by unfold clamp; rw [if_neg (by omega), if_pos h]
theorem clamp_bot {x : Int} (h : x < -9223372036854775808) : clamp x = -9223372036854775808 := by unfold clamp; rw [if_pos h]

set_option maxHeartbeats 1000000 in
theorem add_any (a b : Int) (ha1 : -9223372036854775808 ≤ a) (ha2 : a ≤ 9223372036854775807) (hb1 : -9223372036854775808 ≤ b) (hb2 : b ≤ 9223372036854775807) (w : World) :
    Calls Try.prog 38 #[.int .i64 a, .int .i64 b] w fun e w' => e = .returned (.int .i64 (addF a b)) ∧ w = w' := by
  by_cases h1 : 9223372036854775807 < a + b
  · have HV := Lib.hid (show addF a b = _ from clamp_top h1)
    have p0 : 0 < b := by omega
    have p1 : 9223372036854775807 - b < a := by omega
    clear h1
    go_enter Try.func38, Try.ntmps38
    go_wp2_with fail
    go_ret
    exact ⟨ret_int HV.out.symm, rfl⟩
  · by_cases h2 : a + b < -9223372036854775808
    · have HV := Lib.hid (show addF a b = _ from clamp_bot h2)
      have p0 : b < 0 := by omega
      have p1 : a < -9223372036854775808 - b := by omega
      clear h1 h2
      go_enter Try.func38, Try.ntmps38
      go_wp2_with fail
      go_ret
      exact ⟨ret_int HV.out.symm, rfl⟩
    · have HV := Lib.hid (show addF a b = a + b from clamp_id (by omega) (by omega))
      by_cases c0 : 0 < b
      · have p0 : a ≤ 9223372036854775807 - b := by omega
        clear h1 h2
        go_enter Try.func38, Try.ntmps38
        go_wp2_with fail
        go_ret
        exact ⟨ret_int HV.out.symm, rfl⟩
      · skip
        by_cases c1 : b < 0
        · have p0 : -9223372036854775808 - b ≤ a := by omega
          clear h1 h2
          go_enter Try.func38, Try.ntmps38
          go_wp2_with fail
          go_ret
          exact ⟨ret_int HV.out.symm, rfl⟩
        · skip
          have p0 : b = 0 := by omega
          clear h1 h2
          go_enter Try.func38, Try.ntmps38
          go_wp2_with fail
          go_ret
          subst p0
          exact ⟨ret_int (by have h := HV.out; omega), rfl⟩

set_option maxHeartbeats 1000000 in
theorem sub_any (a b : Int) (ha1 : -9223372036854775808 ≤ a) (ha2 : a ≤ 9223372036854775807) (hb1 : -9223372036854775808 ≤ b) (hb2 : b ≤ 9223372036854775807) (w : World) :
    Calls Try.prog 34 #[.int .i64 a, .int .i64 b] w fun e w' => e = .returned (.int .i64 (subF a b)) ∧ w = w' := by
  by_cases h1 : 9223372036854775807 < a - b
  · have HV := Lib.hid (show subF a b = _ from clamp_top h1)
    have p0 : b < 0 := by omega
    have p1 : 9223372036854775807 + b < a := by omega
    clear h1
    go_enter Try.func34, Try.ntmps34
    go_wp2_with fail
    go_ret
    exact ⟨ret_int HV.out.symm, rfl⟩
  · by_cases h2 : a - b < -9223372036854775808
    · have HV := Lib.hid (show subF a b = _ from clamp_bot h2)
      have p0 : 0 < b := by omega
      have p1 : a < -9223372036854775808 + b := by omega
      clear h1 h2
      go_enter Try.func34, Try.ntmps34
      go_wp2_with fail
      go_ret
      exact ⟨ret_int HV.out.symm, rfl⟩
    · have HV := Lib.hid (show subF a b = a - b from clamp_id (by omega) (by omega))
      by_cases c0 : b < 0
      · have p0 : a ≤ 9223372036854775807 + b := by omega
        clear h1 h2
        go_enter Try.func34, Try.ntmps34
        go_wp2_with fail
        go_ret
        exact ⟨ret_int HV.out.symm, rfl⟩
      · skip
        by_cases c1 : 0 < b
        · have p0 : -9223372036854775808 + b ≤ a := by omega
          clear h1 h2
          go_enter Try.func34, Try.ntmps34
          go_wp2_with fail
          go_ret
          exact ⟨ret_int HV.out.symm, rfl⟩
        · skip
          have p0 : b = 0 := by omega
          clear h1 h2
          go_enter Try.func34, Try.ntmps34
          go_wp2_with fail
          go_ret
          subst p0
          exact ⟨ret_int (by have h := HV.out; omega), rfl⟩

set_option maxHeartbeats 1000000 in
theorem neg_any (a : Int) (ha1 : -9223372036854775808 ≤ a) (ha2 : a ≤ 9223372036854775807) (w : World) :
    Calls Try.prog 62 #[.int .i64 a] w fun e w' => e = .returned (.int .i64 (negF a)) ∧ w = w' := by
  by_cases h1 : a = -9223372036854775808
  · subst h1
    go_enter Try.func62, Try.ntmps62
    go_wp2_with fail
    go_ret
    exact ⟨rfl, rfl⟩
  · have HV := Lib.hid (show negF a = -a from clamp_id (by omega) (by omega))
    have p0 : (a == -9223372036854775808) = false := by simp; omega
    have p1 : -9223372036854775808 < a := by omega
    clear h1
    go_enter Try.func62, Try.ntmps62
    go_wp2_with fail
    go_ret
    exact ⟨ret_int (by rw [HV.out]; try omega), rfl⟩

end Go.Proofs.Ytdaokkgenfpmhaa.FixW

/- The walks of package fix and of its reference: signs, sizes, whole numbers, products. -/
set_option linter.unusedVariables false
set_option linter.unusedSimpArgs false
namespace Go.Proofs.Ytdaokkgenfpmhaa.FixV
open Go.RowKit FixM Base Num FixW

set_option maxHeartbeats 1000000 in
theorem size_any (a : Int) (h1 : -9223372036854775808 ≤ a) (h2 : a ≤ 9223372036854775807) (w : World) : Calls Try.prog 43 #[.int .i64 a] w fun e w' => e = .returned (.int .u64 ((a.natAbs : Nat) : Int)) ∧ w = w' := by
  by_cases h : a < 0
  · go_enter Try.func43, Try.ntmps43
    go_wp2_with fail
    go_ret
    refine ⟨ret_int ?_, rfl⟩
    simp only [IntKind.wrap_u64]; omega
  · go_enter Try.func43, Try.ntmps43
    go_wp2_with fail
    go_ret
    refine ⟨ret_int ?_, rfl⟩
    (try simp only [IntKind.wrap_u64]); omega
/-- the function of sizes that signs hands back -/
def toldV (same : Bool) : Value := if same then .func (.func 57) #[] #[] else .func (.func 58) #[] #[]
set_option maxHeartbeats 1000000 in
theorem signs_any (a b : Int) (w : World) : Calls Try.prog 42 #[.int .i64 a, .int .i64 b] w fun e w' => e = .returned (toldV (sameB a b)) ∧ w = w' := by
  by_cases ha : a < 0 <;> by_cases hb : b < 0
  · have HV := Lib.hid (show sameB a b = true by unfold sameB; rw [decide_eq_true ha, decide_eq_true hb]; rfl)
    go_enter Try.func42, Try.ntmps42
    go_wp2_with fail
    go_ret
    exact ⟨by rw [HV.out]; rfl, rfl⟩
  · have HV := Lib.hid (show sameB a b = false by unfold sameB; rw [decide_eq_true ha, decide_eq_false hb]; rfl)
    go_enter Try.func42, Try.ntmps42
    go_wp2_with fail
    go_ret
    exact ⟨by rw [HV.out]; rfl, rfl⟩
  · have HV := Lib.hid (show sameB a b = false by unfold sameB; rw [decide_eq_false ha, decide_eq_true hb]; rfl)
    go_enter Try.func42, Try.ntmps42
    go_wp2_with fail
    go_ret
    exact ⟨by rw [HV.out]; rfl, rfl⟩
  · have HV := Lib.hid (show sameB a b = true by unfold sameB; rw [decide_eq_false ha, decide_eq_false hb]; rfl)
    go_enter Try.func42, Try.ntmps42
    go_wp2_with fail
    go_ret
    exact ⟨by rw [HV.out]; rfl, rfl⟩
set_option maxHeartbeats 1000000 in
theorem told1_any (hi lo : Nat) (rest : Bool) (hl : lo < 18446744073709551616) (w : World) : Calls Try.prog 57 #[.int .u64 (hi : Int), .int .u64 (lo : Int), .bool rest] w fun e w' => e = .returned (.int .i64 (told true hi lo rest)) ∧ w = w' := by
  by_cases h1 : hi = 0
  · by_cases h2 : 9223372036854775807 < lo
    · have HV := Lib.hid (show told true hi lo rest = 9223372036854775807 by unfold told; rw [if_pos rfl, if_pos (Or.inr h2)])
      have b1 : ((hi : Int) != 0) = false := by simp; omega
      clear h1
      go_enter Try.func57, Try.ntmps57
      go_wp2_with fail
      go_ret
      exact ⟨ret_int HV.out.symm, rfl⟩
    · have HV := Lib.hid (show told true hi lo rest = (lo : Int) by unfold told; rw [if_pos rfl, if_neg (by omega)])
      have b1 : ((hi : Int) != 0) = false := by simp; omega
      clear h1
      go_enter Try.func57, Try.ntmps57
      go_wp2_with fail
      go_ret
      exact ⟨ret_int (by rw [HV.out]; try omega), rfl⟩
  · have HV := Lib.hid (show told true hi lo rest = 9223372036854775807 by unfold told; rw [if_pos rfl, if_pos (Or.inl h1)])
    have b1 : ((hi : Int) != 0) = true := by simp; omega
    clear h1
    go_enter Try.func57, Try.ntmps57
    go_wp2_with fail
    go_ret
    exact ⟨ret_int HV.out.symm, rfl⟩
set_option maxHeartbeats 1000000 in
theorem told2_any (hi lo : Nat) (rest : Bool) (hl : lo < 18446744073709551616) (w : World) : Calls Try.prog 58 #[.int .u64 (hi : Int), .int .u64 (lo : Int), .bool rest] w fun e w' => e = .returned (.int .i64 (told false hi lo rest)) ∧ w = w' := by
  by_cases h1 : hi = 0
  · by_cases h2 : 9223372036854775807 < lo
    · have HV := Lib.hid (show told false hi lo rest = -9223372036854775808 by unfold told; rw [if_neg (by decide), if_pos (Or.inr h2)])
      have b1 : ((hi : Int) != 0) = false := by simp; omega
      clear h1
      go_enter Try.func58, Try.ntmps58
      go_wp2_with fail
      go_ret
      exact ⟨ret_int HV.out.symm, rfl⟩
    · have HV := Lib.hid (show told false hi lo rest = -(lo : Int) - (if rest then 1 else 0) by unfold told; rw [if_neg (by decide), if_neg (by omega)])
      have b1 : ((hi : Int) != 0) = false := by simp; omega
      clear h1
      cases rest
      · go_enter Try.func58, Try.ntmps58
        go_wp2_with fail
        go_ret
        exact ⟨ret_int (by rw [HV.out]; simp), rfl⟩
      · go_enter Try.func58, Try.ntmps58
        go_wp2_with fail
        go_ret
        exact ⟨ret_int (by rw [HV.out]; simp), rfl⟩
  · have HV := Lib.hid (show told false hi lo rest = -9223372036854775808 by unfold told; rw [if_neg (by decide), if_pos (Or.inl h1)])
    have b1 : ((hi : Int) != 0) = true := by simp; omega
    clear h1
    go_enter Try.func58, Try.ntmps58
    go_wp2_with fail
    go_ret
    exact ⟨ret_int HV.out.symm, rfl⟩

theorem maskN (a : Nat) (ha : a < 18446744073709551616) : bits .and .u64 (a : Int) 4294967295 = ((a % 4294967296 : Nat) : Int) := by
  have h := bits_and_u64_nat a 4294967295 ha (by omega)
  have e : a &&& 4294967295 = a % 4294967296 := Nat.and_two_pow_sub_one_eq_mod a 32
  rw [e] at h
  exact h
theorem divN (a : Nat) : (a : Int) / 4294967296 = ((a / 4294967296 : Nat) : Int) := by omega
theorem wrapN (a : Nat) (ha : a < 18446744073709551616) : IntKind.u64.wrap (a : Int) = (a : Int) := by rw [IntKind.wrap_u64]; omega
set_option maxHeartbeats 1000000 in
theorem mul64_any (x y : Nat) (hx : x < 18446744073709551616) (hy : y < 18446744073709551616) (w : World) :
    Calls Try.prog 70 #[.int .u64 (x : Int), .int .u64 (y : Int)] w fun e w' => e = .returned (.tuple #[.int .u64 ((x * y / 18446744073709551616 : Nat) : Int), .int .u64 ((x * y % 18446744073709551616 : Nat) : Int)]) ∧ w = w' := by
  obtain ⟨bd, bt, bw, hhi⟩ := Lib.mul64_hi x y hx hy
  have ba := Lib.half_mul_le (a := x / 4294967296) (b := y / 4294967296) (by omega) (by omega)
  have bb := Lib.half_mul_le (a := x / 4294967296) (b := y % 4294967296) (by omega) (by omega)
  have bc := Lib.half_mul_le (a := x % 4294967296) (b := y / 4294967296) (by omega) (by omega)
  have ba' : x / 4294967296 * (y / 4294967296) < 18446744073709551616 := by omega
  have bb' : x / 4294967296 * (y % 4294967296) < 18446744073709551616 := by omega
  have bc' : x % 4294967296 * (y / 4294967296) < 18446744073709551616 := by omega
  have bh1 : x / 4294967296 * (y / 4294967296) + (x / 4294967296 * (y % 4294967296) + x % 4294967296 * (y % 4294967296) / 4294967296) / 4294967296 < 18446744073709551616 := by omega
  have bh : x / 4294967296 * (y / 4294967296) + (x / 4294967296 * (y % 4294967296) + x % 4294967296 * (y % 4294967296) / 4294967296) / 4294967296 + ((x / 4294967296 * (y % 4294967296) + x % 4294967296 * (y % 4294967296) / 4294967296) % 4294967296 + x % 4294967296 * (y / 4294967296)) / 4294967296 < 18446744073709551616 := by omega
  go_enter Try.func70, Try.ntmps70
  go_wp2
  simp only [maskN x hx, maskN y hy, divN, natMul, natAdd, wrapN _ bd, wrapN _ bb', wrapN _ bt, maskN _ bt, wrapN _ bc', wrapN _ bw, wrapN _ ba', wrapN _ bh1, wrapN _ bh, wrap64u (x * y)]
  rw [hhi]
  go_ret2
  exact ⟨rfl, rfl⟩
end Go.Proofs.Ytdaokkgenfpmhaa.FixV

/- The walks of package fix and of its reference: products, whole numbers. -/
set_option linter.unusedVariables false
set_option linter.unusedSimpArgs false
namespace Go.Proofs.Ytdaokkgenfpmhaa.FixU
open Go.RowKit FixM Base Num FixW FixV

theorem u64_or_nat (a b : Nat) (ha : a < 18446744073709551616) (hb : b < 18446744073709551616) : bits .or .u64 (a : Int) (b : Int) = ((a ||| b : Nat) : Int) :=
  (bits_nat .u64 64 (by decide) (fun n h0 h1 => by rw [IntKind.wrap_u64]; omega) a b (by omega) (by omega)).2
theorem or_halves (hi lo : Nat) (hl : lo < 18446744073709551616) : bits .or .u64 (IntKind.u64.wrap ((hi : Int) * 4294967296)) ((lo : Int) / 4294967296) = ((hi % 4294967296 * 4294967296 + lo / 4294967296 : Nat) : Int) := by
  have e1 : IntKind.u64.wrap ((hi : Int) * 4294967296) = ((hi % 4294967296 * 4294967296 : Nat) : Int) := by rw [IntKind.wrap_u64]; omega
  have e2 : (lo : Int) / 4294967296 = ((lo / 4294967296 : Nat) : Int) := by omega
  rw [e1, e2, u64_or_nat _ _ (by omega) (by omega)]
  have := or_disjoint (hi % 4294967296) (lo / 4294967296) 32 (by show _ < 4294967296; omega)
  rw [show (2 : Nat) ^ 32 = 4294967296 from rfl] at this
  rw [this]
theorem mul_args (X hi lo : Nat) (h1 : hi = X / 18446744073709551616) (h2 : lo = X % 18446744073709551616) :
    (hi : Int) / 4294967296 = ((X / 4294967296 / 18446744073709551616 : Nat) : Int) ∧
    bits .or .u64 (IntKind.u64.wrap ((hi : Int) * 4294967296)) ((lo : Int) / 4294967296) = ((X / 4294967296 % 18446744073709551616 : Nat) : Int) ∧
    (IntKind.u64.wrap ((lo : Int) * 4294967296) != 0) = decide (X % 4294967296 ≠ 0) := by
  refine ⟨by omega, ?_, ?_⟩
  · rw [or_halves hi lo (by omega)]; omega
  · rw [IntKind.wrap_u64, Bool.eq_iff_iff, bne_iff_ne, decide_eq_true_iff]; omega
set_option maxHeartbeats 1000000 in
theorem mul_any (a b : Int) (ha1 : -9223372036854775808 ≤ a) (ha2 : a ≤ 9223372036854775807) (hb1 : -9223372036854775808 ≤ b) (hb2 : b ≤ 9223372036854775807) (w : World) : Calls Try.prog 60 #[.int .i64 a, .int .i64 b] w fun e w' => e = .returned (.int .i64 (mulF a b)) ∧ w = w' := by
  have ht := mulF_told a b
  have m1 := mul64_any a.natAbs b.natAbs (by omega) (by omega) w
  obtain ⟨X, hX⟩ : ∃ X, X = a.natAbs * b.natAbs := ⟨_, rfl⟩
  rw [← hX] at ht m1
  obtain ⟨hi, hhi⟩ : ∃ hi, hi = X / 18446744073709551616 := ⟨_, rfl⟩
  obtain ⟨lo, hlo⟩ : ∃ lo, lo = X % 18446744073709551616 := ⟨_, rfl⟩
  rw [← hhi, ← hlo] at m1
  have bhi : hi < 18446744073709551616 := by
    have : a.natAbs * b.natAbs ≤ 9223372036854775808 * 9223372036854775808 := Nat.mul_le_mul (by omega) (by omega)
    omega
  have blo : lo < 18446744073709551616 := by omega
  have T := Lib.hid ht
  have M1 := Lib.hid m1
  have HX := Lib.hid (And.intro hhi hlo)
  clear ht m1 hX hhi hlo
  cases hs : sameB a b
  all_goals
    have HS := Lib.hid hs
    clear hs
    go_enter Try.func60, Try.ntmps60
    go_wp2_with fail
    refine (signs_any a b _).mono ?_
    rintro e w1 ⟨rfl, rfl⟩
    rw [HS.out]
    unfold toldV
    simp only [if_true, if_false, Bool.false_eq_true]
    go_wp2_with fail
    refine (size_any a ha1 ha2 _).mono ?_
    rintro e w1 ⟨rfl, rfl⟩
    go_wp2_with fail
    refine (size_any b hb1 hb2 _).mono ?_
    rintro e w1 ⟨rfl, rfl⟩
    go_wp2_with fail
    refine M1.out.mono ?_
    rintro e w1 ⟨rfl, rfl⟩
    go_wp2_with fail
    obtain ⟨eA, eB, eC⟩ := mul_args X hi lo HX.out.1 HX.out.2
    rw [eA, eB, eC]
    clear eA eB eC
    (first | (with_reducible refine (told1_any _ _ _ (Nat.mod_lt _ (by decide)) _).mono ?_) | (with_reducible refine (told2_any _ _ _ (Nat.mod_lt _ (by decide)) _).mono ?_))
    rintro e w1 ⟨rfl, rfl⟩
    have HT := T.out
    rw [HS.out] at HT
    rw [HT]
    clear HT
    go_wp2_with fail
    go_ret
    exact ⟨rfl, rfl⟩
end Go.Proofs.Ytdaokkgenfpmhaa.FixU

/- The walks of layer 1's reference: numbers brought in, products by halves, whole numbers. -/
set_option linter.unusedVariables false
set_option linter.unusedSimpArgs false
namespace Go.Proofs.Ytdaokkgenfpmhaa.FixT
open Go.RowKit FixM Base Num FixW FixV FixU

theorem lo_eq (A B : Nat) : IntKind.u64.wrap (IntKind.u64.wrap ((A : Int) * 4294967296) + ((B % 4294967296 : Nat) : Int)) = ((A % 4294967296 * 4294967296 + B % 4294967296 : Nat) : Int) := by
  rw [IntKind.wrap_u64, IntKind.wrap_u64]; omega
theorem prod_split (a b c d : Nat) (ha : a < 4294967296) (hb : b < 4294967296) (hc : c < 4294967296) (hd : d < 4294967296) :
    a * d + b * d / 4294967296 < 18446744073709551616 ∧ b * c + (a * d + b * d / 4294967296) % 4294967296 < 18446744073709551616 ∧
    a * c + (a * d + b * d / 4294967296) / 4294967296 < 18446744073709551616 ∧
    a * c + (a * d + b * d / 4294967296) / 4294967296 + (b * c + (a * d + b * d / 4294967296) % 4294967296) / 4294967296 = (a * 4294967296 + b) * (c * 4294967296 + d) / 18446744073709551616 ∧
    (b * c + (a * d + b * d / 4294967296) % 4294967296) % 4294967296 * 4294967296 + b * d % 4294967296 = (a * 4294967296 + b) * (c * 4294967296 + d) % 18446744073709551616 ∧
    (a * 4294967296 + b) * (c * 4294967296 + d) / 18446744073709551616 < 18446744073709551616 := by
  have e : (a * 4294967296 + b) * (c * 4294967296 + d) = a * c * 18446744073709551616 + a * d * 4294967296 + b * c * 4294967296 + b * d := by
    rw [Nat.add_mul, Nat.mul_add, Nat.mul_add, Nat.mul_mul_mul_comm, Nat.mul_right_comm a 4294967296 d, ← Nat.mul_assoc b c]
    omega
  have h1 := Lib.half_mul_le (a := a) (b := c) (by omega) (by omega)
  have h2 := Lib.half_mul_le (a := a) (b := d) (by omega) (by omega)
  have h3 := Lib.half_mul_le (a := b) (b := c) (by omega) (by omega)
  have h4 := Lib.half_mul_le (a := b) (b := d) (by omega) (by omega)
  rw [e]
  generalize a * c = p at *
  generalize a * d = q at *
  generalize b * c = r at *
  generalize b * d = s at *
  clear e
  omega
end Go.Proofs.Ytdaokkgenfpmhaa.FixT

/- The walks of layer 1: sines, both sides; the reference's products and whole numbers. -/
set_option linter.unusedVariables false
set_option linter.unusedSimpArgs false
namespace Go.Proofs.Ytdaokkgenfpmhaa.FixS
open Go.RowKit FixM Base Num FixW FixV FixU FixT

theorem tmod_cases (a T : Int) (hT : 0 < T) : (a.tmod T = a % T ∧ 0 ≤ a.tmod T) ∨ (a.tmod T < 0 ∧ a.tmod T + T = a % T) := by
  by_cases hneg : a.tmod T < 0
  · refine .inr ⟨hneg, ?_⟩
    have hm := Int.emod_nonneg a (show T ≠ 0 by omega)
    rw [Int.tmod_eq_emod] at hneg ⊢
    split at hneg
    · omega
    · rename_i h; rw [if_neg h]; omega
  · refine .inl ⟨?_, by omega⟩
    have hm := Int.emod_lt_of_pos a hT
    rw [Int.tmod_eq_emod] at hneg ⊢
    split
    · simp
    · rename_i h; rw [if_neg h] at hneg; omega
theorem rmul_args (X hi lo : Nat) (h1 : hi = X / 18446744073709551616) (h2 : lo = X % 18446744073709551616) :
    (hi : Int) / 4294967296 = ((X / 4294967296 / 18446744073709551616 : Nat) : Int) ∧
    IntKind.u64.wrap (IntKind.u64.wrap ((hi : Int) * 4294967296) + (lo : Int) / 4294967296) = ((X / 4294967296 % 18446744073709551616 : Nat) : Int) ∧
    (bits BinOp.and .u64 (lo : Int) 4294967295 != 0) = decide (X % 4294967296 ≠ 0) := by
  refine ⟨by omega, ?_, ?_⟩
  · rw [IntKind.wrap_u64, IntKind.wrap_u64]; omega
  · rw [maskN lo (by omega), Bool.eq_iff_iff, bne_iff_ne, decide_eq_true_iff]; omega
theorem of_told (n : Int) (b : Bool) (hb : b = decide (n < 0)) : told (!b) (n.natAbs * 4294967296 / 18446744073709551616) (n.natAbs * 4294967296 % 18446744073709551616) false = ofF n := by
  rw [told_clamp, hb]
  unfold ofF
  congr 1
  by_cases h : n < 0
  · rw [decide_eq_true h]; simp; omega
  · rw [decide_eq_false h]; simp; omega
end Go.Proofs.Ytdaokkgenfpmhaa.FixS

/- The walks of math/bits: Len64, LeadingZeros64. -/
set_option linter.unusedVariables false
set_option linter.unusedSimpArgs false
namespace Go.Proofs.Ytdaokkgenfpmhaa.FixL
open Go.RowKit Base

theorem bitLenAux_spec : ∀ (f x : Nat), x < 2 ^ f → Lib.bitLenAux f x ≤ f ∧ x < 2 ^ Lib.bitLenAux f x ∧ (x ≠ 0 → 1 ≤ Lib.bitLenAux f x ∧ 2 ^ (Lib.bitLenAux f x - 1) ≤ x) := by
  intro f
  induction f with
  | zero => intro x h; simp only [Nat.pow_zero] at h; exact ⟨Nat.le_refl _, by simpa [Lib.bitLenAux] using h, fun h0 => absurd (by omega) h0⟩
  | succ f ih =>
    intro x h
    unfold Lib.bitLenAux
    by_cases h0 : x = 0
    · rw [if_pos h0]; exact ⟨by omega, by simp [h0], fun h => absurd h0 h⟩
    · rw [if_neg h0]
      obtain ⟨i1, i2, i3⟩ := ih (x / 2) (by rw [Nat.pow_succ] at h; omega)
      refine ⟨by omega, ?_, fun _ => ⟨by omega, ?_⟩⟩
      · rw [Nat.add_comm, Nat.pow_succ]; omega
      · rw [show 1 + Lib.bitLenAux f (x / 2) - 1 = Lib.bitLenAux f (x / 2) by omega]
        by_cases h1 : x / 2 = 0
        · have : Lib.bitLenAux f (x / 2) = 0 := by
            rw [h1]; cases f with
            | zero => rfl
            | succ f => unfold Lib.bitLenAux; simp
          rw [this]; simp; omega
        · obtain ⟨j1, j2⟩ := i3 h1
          have e : 2 ^ Lib.bitLenAux f (x / 2) = 2 ^ (Lib.bitLenAux f (x / 2) - 1) * 2 := by rw [← Nat.pow_succ]; congr 1; omega
          rw [e]; omega
/-- how many zeros lead -/
def lz (y : Nat) : Nat := 64 - Lib.bitLen y
theorem lz_spec {y : Nat} (h1 : 1 ≤ y) (h2 : y < 18446744073709551616) : lz y ≤ 63 ∧ 9223372036854775808 ≤ y * 2 ^ lz y ∧ y * 2 ^ lz y < 18446744073709551616 := by
  obtain ⟨a, b, c⟩ := bitLenAux_spec 64 y (by simpa using h2)
  obtain ⟨c1, c2⟩ := c (by omega)
  have e : lz y = 64 - Lib.bitLenAux 64 y := rfl
  rw [e]
  refine ⟨by omega, ?_, ?_⟩
  · calc (9223372036854775808 : Nat) = 2 ^ (Lib.bitLenAux 64 y - 1) * 2 ^ (64 - Lib.bitLenAux 64 y) := by rw [← Nat.pow_add, show Lib.bitLenAux 64 y - 1 + (64 - Lib.bitLenAux 64 y) = 63 by omega]
      _ ≤ _ := Nat.mul_le_mul_right _ c2
  · calc y * 2 ^ (64 - Lib.bitLenAux 64 y) < 2 ^ Lib.bitLenAux 64 y * 2 ^ (64 - Lib.bitLenAux 64 y) := Nat.mul_lt_mul_of_pos_right b (Nat.two_pow_pos _)
      _ = 18446744073709551616 := by rw [← Nat.pow_add, show Lib.bitLenAux 64 y + (64 - Lib.bitLenAux 64 y) = 64 by omega]
theorem tab_at (i : Int) (h0 : 0 ≤ i) (h1 : i ≤ 255) : ∃ b : Nat, b ≤ 8 ∧ Lib.bitLen i.toNat = b ∧ ∀ w, (Instr.index 9 (.string Lib.len8tab) (.int .u8 i)).run Try.prog w = .ok (.int .u8 (b : Int)) w := by
  refine ⟨Lib.bitLen i.toNat, Lib.bitLen_le8' i h0 h1, rfl, fun w => ?_⟩
  rw [Lib.run_index_len8tab w 9 .u8 i Try.underlying9 h0 h1, Lib.len8_of i h0 h1]
set_option maxHeartbeats 4000000 in
set_option maxRecDepth 100000 in
theorem len64_any (x : Int) (w : World) (h0 : 0 ≤ x) (h1 : x ≤ 18446744073709551615) :
    Calls Try.prog 69 #[.int .u64 x] w fun e w' => e = .returned (.int .i64 (Lib.bitLen x.toNat)) ∧ w' = w := by
  by_cases c0 : 4294967296 ≤ x
  · have d0 : 0 ≤ x / 4294967296 := by omega
    by_cases c1 : 65536 ≤ x / 4294967296
    · have d1 : 0 ≤ x / 4294967296 / 65536 := by omega
      by_cases c2 : 256 ≤ x / 4294967296 / 65536
      · have d2 : 0 ≤ x / 4294967296 / 65536 / 256 := by omega
        obtain ⟨b, b1, b2, b3⟩ := tab_at (x / 4294967296 / 65536 / 256) (by omega) (by omega)
        have HB := Lib.hid (show Lib.bitLen x.toNat = 56 + b by rw [Lib.bitLen_shift56 x.toNat (by omega) (by omega), ← b2]; congr 2; omega)
        clear b2
        go_enter Try.func69, Try.ntmps69
        go_wp2_with fail
        go_ret
        exact ⟨ret_int (by rw [HB.out]; try omega), rfl⟩
      · have d2 : x / 4294967296 / 65536 < 256 := by omega
        obtain ⟨b, b1, b2, b3⟩ := tab_at (x / 4294967296 / 65536) (by omega) (by omega)
        have HB := Lib.hid (show Lib.bitLen x.toNat = 48 + b by rw [Lib.bitLen_shift48 x.toNat (by omega) (by omega), ← b2]; congr 2; omega)
        clear b2
        go_enter Try.func69, Try.ntmps69
        go_wp2_with fail
        go_ret
        exact ⟨ret_int (by rw [HB.out]; try omega), rfl⟩
    · have d1 : x / 4294967296 < 65536 := by omega
      by_cases c2 : 256 ≤ x / 4294967296
      · have d2 : 0 ≤ x / 4294967296 / 256 := by omega
        obtain ⟨b, b1, b2, b3⟩ := tab_at (x / 4294967296 / 256) (by omega) (by omega)
        have HB := Lib.hid (show Lib.bitLen x.toNat = 40 + b by rw [Lib.bitLen_shift40 x.toNat (by omega) (by omega), ← b2]; congr 2; omega)
        clear b2
        go_enter Try.func69, Try.ntmps69
        go_wp2_with fail
        go_ret
        exact ⟨ret_int (by rw [HB.out]; try omega), rfl⟩
      · have d2 : x / 4294967296 < 256 := by omega
        obtain ⟨b, b1, b2, b3⟩ := tab_at (x / 4294967296) (by omega) (by omega)
        have HB := Lib.hid (show Lib.bitLen x.toNat = 32 + b by rw [Lib.bitLen_shift32 x.toNat (by omega) (by omega), ← b2]; congr 2; omega)
        clear b2
        go_enter Try.func69, Try.ntmps69
        go_wp2_with fail
        go_ret
        exact ⟨ret_int (by rw [HB.out]; try omega), rfl⟩
  · have d0 : x < 4294967296 := by omega
    by_cases c1 : 65536 ≤ x
    · have d1 : 0 ≤ x / 65536 := by omega
      by_cases c2 : 256 ≤ x / 65536
      · have d2 : 0 ≤ x / 65536 / 256 := by omega
        obtain ⟨b, b1, b2, b3⟩ := tab_at (x / 65536 / 256) (by omega) (by omega)
        have HB := Lib.hid (show Lib.bitLen x.toNat = 24 + b by rw [Lib.bitLen_shift24 x.toNat (by omega) (by omega), ← b2]; congr 2; omega)
        clear b2
        go_enter Try.func69, Try.ntmps69
        go_wp2_with fail
        go_ret
        exact ⟨ret_int (by rw [HB.out]; try omega), rfl⟩
      · have d2 : x / 65536 < 256 := by omega
        obtain ⟨b, b1, b2, b3⟩ := tab_at (x / 65536) (by omega) (by omega)
        have HB := Lib.hid (show Lib.bitLen x.toNat = 16 + b by rw [Lib.bitLen_shift16 x.toNat (by omega) (by omega), ← b2]; congr 2; omega)
        clear b2
        go_enter Try.func69, Try.ntmps69
        go_wp2_with fail
        go_ret
        exact ⟨ret_int (by rw [HB.out]; try omega), rfl⟩
    · have d1 : x < 65536 := by omega
      by_cases c2 : 256 ≤ x
      · have d2 : 0 ≤ x / 256 := by omega
        obtain ⟨b, b1, b2, b3⟩ := tab_at (x / 256) (by omega) (by omega)
        have HB := Lib.hid (show Lib.bitLen x.toNat = 8 + b by rw [Lib.bitLen_shift8 x.toNat (by omega) (by omega), ← b2]; congr 2; omega)
        clear b2
        go_enter Try.func69, Try.ntmps69
        go_wp2_with fail
        go_ret
        exact ⟨ret_int (by rw [HB.out]; try omega), rfl⟩
      · have d2 : x < 256 := by omega
        obtain ⟨b, b1, b2, b3⟩ := tab_at (x) (by omega) (by omega)
        have HB := Lib.hid b2
        clear b2
        go_enter Try.func69, Try.ntmps69
        go_wp2_with fail
        go_ret
        exact ⟨ret_int (by rw [HB.out]; try omega), rfl⟩
set_option maxHeartbeats 1000000 in
theorem lz_any (y : Nat) (h1 : 1 ≤ y) (h2 : y < 18446744073709551616) (w : World) : Calls Try.prog 59 #[.int .u64 (y : Int)] w fun e w' => e = .returned (.int .i64 (lz y : Int)) ∧ w = w' := by
  have c := len64_any (y : Int) w (by omega) (by omega)
  have hb := (bitLenAux_spec 64 y (by simpa using h2)).1
  have e : (y : Int).toNat = y := by omega
  rw [e] at c
  have HV := Lib.hid (show (lz y : Int) = 64 - (Lib.bitLen y : Int) by unfold lz; unfold Lib.bitLen at *; omega)
  have hb' : Lib.bitLen y ≤ 64 := hb
  clear hb e
  generalize Lib.bitLen y = b at *
  have C := Lib.hid c
  clear c
  go_enter Try.func59, Try.ntmps59
  go_wp2_with fail
  refine C.out.mono ?_
  rintro e w1 ⟨rfl, rfl⟩
  go_wp2_with fail
  go_ret
  exact ⟨ret_int (by rw [HV.out]), rfl⟩
end Go.Proofs.Ytdaokkgenfpmhaa.FixL

/- The walk of math/bits.Div64. -/
set_option linter.unusedVariables false
set_option linter.unusedSimpArgs false
namespace Go.Proofs.Ytdaokkgenfpmhaa.FixQ
open Go.RowKit FixL FixD FixU FixV Base Num

theorem wrapN' (a b : Nat) (ha : a < 18446744073709551616) : IntKind.u64.wrap ((a : Int) / (b : Int)) = ((a / b : Nat) : Int) := by
  rw [natDiv]; exact wrapN _ (Nat.lt_of_le_of_lt (Nat.div_le_self a b) ha)
/-- what the first steps lay: the dividend turned up by s, by halves -/
theorem up_args (hi lo y s : Nat) (h1 : hi < y) (h2 : lo < 18446744073709551616) (s1 : s ≤ 63) (s3 : y * 2 ^ s < 18446744073709551616) :
    bits .or .u64 (IntKind.u64.wrap ((hi : Int) * 2 ^ s)) ((lo : Int) / 2 ^ (64 - s)) = ((hi * 2 ^ s + lo / 2 ^ (64 - s) : Nat) : Int) ∧
    IntKind.u64.wrap ((lo : Int) * 2 ^ s) = ((lo * 2 ^ s % 18446744073709551616 : Nat) : Int) ∧ hi * 2 ^ s + lo / 2 ^ (64 - s) < y * 2 ^ s := by
  have hb := shl_below hi lo y s (by omega) h1 h2
  refine ⟨?_, ?_, hb⟩
  · have e1 : IntKind.u64.wrap ((hi : Int) * 2 ^ s) = ((hi * 2 ^ s : Nat) : Int) := by
      rw [show (hi : Int) * 2 ^ s = ((hi * 2 ^ s : Nat) : Int) by simp]
      exact wrapN _ (Nat.lt_of_le_of_lt (Nat.le_add_right _ _) (Nat.lt_trans hb s3))
    have e2 : (lo : Int) / 2 ^ (64 - s) = ((lo / 2 ^ (64 - s) : Nat) : Int) := by simp
    rw [e1, e2, u64_or_nat _ _ (Nat.lt_of_le_of_lt (Nat.le_add_right _ _) (Nat.lt_trans hb s3)) (Nat.lt_of_le_of_lt (Nat.div_le_self _ _) h2), or_disjoint hi (lo / 2 ^ (64 - s)) s ?_]
    rw [Nat.div_lt_iff_lt_mul (Nat.two_pow_pos _), ← Nat.pow_add, show s + (64 - s) = 64 by omega]; exact h2
  · rw [show (lo : Int) * 2 ^ s = ((lo * 2 ^ s : Nat) : Int) by simp]
    exact wrap64u _
theorem two_halves (u a b : Nat) : (u * 4294967296 + a) * 4294967296 + b = u * 18446744073709551616 + (a * 4294967296 + b) := by omega
theorem div_fin {hi lo y s u z un1 un0 W un21 Q1 Q0 R : Nat} (hs : s < 64) (hU : u = hi * 2 ^ s + lo / 2 ^ (64 - s)) (hZ : z = lo * 2 ^ s % 18446744073709551616) (hu1 : un1 = z / 4294967296) (hu0 : un0 = z % 4294967296)
    (hW : W = y * 2 ^ s) (hpos : 0 < W) (h21 : un21 = (u * 4294967296 + un1) % W) (hQ1 : Q1 = (u * 4294967296 + un1) / W) (hQ0 : Q0 = (un21 * 4294967296 + un0) / W) (hR : R = (un21 * 4294967296 + un0) % W) :
    Q1 * 4294967296 + Q0 = (hi * 18446744073709551616 + lo) / y ∧ R / 2 ^ s = (hi * 18446744073709551616 + lo) % y := by
  have hz2 : un1 * 4294967296 + un0 = z := by rw [hu1, hu0]; exact Nat.div_add_mod' z 4294967296
  have hN : (u * 4294967296 + un1) * 4294967296 + un0 = (hi * 18446744073709551616 + lo) * 2 ^ s := by
    rw [← shl_two hi lo s hs, ← hU, ← hZ, two_halves, hz2]
  obtain ⟨f1, f2⟩ := whole_quo W u un1 un0 hpos
  rw [hN, ← h21, ← hQ1, ← hQ0, hW, shl_quo] at f1
  rw [hN, ← h21, ← hR, hW] at f2
  refine ⟨f1.symm, ?_⟩
  rw [← f2]
  exact shl_rem _ _ _
set_option maxRecDepth 100000 in
set_option maxHeartbeats 4000000 in
theorem div64_any (hi lo y : Nat) (h1 : hi < y) (h2 : lo < 18446744073709551616) (h3 : y < 18446744073709551616) (w : World) :
    Calls Try.prog 44 #[.int .u64 (hi : Int), .int .u64 (lo : Int), .int .u64 (y : Int)] w fun e w' => e = .returned (.tuple #[.int .u64 (((hi * 18446744073709551616 + lo) / y : Nat) : Int), .int .u64 (((hi * 18446744073709551616 + lo) % y : Nat) : Int)]) ∧ ∃ n, w' = w.drewN n := by
  have y0 : ((y : Int) == 0) = false := by simp; omega
  have y1 : 1 ≤ y := by omega
  have y2 : decide ((y : Int) ≤ (hi : Int)) = false := decide_eq_false (by omega)
  by_cases h0 : hi = 0
  · subst h0
    go_enter Try.func44, Try.ntmps44
    go_wp2_with fail
    go_quiet (fail)
    go_wp2_with fail
    go_ret2
    exact ⟨by simp only [Nat.zero_mul, Nat.zero_add]; rw [wrapN' lo y h2]; rfl, _, rfl⟩
  · have hi0 : ((hi : Int) == 0) = false := by simp; omega
    have hi1 : 1 ≤ hi := by omega
    obtain ⟨s1, s2, s3⟩ := lz_spec y1 h3
    have c1 := lz_any y y1 h3 w
    generalize lz y = s at *
    have e1 : IntKind.u64.wrap ((y : Int) * 2 ^ s) = ((y * 2 ^ s : Nat) : Int) := by
      rw [show (y : Int) * 2 ^ s = ((y * 2 ^ s : Nat) : Int) by simp]; exact wrapN _ s3
    obtain ⟨Y, hY⟩ : ∃ Y, Y = y * 2 ^ s := ⟨_, rfl⟩
    rw [← hY] at e1 s2 s3
    obtain ⟨yn1, hyn1⟩ : ∃ q, q = Y / 4294967296 := ⟨_, rfl⟩
    obtain ⟨yn0, hyn0⟩ : ∃ q, q = Y % 4294967296 := ⟨_, rfl⟩
    have e2 : (Y : Int) / 4294967296 = (yn1 : Int) := by rw [hyn1]; omega
    have e3 : bits .and .u64 (Y : Int) 4294967295 = (yn0 : Int) := by rw [hyn0]; exact maskN Y s3
    have n1 : 2147483648 ≤ yn1 := by omega
    have n2 : yn1 < 4294967296 := by omega
    have n3 : yn0 < 4294967296 := by omega
    obtain ⟨e4, e5, hu⟩ := up_args hi lo y s h1 h2 s1 (by omega)
    obtain ⟨u, hU⟩ : ∃ u, u = hi * 2 ^ s + lo / 2 ^ (64 - s) := ⟨_, rfl⟩
    obtain ⟨z, hZ⟩ : ∃ z, z = lo * 2 ^ s % 18446744073709551616 := ⟨_, rfl⟩
    rw [← hU] at e4 hu
    rw [← hZ] at e5
    rw [← hY] at hu
    have zb : z < 18446744073709551616 := by omega
    obtain ⟨un1, hun1⟩ : ∃ q, q = z / 4294967296 := ⟨_, rfl⟩
    obtain ⟨un0, hun0⟩ : ∃ q, q = z % 4294967296 := ⟨_, rfl⟩
    have e6 : (z : Int) / 4294967296 = (un1 : Int) := by rw [hun1]; omega
    have e7 : bits .and .u64 (z : Int) 4294967295 = (un0 : Int) := by rw [hun0]; exact maskN z zb
    have k1 : un1 < 4294967296 := by omega
    have k0 : un0 < 4294967296 := by omega
    have hYs : Y = yn1 * 4294967296 + yn0 := by omega
    have hpre : Pre yn1 yn0 u un1 := ⟨n1, n2, n3, by omega, k1⟩
    have hst := Half.start hpre
    have hqb := start_q hpre
    have hrb := start_r hpre
    obtain ⟨qa, hqa⟩ : ∃ q, q = u / yn1 := ⟨_, rfl⟩
    obtain ⟨ra, hra⟩ : ∃ q, q = u % yn1 := ⟨_, rfl⟩
    rw [← hqa] at hst hqb
    rw [← hra] at hst hrb
    have hub : u < 18446744073709551616 := by omega
    have e8 : IntKind.u64.wrap ((u : Int) / (yn1 : Int)) = (qa : Int) := by rw [hqa]; exact wrapN' u yn1 hub
    obtain ⟨pa, hpa⟩ : ∃ q, q = qa * yn1 := ⟨_, rfl⟩
    have hsum := hst.sum
    rw [← hpa] at hsum
    have e9 : IntKind.u64.wrap ((qa : Int) * (yn1 : Int)) = (pa : Int) := by rw [natMul, ← hpa]; exact wrapN pa (by omega)
    have e10 : (u : Int) - (pa : Int) = (ra : Int) := by omega
    have C1 := Lib.hid c1
    have HY := Lib.hid (And.intro hY (And.intro hyn1 hyn0))
    have HU := Lib.hid (And.intro hU (And.intro hZ (And.intro hun1 hun0)))
    have HST := Lib.hid hst
    have HP := Lib.hid hpre
    have HYS := Lib.hid hYs
    have S2 := Lib.hid s2
    have S3 := Lib.hid s3
    clear h0 c1 s2 s3 hY hyn1 hyn0 hU hZ hun1 hun0 hst hpre hYs hqa hra hpa hu hub
    go_enter Try.func44, Try.ntmps44
    go_wp2_with fail
    refine C1.out.mono ?_
    rintro e w1 ⟨rfl, rfl⟩
    go_upto_block 0 with (fail)
    clear e1 e2 e3 e4 e5 e6 e7 e8 e9 e10 hsum
    obtain ⟨Q1, hQ1⟩ : ∃ Q, Q = (u * 4294967296 + un1) / (yn1 * 4294967296 + yn0) := ⟨_, rfl⟩
    have HQ1 := Lib.hid hQ1
    clear hQ1
    go_cut [15, 16] (fun q r wc => q = .int .u64 (Q1 : Int) ∧ (∃ r', r = .int .u64 r') ∧ wc = w)
    case first =>
      go_wp2_with fail
      go_loop [15, 16] (fun vq vr => ∃ q r : Nat, q ≤ 4294967297 ∧ r < 4294967296 ∧ vq = .int .u64 (q : Int) ∧ vr = .int .u64 (r : Int) ∧ Hid (Half yn1 yn0 u un1 q r)) (fun v _ => (intOf v).toNat)
      case atStart => exact ⟨qa, ra, hqb, hrb, rfl, rfl, HST⟩
      case round =>
        obtain ⟨q, r, hq, hr, rfl, rfl, HH⟩ := hrel
        have hm := q_yn0 HP.out hq
        obtain ⟨m, hmm⟩ : ∃ m, m = q * yn0 := ⟨_, rfl⟩
        rw [← hmm] at hm
        have em : IntKind.u64.wrap ((q : Int) * (yn0 : Int)) = (m : Int) := by rw [natMul, ← hmm]; exact wrapN m (by omega)
        have HM := Lib.hid hmm
        clear hmm
        have hq' : (q : Int) ≤ 4294967297 := by omega
        have hr' : (r : Int) < 4294967296 := by omega
        have HQ := Lib.hid (And.intro hq hr)
        by_cases c : 4294967296 ≤ q ∨ 4294967296 * r + un1 < m
        · have HN := Lib.hid (HH.out.next HP.out (by rw [← HM.out]; exact c))
          have hpos := HH.out.pos HP.out (by rw [← HM.out]; exact c)
          have EQ1 := Lib.hid (show ((q - 1 : Nat) : Int) = (q : Int) - 1 by omega)
          by_cases c3 : 4294967296 ≤ r + yn1
          · have HB := Lib.hid (HN.out.broke HP.out (by omega) c3)
            have d3 : decide (4294967296 ≤ (r : Int) + (yn1 : Int)) = true := decide_eq_true (by omega)
            by_cases c1 : 4294967296 ≤ q
            · have d1 : decide (4294967296 ≤ (q : Int)) = true := decide_eq_true (by omega)
              clear c c1 c3 hq hr
              go_wp2_with fail
              go_meet
              case rel => exact ⟨by rw [HQ1.out, ← HB.out, EQ1.out], ⟨_, rfl⟩, rfl⟩
            · have d1 : decide (4294967296 ≤ (q : Int)) = false := decide_eq_false (by omega)
              have d2 : decide (4294967296 * (r : Int) + (un1 : Int) < (m : Int)) = true := decide_eq_true (by omega)
              clear c c1 c3 hq hr
              go_wp2_with fail
              go_meet
              case rel => exact ⟨by rw [HQ1.out, ← HB.out, EQ1.out], ⟨_, rfl⟩, rfl⟩
          · have d3 : decide (4294967296 ≤ (r : Int) + (yn1 : Int)) = false := decide_eq_false (by omega)
            have C3 := Lib.hid c3
            by_cases c1 : 4294967296 ≤ q
            · have d1 : decide (4294967296 ≤ (q : Int)) = true := decide_eq_true (by omega)
              clear c c1 c3 hq hr
              go_wp2_with fail
              go_round
              case rel => exact ⟨q - 1, r + yn1, by have := HQ.out; omega, by have := C3.out; omega, by rw [EQ1.out], by go_num, HN⟩
              case measure => simp [intOf]; omega
            · have d1 : decide (4294967296 ≤ (q : Int)) = false := decide_eq_false (by omega)
              have d2 : decide (4294967296 * (r : Int) + (un1 : Int) < (m : Int)) = true := decide_eq_true (by omega)
              clear c c1 c3 hq hr
              go_wp2_with fail
              go_round
              case rel => exact ⟨q - 1, r + yn1, by have := HQ.out; omega, by have := C3.out; omega, by rw [EQ1.out], by go_num, HN⟩
              case measure => simp [intOf]; omega
        · have HB := Lib.hid (HH.out.done HP.out (by rw [← HM.out]; omega))
          have d1 : decide (4294967296 ≤ (q : Int)) = false := decide_eq_false (by omega)
          have d2 : decide (4294967296 * (r : Int) + (un1 : Int) < (m : Int)) = false := decide_eq_false (by omega)
          clear c hq hr
          go_wp2_with fail
          go_meet
          case rel => exact ⟨by rw [HQ1.out, ← HB.out], ⟨_, rfl⟩, rfl⟩
    case rest =>
      obtain ⟨rfl, ⟨r', rfl⟩, rfl⟩ := hcut
      have hQl : Q1 < 4294967296 := by rw [HQ1.out]; exact quo_lt HP.out
      obtain ⟨un21, hun21⟩ : ∃ q, q = (u * 4294967296 + un1) % (yn1 * 4294967296 + yn0) := ⟨_, rfl⟩
      have hle := left_eq HP.out HQ1.out
      rw [← hun21, ← HYS.out] at hle
      have hul : un21 < Y := by rw [hun21, HYS.out]; exact left_lt HP.out
      have hYl : Y < 18446744073709551616 := S3.out
      have e11 : IntKind.u64.wrap (IntKind.u64.wrap (IntKind.u64.wrap ((u : Int) * 4294967296) + (un1 : Int)) - IntKind.u64.wrap ((Q1 : Int) * (Y : Int))) = (un21 : Int) := by
        rw [natMul Q1 Y]
        generalize Q1 * Y = pq at *
        simp only [IntKind.wrap_u64]; omega
      have hpre2 : Pre yn1 yn0 un21 un0 := ⟨n1, n2, n3, by rw [← HYS.out]; exact hul, k0⟩
      have hst := Half.start hpre2
      have hqb2 := start_q hpre2
      have hrb2 := start_r hpre2
      obtain ⟨qb, hqb'⟩ : ∃ q, q = un21 / yn1 := ⟨_, rfl⟩
      obtain ⟨rb, hrb'⟩ : ∃ q, q = un21 % yn1 := ⟨_, rfl⟩
      rw [← hqb'] at hst hqb2
      rw [← hrb'] at hst hrb2
      have e12 : IntKind.u64.wrap ((un21 : Int) / (yn1 : Int)) = (qb : Int) := by rw [hqb']; exact wrapN' un21 yn1 (by omega)
      obtain ⟨pb, hpb⟩ : ∃ q, q = qb * yn1 := ⟨_, rfl⟩
      have hsum := hst.sum
      rw [← hpb] at hsum
      have e13 : IntKind.u64.wrap ((qb : Int) * (yn1 : Int)) = (pb : Int) := by rw [natMul, ← hpb]; exact wrapN pb (by omega)
      have e14 : (un21 : Int) - (pb : Int) = (rb : Int) := by omega
      obtain ⟨Q0, hQ0⟩ : ∃ Q, Q = (un21 * 4294967296 + un0) / (yn1 * 4294967296 + yn0) := ⟨_, rfl⟩
      have HST2 := Lib.hid hst
      have HP2 := Lib.hid hpre2
      have HU21 := Lib.hid hun21
      have HUL := Lib.hid hul
      have HQ0 := Lib.hid hQ0
      clear hun21 hle hst hpre2 hqb' hrb' hpb hQ0 hul
      go_upto_block 2 with (fail)
      clear e11 e12 e13 e14 hsum
      go_cut [18, 16] (fun q r wc' => q = .int .u64 (Q0 : Int) ∧ (∃ r', r = .int .u64 r') ∧ wc' = wc)
      case first =>
        go_wp2_with fail
        go_loop [18, 16] (fun vq vr => ∃ q r : Nat, q ≤ 4294967297 ∧ r < 4294967296 ∧ vq = .int .u64 (q : Int) ∧ vr = .int .u64 (r : Int) ∧ Hid (Half yn1 yn0 un21 un0 q r)) (fun v _ => (intOf v).toNat)
        case atStart => exact ⟨qb, rb, hqb2, hrb2, rfl, rfl, HST2⟩
        case round =>
          obtain ⟨q, r, hq, hr, rfl, rfl, HH⟩ := hrel
          have hm := q_yn0 HP2.out hq
          obtain ⟨m, hmm⟩ : ∃ m, m = q * yn0 := ⟨_, rfl⟩
          rw [← hmm] at hm
          have em : IntKind.u64.wrap ((q : Int) * (yn0 : Int)) = (m : Int) := by rw [natMul, ← hmm]; exact wrapN m (by omega)
          have HM := Lib.hid hmm
          clear hmm
          have hq' : (q : Int) ≤ 4294967297 := by omega
          have hr' : (r : Int) < 4294967296 := by omega
          have HQ := Lib.hid (And.intro hq hr)
          by_cases c : 4294967296 ≤ q ∨ 4294967296 * r + un0 < m
          · have HN := Lib.hid (HH.out.next HP2.out (by rw [← HM.out]; exact c))
            have hpos := HH.out.pos HP2.out (by rw [← HM.out]; exact c)
            have EQ1 := Lib.hid (show ((q - 1 : Nat) : Int) = (q : Int) - 1 by omega)
            by_cases c3 : 4294967296 ≤ r + yn1
            · have HB := Lib.hid (HN.out.broke HP2.out (by omega) c3)
              have d3 : decide (4294967296 ≤ (r : Int) + (yn1 : Int)) = true := decide_eq_true (by omega)
              by_cases c1 : 4294967296 ≤ q
              · have d1 : decide (4294967296 ≤ (q : Int)) = true := decide_eq_true (by omega)
                clear c c1 c3 hq hr
                go_wp2_with fail
                go_meet
                case rel => exact ⟨by rw [HQ0.out, ← HB.out, EQ1.out], ⟨_, rfl⟩, rfl⟩
              · have d1 : decide (4294967296 ≤ (q : Int)) = false := decide_eq_false (by omega)
                have d2 : decide (4294967296 * (r : Int) + (un0 : Int) < (m : Int)) = true := decide_eq_true (by omega)
                clear c c1 c3 hq hr
                go_wp2_with fail
                go_meet
                case rel => exact ⟨by rw [HQ0.out, ← HB.out, EQ1.out], ⟨_, rfl⟩, rfl⟩
            · have d3 : decide (4294967296 ≤ (r : Int) + (yn1 : Int)) = false := decide_eq_false (by omega)
              have C3 := Lib.hid c3
              by_cases c1 : 4294967296 ≤ q
              · have d1 : decide (4294967296 ≤ (q : Int)) = true := decide_eq_true (by omega)
                clear c c1 c3 hq hr
                go_wp2_with fail
                go_round
                case rel => exact ⟨q - 1, r + yn1, by have := HQ.out; omega, by have := C3.out; omega, by rw [EQ1.out], by go_num, HN⟩
                case measure => simp [intOf]; omega
              · have d1 : decide (4294967296 ≤ (q : Int)) = false := decide_eq_false (by omega)
                have d2 : decide (4294967296 * (r : Int) + (un0 : Int) < (m : Int)) = true := decide_eq_true (by omega)
                clear c c1 c3 hq hr
                go_wp2_with fail
                go_round
                case rel => exact ⟨q - 1, r + yn1, by have := HQ.out; omega, by have := C3.out; omega, by rw [EQ1.out], by go_num, HN⟩
                case measure => simp [intOf]; omega
          · have HB := Lib.hid (HH.out.done HP2.out (by rw [← HM.out]; omega))
            have d1 : decide (4294967296 ≤ (q : Int)) = false := decide_eq_false (by omega)
            have d2 : decide (4294967296 * (r : Int) + (un0 : Int) < (m : Int)) = false := decide_eq_false (by omega)
            clear c hq hr
            go_wp2_with fail
            go_meet
            case rel => exact ⟨by rw [HQ0.out, ← HB.out], ⟨_, rfl⟩, rfl⟩
      case rest =>
        obtain ⟨rfl, ⟨r'', rfl⟩, rfl⟩ := hcut
        have hQl0 : Q0 < 4294967296 := by rw [HQ0.out]; exact quo_lt HP2.out
        obtain ⟨R, hR⟩ : ∃ q, q = (un21 * 4294967296 + un0) % (yn1 * 4294967296 + yn0) := ⟨_, rfl⟩
        have hle := left_eq HP2.out HQ0.out
        rw [← hR, ← HYS.out] at hle
        have hul : R < Y := by rw [hR, HYS.out]; exact left_lt HP2.out
        have e15 : IntKind.u64.wrap (IntKind.u64.wrap (IntKind.u64.wrap ((un21 : Int) * 4294967296) + (un0 : Int)) - IntKind.u64.wrap ((Q0 : Int) * (Y : Int))) = (R : Int) := by
          rw [natMul Q0 Y]
          generalize Q0 * Y = pq at *
          simp only [IntKind.wrap_u64]; omega
        have hfin := div_fin (hi := hi) (lo := lo) (y := y) (R := R) (W := Y) (u := u) (z := z) (un1 := un1) (un0 := un0) (un21 := un21) (Q1 := Q1) (Q0 := Q0) (show s < 64 by omega) HU.out.1 HU.out.2.1 HU.out.2.2.1 HU.out.2.2.2 HY.out.1 (show 0 < Y by omega) (by rw [HYS.out]; exact HU21.out) (by rw [HYS.out]; exact HQ1.out) (by rw [HYS.out]; exact HQ0.out) (by rw [HYS.out]; exact hR)
        have HF := Lib.hid hfin
        have HR2 := Lib.hid (show (R : Int) / 2 ^ s = ((R / 2 ^ s : Nat) : Int) by simp)
        clear hfin hle hR hul
        go_wp2_with fail
        rw [HR2.out, HF.out.2, show (Q1 : Int) * 4294967296 + (Q0 : Int) = ((Q1 * 4294967296 + Q0 : Nat) : Int) by simp, HF.out.1]
        go_ret2
        exact ⟨rfl, 0, rfl⟩
end Go.Proofs.Ytdaokkgenfpmhaa.FixQ

/- The walks of layer 1: quotients of the program, roots and cosines of both sides. -/
set_option linter.unusedVariables false
set_option linter.unusedSimpArgs false
namespace Go.Proofs.Ytdaokkgenfpmhaa.FixO
open Go.RowKit FixM FixD Base Num FixW FixV FixU FixT FixS FixQ

theorem quo_args (A B : Nat) (hA : A ≤ 9223372036854775808) (hB : 1 ≤ B) (hB2 : B ≤ 9223372036854775808) :
    ((A / 4294967296 % B) * 18446744073709551616 + A * 4294967296 % 18446744073709551616) / B = A * 4294967296 / B % 18446744073709551616 ∧
    ((A / 4294967296 % B) * 18446744073709551616 + A * 4294967296 % 18446744073709551616) % B = A * 4294967296 % B ∧
    A / 4294967296 / B = A * 4294967296 / B / 18446744073709551616 := by
  have hl : A * 4294967296 % 18446744073709551616 < 18446744073709551616 := Nat.mod_lt _ (by decide)
  have hX : A * 4294967296 = (A / 4294967296) * 18446744073709551616 + A * 4294967296 % 18446744073709551616 := by omega
  obtain ⟨g1, g2⟩ := whole_gen B (A / 4294967296) 18446744073709551616 (A * 4294967296 % 18446744073709551616) (by omega)
  rw [← hX] at g1 g2
  have hq : ((A / 4294967296 % B) * 18446744073709551616 + A * 4294967296 % 18446744073709551616) / B < 18446744073709551616 := by
    rw [Nat.div_lt_iff_lt_mul (by omega)]
    have h1 : A / 4294967296 % B + 1 ≤ B := Nat.mod_lt _ (by omega)
    have h2 := Nat.mul_le_mul_right 18446744073709551616 h1
    rw [Nat.add_mul, Nat.mul_comm B] at h2
    omega
  refine ⟨?_, g2.symm, ?_⟩
  · rw [g1, Nat.mul_add_mod_self_right, Nat.mod_eq_of_lt hq]
  · rw [g1, Nat.mul_comm, Nat.mul_add_div (by decide), Nat.div_eq_of_lt hq, Nat.add_zero]
theorem belowDN (w : World) (n : Nat) : Below w.heap.size w (w.drewN n) := ⟨rfl, rfl, rfl, Nat.le_refl _, fun _ _ => rfl⟩
def Drawn (v : Value) (w : World) (e : Ending) (w' : World) : Prop := e = .returned v ∧ ∃ n, w' = w.drewN n
set_option maxRecDepth 100000 in
set_option maxHeartbeats 2000000 in
theorem div_any (a b : Int) (ha1 : -9223372036854775808 ≤ a) (ha2 : a ≤ 9223372036854775807) (hb1 : -9223372036854775808 ≤ b) (hb2 : b ≤ 9223372036854775807) (w : World) : Calls Try.prog 33 #[.int .i64 a, .int .i64 b] w (Drawn (.int .i64 (divF a b)) w) := by
  by_cases h0 : b = 0
  · subst h0
    by_cases c1 : 0 < a
    · have HV := Lib.hid (show divF a 0 = 9223372036854775807 by unfold divF; rw [if_pos rfl, if_pos c1])
      go_enter Try.func33, Try.ntmps33
      go_wp2_with fail
      go_ret
      exact ⟨ret_int HV.out.symm, 0, rfl⟩
    · by_cases c2 : a < 0
      · have HV := Lib.hid (show divF a 0 = -9223372036854775808 by unfold divF; rw [if_pos rfl, if_neg c1, if_pos c2])
        go_enter Try.func33, Try.ntmps33
        go_wp2_with fail
        go_ret
        exact ⟨ret_int HV.out.symm, 0, rfl⟩
      · have HV := Lib.hid (show divF a 0 = 0 by unfold divF; rw [if_pos rfl, if_neg c1, if_neg c2])
        go_enter Try.func33, Try.ntmps33
        go_wp2_with fail
        go_ret
        exact ⟨ret_int HV.out.symm, 0, rfl⟩
  · have ht := divF_told a b h0
    have b0 : (b == 0) = false := by simpa using h0
    have sa := size_any a ha1 ha2
    have sb := size_any b hb1 hb2
    have hA : a.natAbs ≤ 9223372036854775808 := by omega
    have hB : 1 ≤ b.natAbs := by omega
    have hB2 : b.natAbs ≤ 9223372036854775808 := by omega
    generalize a.natAbs = A at *
    generalize b.natAbs = B at *
    obtain ⟨g1, g2, g3⟩ := quo_args A B hA hB hB2
    obtain ⟨hi, hhi⟩ : ∃ q, q = A / 4294967296 := ⟨_, rfl⟩
    obtain ⟨l, hl⟩ : ∃ q, q = A * 4294967296 % 18446744073709551616 := ⟨_, rfl⟩
    obtain ⟨hr, hhr⟩ : ∃ q, q = hi % B := ⟨_, rfl⟩
    obtain ⟨hq, hhq⟩ : ∃ q, q = hi / B := ⟨_, rfl⟩
    rw [← hhi, ← hl, ← hhr] at g1 g2
    rw [← hhi, ← hhq] at g3
    have hlt : hr < B := by rw [hhr]; exact Nat.mod_lt _ (by omega)
    have d1 := div64_any hr l B hlt (by omega) (by omega)
    rw [g1, g2] at d1
    obtain ⟨Q, hQ⟩ : ∃ Q, Q = A * 4294967296 / B % 18446744073709551616 := ⟨_, rfl⟩
    obtain ⟨R, hR⟩ : ∃ R, R = A * 4294967296 % B := ⟨_, rfl⟩
    rw [← hQ, ← hR] at d1
    rw [← hQ, ← hR, ← g3] at ht
    have e1 : (A : Int) / 4294967296 = (hi : Int) := by rw [hhi]; omega
    have e2 : IntKind.u64.wrap ((A : Int) * 4294967296) = (l : Int) := by rw [IntKind.wrap_u64, hl]; omega
    have e3 : (hi : Int) % (B : Int) = (hr : Int) := by rw [natMod, ← hhr]
    have e4 : IntKind.u64.wrap ((hi : Int) / (B : Int)) = (hq : Int) := by rw [hhq]; exact wrapN' hi B (by omega)
    have e5 : ((R : Int) != 0) = decide (R ≠ 0) := by rw [Bool.eq_iff_iff, bne_iff_ne, decide_eq_true_iff]; omega
    have hb0 : hi < 18446744073709551616 := by omega
    have hb3 : Q < 18446744073709551616 := by rw [hQ]; exact Nat.mod_lt _ (by decide)
    have D1 := Lib.hid d1
    have T := Lib.hid ht
    have SA := Lib.hid sa
    have SB := Lib.hid sb
    clear h0 g1 g2 g3 hhi hl hhr hhq hQ hR d1 ht sa sb
    have T1 := fun w => told1_any hq Q (decide (R ≠ 0)) hb3 w
    have T2 := fun w => told2_any hq Q (decide (R ≠ 0)) hb3 w
    cases hs : sameB a b
    all_goals
      have HS := Lib.hid hs
      have HT1 := Lib.hid T1
      have HT2 := Lib.hid T2
      clear hs T1 T2
      go_enter Try.func33, Try.ntmps33
      go_wp2_with fail
      refine (signs_any a b _).mono ?_
      rintro e w1 ⟨rfl, rfl⟩
      rw [HS.out]
      unfold toldV
      simp only [if_true, if_false, Bool.false_eq_true]
      go_wp2_with fail
      refine (SA.out _).mono ?_
      rintro e w1 ⟨rfl, rfl⟩
      go_wp2_with fail
      refine (SB.out _).mono ?_
      rintro e w1 ⟨rfl, rfl⟩
      go_wp2_with fail
      refine (D1.out _).mono ?_
      rintro e w1 ⟨rfl, n, rfl⟩
      go_wp2_with fail
      rw [show (!decide (R = 0)) = decide (R ≠ 0) by simp]
      (first | (with_reducible refine (HT1.out _).mono ?_) | (with_reducible refine (HT2.out _).mono ?_))
      rintro e w1 ⟨rfl, rfl⟩
      have HT := T.out
      rw [HS.out] at HT
      rw [HT]
      clear HT
      go_wp2_with fail
      go_ret
      exact ⟨rfl, n, rfl⟩
end Go.Proofs.Ytdaokkgenfpmhaa.FixO

/- The walks of layer 1: roots and cosines of both sides. -/
set_option linter.unusedVariables false
set_option linter.unusedSimpArgs false
namespace Go.Proofs.Ytdaokkgenfpmhaa.FixN
open Go.RowKit FixM Base Num FixW FixV FixU FixT FixS

theorem cmp_sq (X n hi lo : Nat) (h : n = hi * 18446744073709551616 + lo) (hl : lo < 18446744073709551616) (hX : X ≤ n) :
    X / 18446744073709551616 < hi ∨ (X / 18446744073709551616 = hi ∧ X % 18446744073709551616 ≤ lo) := by omega
theorem cmp_sq' (X n hi lo : Nat) (h : n = hi * 18446744073709551616 + lo) (hl : lo < 18446744073709551616) (hX : ¬ X ≤ n) :
    hi < X / 18446744073709551616 ∨ (X / 18446744073709551616 = hi ∧ lo < X % 18446744073709551616) := by omega

set_option maxRecDepth 100000 in
set_option maxHeartbeats 4000000 in
theorem sqrt_any (a : Int) (h1 : -9223372036854775808 ≤ a) (h2 : a ≤ 9223372036854775807) (w : World) : Calls Try.prog 61 #[.int .i64 a] w fun e w' => e = .returned (.int .i64 (sqrtF a)) ∧ w = w' := by
  by_cases c0 : a < 1
  · have HV := Lib.hid (show sqrtF a = 0 by unfold sqrtF; rw [if_pos c0])
    go_enter Try.func61, Try.ntmps61
    go_wp2_with fail
    go_ret
    exact ⟨ret_int HV.out.symm, rfl⟩
  · have hv : sqrtF a = ((root (a.toNat * 4294967296) : Nat) : Int) := by unfold sqrtF; rw [if_neg c0]
    obtain ⟨A, hA⟩ : ∃ A : Nat, a = (A : Int) := ⟨a.toNat, by omega⟩
    subst hA
    rw [show ((A : Int)).toNat = A by omega] at hv
    obtain ⟨n, hn⟩ : ∃ n, n = A * 4294967296 := ⟨_, rfl⟩
    rw [← hn] at hv
    obtain ⟨hi, hhi⟩ : ∃ q, q = A / 4294967296 := ⟨_, rfl⟩
    obtain ⟨lo, hlo⟩ : ∃ q, q = A * 4294967296 % 18446744073709551616 := ⟨_, rfl⟩
    have hsplit : n = hi * 18446744073709551616 + lo := by rw [hn, hhi, hlo]; exact split_n A
    have hlb : lo < 18446744073709551616 := by omega
    have hnb : n < 79228162514264337593543950336 := by omega
    have e1 : (A : Int) / 4294967296 = (hi : Int) := by rw [hhi]; omega
    have e2 : IntKind.u64.wrap ((A : Int) * 4294967296) = (lo : Int) := by rw [IntKind.wrap_u64, hlo]; omega
    have HV := Lib.hid hv
    have HN := Lib.hid (And.intro hsplit (And.intro hlb hnb))
    clear hv hn hhi hlo hsplit hnb
    go_enter Try.func61, Try.ntmps61
    go_wp2_with fail
    clear e1 e2
    go_loop [5, 6] (fun vr vb => ∃ k r m : Nat, k ≤ 48 ∧ vr = .int .u64 (r : Int) ∧ vb = .int .u64 ((2 ^ k / 2 : Nat) : Int) ∧ r = m * 2 ^ k ∧ r + 2 ^ k ≤ 281474976710656 ∧ Hid (rootB n k r = root n)) (fun _ v => (intOf v).toNat)
    case atStart => exact ⟨48, 0, 0, by omega, rfl, rfl, by simp, by decide, Lib.hid (rootB_start n)⟩
    case round =>
      obtain ⟨k, r, m, hk, rfl, rfl, hrm, hr2, hroot⟩ := hrel
      cases k with
      | zero =>
        have HR := Lib.hid (show (r : Int) = sqrtF (A : Int) by rw [HV.out, ← hroot.out, rootB_zero])
        have hrb : r < 281474976710656 := by simp at hr2; omega
        clear hrm hr2 hroot
        simp only [Nat.pow_zero, show (1 : Nat) / 2 = 0 from rfl]
        go_wp2_with fail
        go_ret
        exact ⟨ret_int HR.out, rfl⟩
      | succ j =>
        have hp : 2 ^ (j + 1) = 2 * 2 ^ j := by rw [Nat.pow_succ]; omega
        have hp2 : 2 ^ (j + 1) / 2 = 2 ^ j := by rw [hp]; omega
        rw [hp2]
        obtain ⟨b, hb⟩ : ∃ b, b = 2 ^ j := ⟨_, rfl⟩
        have hb1 : 1 ≤ b := by rw [hb]; exact Nat.one_le_two_pow
        have hor : bits .or .u64 (r : Int) (b : Int) = ((r + b : Nat) : Int) := by
          rw [u64_or_nat r b (by omega) (by omega), hrm, or_disjoint m b (j + 1) (by omega)]
        obtain ⟨nx, hnx⟩ : ∃ x, x = r + b := ⟨_, rfl⟩
        rw [← hnx] at hor
        rw [← hb]
        have hnb : nx < 281474976710656 := by omega
        have m1 := mul64_any nx nx (by omega) (by omega) w
        obtain ⟨X, hX⟩ : ∃ X, X = nx * nx := ⟨_, rfl⟩
        rw [← hX] at m1
        obtain ⟨H, hH⟩ : ∃ H, H = X / 18446744073709551616 := ⟨_, rfl⟩
        obtain ⟨L, hL⟩ : ∃ L, L = X % 18446744073709551616 := ⟨_, rfl⟩
        rw [← hH, ← hL] at m1
        have M1 := Lib.hid m1
        have NX := Lib.hid (And.intro hnx (And.intro hrm (And.intro hr2 (And.intro hp hb))))
        have hrl : r < 281474976710656 := by omega
        have hbl : b < 281474976710656 := by omega
        have hlt : L < 18446744073709551616 := by omega
        by_cases fits : X ≤ n
        · have HR := Lib.hid (show rootB n j nx = root n by rw [← hroot.out, rootB_fit n j r (by rw [← hb, ← hnx, ← hX]; exact fits), ← hb, ← hnx])
          have hc := cmp_sq X n hi lo HN.out.1 hlb fits
          rw [← hH, ← hL] at hc
          have REL := Lib.hid (show ∃ m' : Nat, nx = m' * 2 ^ j ∧ nx + 2 ^ j ≤ 281474976710656 from ⟨2 * m + 1, by rw [hnx, hrm, hp, Nat.add_mul, ← hb]; rw [Nat.mul_left_comm, ← Nat.mul_assoc]; omega, by rw [← hb]; omega⟩)
          clear fits m1 hX hH hL hrm hr2 hp hp2 hnx hroot hb
          rcases hc with hc | ⟨hc, hc2⟩
          · have d1 : decide (H < hi) = true := decide_eq_true (by omega)
            go_wp2_with fail
            refine M1.out.mono ?_
            rintro e w1 ⟨rfl, rfl⟩
            go_wp2_with fail
            go_round
            case rel => obtain ⟨m', r1, r2⟩ := REL.out; exact ⟨j, nx, m', by omega, rfl, by rw [← NX.out.2.2.2.2]; exact congrArg (Value.int .u64) (by omega), r1, r2, HR⟩
            case measure => simp [intOf]; omega
          · have d1 : decide (H < hi) = false := decide_eq_false (by omega)
            have d1' : ¬ H < hi := by omega
            have d2 : ((H : Int) == (hi : Int)) = true := by simp; omega
            have d3 : decide (L ≤ lo) = true := decide_eq_true (by omega)
            clear hc
            go_wp2_with fail
            refine M1.out.mono ?_
            rintro e w1 ⟨rfl, rfl⟩
            go_wp2_with fail
            go_round
            case rel => obtain ⟨m', r1, r2⟩ := REL.out; exact ⟨j, nx, m', by omega, rfl, by rw [← NX.out.2.2.2.2]; exact congrArg (Value.int .u64) (by omega), r1, r2, HR⟩
            case measure => simp [intOf]; omega
        · have HR := Lib.hid (show rootB n j r = root n by rw [← hroot.out, rootB_skip n j r (by rw [← hb, ← hnx, ← hX]; exact fits)])
          have hc := cmp_sq' X n hi lo HN.out.1 hlb fits
          rw [← hH, ← hL] at hc
          have REL := Lib.hid (show ∃ m' : Nat, r = m' * 2 ^ j ∧ r + 2 ^ j ≤ 281474976710656 from ⟨2 * m, by rw [hrm, hp]; rw [Nat.mul_left_comm, ← Nat.mul_assoc], by rw [← hb]; omega⟩)
          clear fits m1 hX hH hL hrm hr2 hp hp2 hnx hroot hb
          rcases hc with hc | ⟨hc, hc2⟩
          · have d1 : decide (H < hi) = false := decide_eq_false (by omega)
            have d1' : ¬ H < hi := by omega
            have d2 : ((H : Int) == (hi : Int)) = false := by simp; omega
            clear hc
            go_wp2_with fail
            refine M1.out.mono ?_
            rintro e w1 ⟨rfl, rfl⟩
            go_wp2_with fail
            go_round
            case rel => obtain ⟨m', r1, r2⟩ := REL.out; exact ⟨j, r, m', by omega, rfl, by rw [← NX.out.2.2.2.2]; exact congrArg (Value.int .u64) (by omega), r1, r2, HR⟩
            case measure => simp [intOf]; omega
          · have d1 : decide (H < hi) = false := decide_eq_false (by omega)
            have d1' : ¬ H < hi := by omega
            have d2 : ((H : Int) == (hi : Int)) = true := by simp; omega
            have d3 : decide (L ≤ lo) = false := decide_eq_false (by omega)
            have d3' : ¬ L ≤ lo := by omega
            clear hc
            go_wp2_with fail
            refine M1.out.mono ?_
            rintro e w1 ⟨rfl, rfl⟩
            go_wp2_with fail
            go_round
            case rel => obtain ⟨m', r1, r2⟩ := REL.out; exact ⟨j, r, m', by omega, rfl, by rw [← NX.out.2.2.2.2]; exact congrArg (Value.int .u64) (by omega), r1, r2, HR⟩
            case measure => simp [intOf]; omega

end Go.Proofs.Ytdaokkgenfpmhaa.FixN

/- The walk of layer 1's reference: quotients, bit by bit. -/
set_option linter.unusedVariables false
set_option linter.unusedSimpArgs false
namespace Go.Proofs.Ytdaokkgenfpmhaa.FixK
open Go.RowKit FixM FixD Base Num FixW FixV FixU FixT FixS

/-- what stands behind the bits down to k -/
structure At (X y k hi lo r : Nat) : Prop where
  q : X / 2 ^ k / y = hi * 18446744073709551616 + lo
  l : lo < 18446744073709551616
  r : X / 2 ^ k % y = r
theorem At.start (X y : Nat) (hX : X < 79228162514264337593543950336) : At X y 96 0 0 0 := by
  have : X / 2 ^ 96 = 0 := Nat.div_eq_of_lt (by simpa using hX)
  exact ⟨by rw [this]; simp, by decide, by rw [this]; simp⟩
theorem At.lt {X y k hi lo r : Nat} (h : At X y k hi lo r) (hy : 0 < y) : r < y := by rw [← h.r]; exact Nat.mod_lt _ hy
theorem At.hi_le {X y k hi lo r : Nat} (h : At X y k hi lo r) (hX : X < 79228162514264337593543950336) : hi < 4294967296 := by
  have h1 : X / 2 ^ k / y ≤ X := Nat.le_trans (Nat.div_le_self _ _) (Nat.div_le_self _ _)
  rw [h.q] at h1
  have := h.l
  omega
theorem At.yes {X y j hi lo r b : Nat} (h : At X y (j + 1) hi lo r) (hy : 0 < y) (hb : X / 2 ^ j % 2 = b) (hc : y ≤ 2 * r + b) :
    At X y j (2 * hi + lo / 9223372036854775808) (2 * lo % 18446744073709551616 + 1) (2 * r + b - y) := by
  have hb1 : b ≤ 1 := by omega
  obtain ⟨e1, e2⟩ := bit_step (X / 2 ^ (j + 1)) y b hb1 hy
  rw [h.r, if_pos hc] at e1 e2
  have hs := shr_step X j
  rw [hb] at hs
  rw [← hs] at e1 e2
  have hl := h.l
  rw [h.q] at e1
  exact ⟨by rw [e1]; omega, by omega, e2⟩
theorem At.no {X y j hi lo r b : Nat} (h : At X y (j + 1) hi lo r) (hy : 0 < y) (hb : X / 2 ^ j % 2 = b) (hc : ¬ y ≤ 2 * r + b) :
    At X y j (2 * hi + lo / 9223372036854775808) (2 * lo % 18446744073709551616) (2 * r + b) := by
  have hb1 : b ≤ 1 := by omega
  obtain ⟨e1, e2⟩ := bit_step (X / 2 ^ (j + 1)) y b hb1 hy
  rw [h.r, if_neg hc] at e1 e2
  have hs := shr_step X j
  rw [hb] at hs
  rw [← hs] at e1 e2
  have hl := h.l
  rw [h.q] at e1
  exact ⟨by rw [e1]; omega, by omega, e2⟩
theorem bit_hi (x j : Nat) (h : 32 ≤ j) : x * 4294967296 / 2 ^ j % 2 = x / 2 ^ (j - 32) % 2 := by
  have e : 2 ^ j = 2 ^ (j - 32) * 4294967296 := by rw [show (4294967296 : Nat) = 2 ^ 32 from rfl, ← Nat.pow_add, show j - 32 + 32 = j by omega]
  rw [e, Nat.mul_div_mul_right _ _ (by decide)]
theorem bit_lo (x j : Nat) (h : j < 32) : x * 4294967296 / 2 ^ j % 2 = 0 := by
  have e : x * 4294967296 = x * 2 ^ (32 - j) * 2 ^ j := by rw [Nat.mul_assoc, ← Nat.pow_add, show 32 - j + j = 32 by omega]
  have e2 : 2 ^ (32 - j) = 2 * 2 ^ (31 - j) := by rw [show 32 - j = 31 - j + 1 by omega, Nat.pow_succ]; omega
  rw [e, Nat.mul_div_cancel _ (Nat.two_pow_pos j), e2, Nat.mul_left_comm]
  omega
theorem and_one (x : Nat) (hx : x < 18446744073709551616) : bits .and .u64 (x : Int) 1 = ((x % 2 : Nat) : Int) := by
  have h := bits_and_u64_nat x 1 hx (by omega)
  have e : x &&& 1 = x % 2 := Nat.and_two_pow_sub_one_eq_mod x 1
  rw [e] at h
  exact h
end Go.Proofs.Ytdaokkgenfpmhaa.FixK

