/- Words and small laws that all walks of this seat share: a slice of numbers that reads as a list, one that the call itself owns, append and conversion over these, a whole array stored into a block. No program is named here. -/
import Derived.WalkKit
import Derived.WalkLawsBesides
import Derived.WalkSpells
import Derived.Outline
import Derived.Lib.Hide
import Derived.Deep.DeepCutAuto
import Derived.Deep.LoopGhost
import Derived.Laws.CopyOwn
import Derived.Laws.AppendOwnNone
import Derived.Lib.SlBytesConst
set_option linter.unusedVariables false
set_option linter.unusedSimpArgs false
namespace Go.Proofs.Ytighlefajekloaa.Base
open Go.RowKit

theorem ret_int {k : IntKind} {a b : Int} (h : a = b) : Ending.returned (.int k a) = .returned (.int k b) := by rw [h]
theorem ret_bool {a b : Bool} (h : a = b) : Ending.returned (.bool a) = .returned (.bool b) := by rw [h]

/-- the numbers of a list, as cells -/
def numCells (k : IntKind) (l : List Nat) : List Value := l.map fun (n : Nat) => Value.int k (n : Int)
theorem numCells_at (k : IntKind) (l : List Nat) (i : Nat) (h : i < l.length) : (numCells k l)[i]? = some (.int k (l[i] : Int)) := by
  simp [numCells, h]
theorem numCells_one (k : IntKind) (l : List Nat) : ∀ u ∈ numCells k l, u.oneCell' = true := by
  intro u hu; simp only [numCells, List.mem_map] at hu; obtain ⟨n, _, rfl⟩ := hu; rfl
theorem numCells_length (k : IntKind) (l : List Nat) : (numCells k l).length = l.length := by simp [numCells]
theorem numCells_append (k : IntKind) (l m : List Nat) : numCells k (l ++ m) = numCells k l ++ numCells k m := by simp [numCells]

/-- WHAT A SLICE OF NUMBERS HOLDS: the value v is a slice whose elements are the numbers l, each below N. -/
structure Nums (k : IntKind) (N : Nat) (w : World) (v : Value) (l : List Nat) : Prop where
  shape : ∃ a cap, v = .slice a l.length cap ∧ l.length ≤ cap ∧ cap ≤ maxLen ∧ (a = none → l.length = 0 ∧ cap = 0)
  bound : ∀ x ∈ l, x < N
  cells : l ≠ [] → ∃ b off cap, v = .slice (some ⟨b, off, none⟩) l.length cap ∧ b < w.heap.size ∧ ∀ i (h : i < l.length), w.cell? ⟨b, off + i, none⟩ = some (.int k (l[i] : Int))

theorem Nums.below {k : IntKind} {N : Nat} {w w' : World} {B : Nat} {v : Value} {l : List Nat} (h : Nums k N w v l) (hb : Below B w w') (hB : w.heap.size ≤ B) : Nums k N w' v l where
  shape := h.shape
  bound := h.bound
  cells := fun hne => by
    obtain ⟨b, off, cap, e, hlt, hc⟩ := h.cells hne
    exact ⟨b, off, cap, e, Nat.lt_of_lt_of_le hlt hb.size, fun i hi => (hb.cell (p := ⟨b, off + i, none⟩) (Nat.lt_of_lt_of_le hlt hB)).trans (hc i hi)⟩

theorem Nums.drew {k : IntKind} {N : Nat} {w : World} {v : Value} {l : List Nat} (h : Nums k N w v l) : Nums k N w.drew v l := ⟨h.shape, h.bound, h.cells⟩
/-- the first of them -/
theorem Nums.take {k : IntKind} {N : Nat} {w : World} {a : Option Addr} {n cap : Nat} {l : List Nat} (h : Nums k N w (.slice a n cap) l) (j : Nat) (hj : j ≤ n) (hn : n = l.length) (ha : a ≠ none) : Nums k N w (.slice a j cap) (l.take j) := by
  have hlen : (l.take j).length = j := by simp; omega
  obtain ⟨a', cap', e, h1, h2, h3⟩ := h.shape
  simp only [Value.slice.injEq] at e
  obtain ⟨rfl, _, rfl⟩ := e
  refine ⟨⟨a, cap, by rw [hlen], by omega, h2, fun h0 => absurd h0 ha⟩, fun x hx => h.bound x (List.mem_of_mem_take hx), ?_⟩
  intro hne
  have hl : l ≠ [] := by intro h0; subst h0; simp at hne
  obtain ⟨b, off, cap2, e2, hb, hc⟩ := h.cells hl
  simp only [Value.slice.injEq] at e2
  obtain ⟨rfl, _, rfl⟩ := e2
  refine ⟨b, off, cap, by rw [hlen], hb, fun i hi => ?_⟩
  rw [hlen] at hi
  rw [hc i (by omega)]; simp

/-- what stands behind the first of them -/
theorem Nums.drop {k : IntKind} {N : Nat} {w : World} {b off n cap : Nat} {l : List Nat} (h : Nums k N w (.slice (some ⟨b, off, none⟩) n cap) l) (j : Nat) (hj : j ≤ n) : Nums k N w (.slice (some ⟨b, off + j, none⟩) (n - j) (cap - j)) (l.drop j) := by
  obtain ⟨a', cap', e, h1, h2, h3⟩ := h.shape
  simp only [Value.slice.injEq] at e
  obtain ⟨rfl, hn, rfl⟩ := e
  have hlen : (l.drop j).length = n - j := by simp; omega
  refine ⟨⟨_, cap - j, by rw [hlen], by omega, by unfold maxLen at *; omega, fun h0 => by simp at h0⟩, fun x hx => h.bound x (List.mem_of_mem_drop hx), ?_⟩
  intro hne
  have hl : l ≠ [] := by intro h0; subst h0; simp at hne
  obtain ⟨b2, off2, cap2, e2, hb, hc⟩ := h.cells hl
  simp only [Value.slice.injEq, Option.some.injEq, Addr.mk.injEq, and_true] at e2
  obtain ⟨⟨rfl, rfl⟩, _, rfl⟩ := e2
  refine ⟨b, off + j, cap - j, by rw [hlen], hb, fun i hi => ?_⟩
  rw [hlen] at hi
  have := hc (j + i) (by omega)
  rw [← Nat.add_assoc] at this
  rw [this]; simp
theorem Nums.empty (k : IntKind) (N : Nat) (w : World) (b off cap : Nat) (h : cap ≤ maxLen) : Nums k N w (.slice (some ⟨b, off, none⟩) 0 cap) [] :=
  ⟨⟨_, cap, rfl, Nat.zero_le _, h, fun e => by simp at e⟩, by simp, fun e => absurd rfl e⟩

theorem Nums.nil (k : IntKind) (N : Nat) (w : World) : Nums k N w (.slice none 0 0) [] where
  shape := ⟨none, 0, rfl, Nat.le_refl _, by unfold maxLen; omega, fun _ => ⟨rfl, rfl⟩⟩
  bound := by simp
  cells := fun h => absurd rfl h

/-- a slice as the walks meet it: opened, its address known where it has an element -/
theorem Nums.open_ {k : IntKind} {N : Nat} {w : World} {v : Value} {l : List Nat} (h : Nums k N w v l) : ∃ a cap, v = .slice a l.length cap ∧ l.length ≤ 9223372036854775807 ∧ (∀ x ∈ l, x < N) ∧
    (∀ j (_ : j < l.length), ∃ b off, a = some ⟨b, off, none⟩ ∧ b < w.heap.size ∧ ∀ i (h : i < l.length), w.cell? ⟨b, off + i, none⟩ = some (.int k (l[i] : Int))) := by
  obtain ⟨a, cap, rfl, h1, h2, _⟩ := h.shape
  refine ⟨a, cap, rfl, by unfold maxLen at h2; omega, h.bound, ?_⟩
  intro j hj
  obtain ⟨b, off, cap', e, hb, hc⟩ := h.cells (by intro h0; subst h0; simp at hj)
  simp only [Value.slice.injEq] at e
  exact ⟨b, off, e.1, hb, hc⟩

/-- A SLICE OF NUMBERS THAT THE CALL ITSELF MADE (its block's number at least 'base'). -/
structure Own (k : IntKind) (N : Nat) (E base : Nat) (w : World) (v : Value) (l : List Nat) : Prop where
  row : w.ownsRow base E 1 v l.length (numCells k l)
  bound : ∀ x ∈ l, x < N

theorem Own.nil (k : IntKind) (N E base : Nat) (w : World) : Own k N E base w (.slice none 0 0) [] := ⟨World.ownsRow_nil _ _ _ _, by simp⟩
theorem Own.nums {k : IntKind} {N E base : Nat} {w : World} {v : Value} {l : List Nat} (h : Own k N E base w v l) : Nums k N w v l where
  shape := by
    rcases h.row.2 with ⟨rfl, h0⟩ | ⟨g, cap, cur, rfl, _, _, h1, h2, _⟩
    · exact ⟨none, 0, by rw [h0], by omega, by unfold maxLen; omega, fun _ => ⟨h0, rfl⟩⟩
    · exact ⟨_, cap, rfl, h1, h2, fun e => by simp at e⟩
  bound := h.bound
  cells := fun hne => by
    rcases h.row.2 with ⟨rfl, h0⟩ | ⟨g, cap, cur, rfl, _, hg, h1, h2, h3, h4⟩
    · exact absurd (List.eq_nil_of_length_eq_zero h0) hne
    · refine ⟨g, 0, cap, rfl, ?_, ?_⟩
      · rcases Nat.lt_or_ge g w.heap.size with h | h
        · exact h
        · rw [Array.getElem?_eq_none h] at hg; simp at hg
      · intro i hi
        rw [cell_of_row w g (0 + i) cur _ _ hg]
        have e : (numCells k l)[i]? = cur[i]? := by rw [← h4]; simp [hi]
        rw [Nat.zero_add, ← e, numCells_at k l i hi]
theorem Own.slice_ {k : IntKind} {N E base : Nat} {w : World} {v : Value} {l : List Nat} (h : Own k N E base w v l) : ∃ a n cap, v = .slice a n cap := by
  obtain ⟨a, cap, e, _⟩ := h.nums.shape; exact ⟨a, _, cap, e⟩
theorem Own.mono {k : IntKind} {N E base base' : Nat} {w : World} {v : Value} {l : List Nat} (h : Own k N E base w v l) (hb : base' ≤ base) : Own k N E base' w v l := by
  refine ⟨⟨h.row.1, ?_⟩, h.bound⟩
  rcases h.row.2 with h0 | ⟨g, cap, cur, e, hbg, r⟩
  · exact .inl h0
  · exact .inr ⟨g, cap, cur, e, by omega, r⟩
/-- what is owned stays owned where only blocks from B on may have turned, its own block lying below B -/
theorem Own.below {k : IntKind} {N E base B : Nat} {w w' : World} {v : Value} {l : List Nat} (h : Own k N E base w v l) (hb : Below B w w') (hB : w.heap.size ≤ B) : Own k N E base w' v l := by
  refine ⟨⟨h.row.1, ?_⟩, h.bound⟩
  rcases h.row.2 with h0 | ⟨g, cap, cur, e, hbg, hg, r⟩
  · exact .inl h0
  · refine .inr ⟨g, cap, cur, e, hbg, ?_, r⟩
    rw [hb.block g ?_]; exact hg
    rcases Nat.lt_or_ge g w.heap.size with h | h
    · omega
    · rw [Array.getElem?_eq_none h] at hg; simp at hg
theorem Own.alloc {k : IntKind} {N E base : Nat} {w : World} {v : Value} {l : List Nat} (h : Own k N E base w v l) (o : Obj) : Own k N E base (w.alloc o) v l := ⟨h.row.alloc o, h.bound⟩
theorem Own.drew {k : IntKind} {N E base : Nat} {w : World} {v : Value} {l : List Nat} (h : Own k N E base w v l) : Own k N E base w.drew v l := ⟨h.row, h.bound⟩

theorem setCell_below {B : Nat} {w0 w : World} (hb : Below B w0 w) {g j : Nat} (h : B ≤ g) (v : Value) : Below B w0 (w.setCell ⟨g, j, none⟩ v) := hb.setCell h v
/-- an owned row that has an element: its block, its cells, a store into it -/
theorem Own.at_ {k : IntKind} {N E base : Nat} {w : World} {v : Value} {l : List Nat} (h : Own k N E base w v l) (hpos : 0 < l.length) :
    ∃ g cap, v = .slice (some ⟨g, 0, none⟩) l.length cap ∧ l.length ≤ cap ∧ base ≤ g ∧ g < w.heap.size ∧ (∀ j (hj : j < l.length), w.cell? ⟨g, j, none⟩ = some (.int k (l[j] : Int))) ∧ (∀ j, w.frozen? ⟨g, j, none⟩ = false) ∧
      (∀ j y, y < N → Own k N E base (w.setCell ⟨g, j, none⟩ (.int k (y : Int))) v (l.set j y)) := by
  obtain ⟨hr, hb⟩ := h
  rcases hr.2 with ⟨rfl, h0⟩ | ⟨g, cap, cur, rfl, hbg, hg, hcap, _⟩
  · omega
  · refine ⟨g, cap, rfl, hcap, hbg, ?_, ?_, fun j => hr.frozenAt j, ?_⟩
    · rcases Nat.lt_or_ge g w.heap.size with h | h
      · exact h
      · rw [Array.getElem?_eq_none h] at hg; simp at hg
    · intro j hj
      rw [hr.cellAt j (by omega), numCells_at k l j hj]
    · intro j y hy
      refine ⟨?_, ?_⟩
      · have := (hr.stored j (.int k (y : Int))).1
        have e : numCells k (l.set j y) = (numCells k l).set j (.int k (y : Int)) := by unfold numCells; rw [List.map_set]
        rw [e, List.length_set]; exact this
      · intro x hx
        rcases List.mem_or_eq_of_mem_set hx with h | h
        · exact hb x h
        · rw [h]; exact hy

/-- one number, laid into a block of its own -/
theorem nums_one (k : IntKind) (N E : Nat) (w : World) (x : Nat) (hx : x < N) : Nums k N (w.alloc (.cells #[.int k (x : Int)] E)) (.slice (some ⟨w.heap.size, 0, none⟩) 1 1) [x] where
  shape := ⟨_, 1, rfl, Nat.le_refl _, by unfold maxLen; omega, fun e => by simp at e⟩
  bound := by simp; exact hx
  cells := fun _ => ⟨w.heap.size, 0, 1, rfl, by simp, fun i hi => by
    have : i = 0 := by simp at hi; omega
    subst this; rw [World.cell?_alloc_at _ _ _ _ rfl]; simp⟩
/-- a literal row of numbers -/
theorem nums_lit (k : IntKind) (N E : Nat) (w : World) (l : List Nat) (hl : l.length ≤ maxLen) (hx : ∀ x ∈ l, x < N) (cs : Array Value) (hcs : cs.toList = numCells k l) (n : Nat) (hn : n = l.length) :
    Nums k N (w.alloc (.cells cs E)) (.slice (some ⟨w.heap.size, 0, none⟩) n n) l where
  shape := ⟨_, n, by rw [hn], by omega, by omega, fun e => by simp at e⟩
  bound := hx
  cells := fun _ => ⟨w.heap.size, 0, n, by rw [hn], by simp, fun i hi => by
    rw [World.cell?_alloc_at _ _ _ _ rfl, Nat.zero_add, ← Array.getElem?_toList, hcs, numCells_at k l i hi]⟩

/-- a block that is known whole, read as a slice of all its numbers -/
theorem nums_blk (k : IntKind) (N : Nat) {w : World} {g : Nat} {cs : Array Value} {t : TypeId} {fr : Nat × Nat} (hg : w.heap[g]? = some (.cells cs t fr)) (l : List Nat) (hl : l.length ≤ maxLen) (hx : ∀ x ∈ l, x < N)
    (hcs : cs.toList = numCells k l) (n : Nat) (hn : n = l.length) : Nums k N w (.slice (some ⟨g, 0, none⟩) n n) l where
  shape := ⟨_, n, by rw [hn], by omega, by omega, fun e => by simp at e⟩
  bound := hx
  cells := fun _ => ⟨g, 0, n, by rw [hn], by
      rcases Nat.lt_or_ge g w.heap.size with h | h
      · exact h
      · rw [Array.getElem?_eq_none h] at hg; simp at hg, fun i hi => by
    rw [cell_of_row w g _ cs _ _ hg, Nat.zero_add, ← Array.getElem?_toList, hcs, numCells_at k l i hi]⟩

section
variable {P : Program}
/-- THE TYPES OF A SLICE OF NUMBERS: T is []E, E of the kind k, so many bytes wide. -/
structure NumSlice (P : Program) (T E : TypeId) (k : IntKind) (bytes : Nat) : Prop where
  und : P.underlying T = some (.slice E)
  info : ∃ i, P.info? E = some i ∧ i.zero = some (.int k 0) ∧ i.size = 1 ∧ i.bytes = bytes

theorem numSlice {P : Program} {T E : TypeId} {k : IntKind} {bytes : Nat} (h : P.underlying T = some (.slice E))
    (hi : (P.info? E).map (fun i => (i.zero, i.size, i.bytes)) = some (some (.int k 0), 1, bytes)) : NumSlice P T E k bytes := by
  obtain ⟨i, h1, h2, h3, h4⟩ := info_parts hi
  exact ⟨h, i, h1, h2, h3, h4⟩

/-- append(dst, src...): dst the call's own, src whatever reads as numbers. The new row lies where the elder one lay, or in a new block. -/
theorem wpList_append_nums_at {w : World} {ops : Array Oper} {rest : List Oper} {o : Oper} {a : Act} {Q : Exit → Act → World → Prop} (hgd : o.guard = none) (s x : Operand) (T E : TypeId)
    (ho : o.op = .call { callee := .builtin .append, args := #[s, x], argTypes := #[T, T] }) (k : IntKind) (N bytes base : Nat) (hT : NumSlice P T E k bytes)
    (v : Value) (l : List Nat) (hs : a.eval s = v) (hown : Own k N E base w v l) (u : Value) (m : List Nat) (hx : a.eval x = u) (hu : Nums k N w u m)
    (hb : (l.length + m.length) * bytes ≤ 140737488355328) (hl : l.length + m.length ≤ 140737488355328) (hbase : base ≤ w.heap.size)
    (h : ∀ v' w', Own k N E base w' v' (l ++ m) → w.grownBy w' v.ownBlock → (v'.ownBlock = v.ownBlock ∨ ∀ b, v'.ownBlock = some b → w.heap.size ≤ b) → wpList P ops Q rest (a.put o.dst v') w') : wpList P ops Q (o :: rest) a w := by
  obtain ⟨i, hi, hz, h1, h2⟩ := hT.info
  obtain ⟨ad, cap, rfl, hc1, hc2, hnone⟩ := hu.shape
  cases ad with
  | none =>
    obtain ⟨hm, rfl⟩ := hnone rfl
    obtain rfl : m = [] := List.eq_nil_of_length_eq_zero hm
    refine wpList_append_own_none hgd s x T ho base E i 1 hT.und hi v l.length (numCells k l) hs hown.row hx ?_
    refine h v w (by simpa using hown) ?_ (.inl rfl)
    exact ⟨rfl, rfl, rfl, Nat.le_refl _, fun _ _ _ => rfl⟩
  | some ad =>
    have hnews : ∀ j (y : Value), (numCells k m)[j]? = some y → w.cell? (ad.add j) = some y := by
      intro j y hj
      have hjl : j < m.length := by
        rcases Nat.lt_or_ge j m.length with h | h
        · exact h
        · rw [List.getElem?_eq_none (by rw [numCells_length]; exact h)] at hj; simp at hj
      obtain ⟨b, off, cap', e, _, hc⟩ := hu.cells (by intro h0; subst h0; simp at hjl)
      simp only [Value.slice.injEq, Option.some.injEq] at e
      obtain ⟨rfl, _, _⟩ := e
      rw [numCells_at k m j hjl] at hj
      have := hc j hjl
      rw [show ((⟨b, off, none⟩ : Addr).add j) = ⟨b, off + j, none⟩ from by unfold Addr.add; split <;> simp_all]
      rw [this]; exact hj
    have hbound : ∀ y ∈ l ++ m, y < N := by intro y hy; rcases List.mem_append.1 hy with hy | hy; exact hown.bound y hy; exact hu.bound y hy
    have hml : (numCells k m).length = m.length * 1 := by rw [numCells_length]; omega
    rcases hown.row.2 with ⟨rfl, h0⟩ | ⟨g, cap0, cur, rfl, hbg, hg, hcap, hcm, hcs, htk⟩
    · have hl0 : l = [] := List.eq_nil_of_length_eq_zero h0
      subst hl0
      refine wpList_append_own w hgd s x T ho w.heap.size E i (.int k 0) 1 bytes hT.und hi hz h1 h2 rfl (by omega) (.slice none 0 0) 0 [] hs (World.ownsRow_nil _ _ _ _) ad m.length cap (numCells k m) hx
        hml hnews (numCells_one k m) (by simp at hl; unfold maxLen; omega) (by simpa using hb) (Nat.le_refl _) ?_
      intro v' w' ho' hg' _
      have hO : Own k N E w.heap.size w' v' m := ⟨by simpa using ho', hu.bound⟩
      exact h v' w' (by simpa using hO.mono hbase) hg' (.inr fun b hb => (hO.row.lt b hb).1)
    · by_cases hroom : l.length + m.length ≤ cap0
      · refine wpList_plain hgd fun K hK => ?_
        obtain ⟨w', hrun, r1, r2⟩ := run_append_fits (P := P) w base T o.type E i 1 hT.und hi h1 g l.length cap0 (numCells k l) hown.row ad m.length cap (numCells k m) hml hnews (numCells_one k m) hroom
        unfold Oper.wp
        simp [execOp, ho, resolve, invoke, builtin, hs, hx, hrun, Result.andThen]
        exact hK _ _ (h _ w' ⟨by rw [List.length_append, numCells_append]; exact r1, hbound⟩ r2 (.inl rfl))
      · refine wpList_append_grows w hgd s x T ho E i (.int k 0) 1 bytes hT.und hi hz h1 h2 rfl (by omega) (some ⟨g, 0, none⟩) l.length cap0 (numCells k l) hs (by intro h; simp at h) (by rw [numCells_length]; omega)
          (by intro b hb j y hj; simp only [Option.some.injEq] at hb; subst hb; exact hown.row.cells rfl j y hj) ad m.length cap (numCells k m) hx hml hnews (numCells_one k m) (by omega) (by unfold maxLen; omega) hb ?_
        intro v' w' ho' hg'
        have hO : Own k N E w.heap.size w' v' (l ++ m) := ⟨by rw [List.length_append, numCells_append]; exact ho', hbound⟩
        refine h v' w' (hO.mono hbase) ⟨hg'.os, hg'.tape, hg'.output, hg'.size, fun k' hk' _ => hg'.block k' hk' (by simp)⟩ (.inr fun b hb => (hO.row.lt b hb).1)
theorem wpList_append_nums {w : World} {ops : Array Oper} {rest : List Oper} {o : Oper} {a : Act} {Q : Exit → Act → World → Prop} (hgd : o.guard = none) (s x : Operand) (T E : TypeId)
    (ho : o.op = .call { callee := .builtin .append, args := #[s, x], argTypes := #[T, T] }) (k : IntKind) (N bytes base : Nat) (hT : NumSlice P T E k bytes)
    (v : Value) (l : List Nat) (hs : a.eval s = v) (hown : Own k N E base w v l) (u : Value) (m : List Nat) (hx : a.eval x = u) (hu : Nums k N w u m)
    (hb : (l.length + m.length) * bytes ≤ 140737488355328) (hl : l.length + m.length ≤ 140737488355328) (hbase : base ≤ w.heap.size)
    (h : ∀ v' w', Own k N E base w' v' (l ++ m) → w.grownBy w' v.ownBlock → wpList P ops Q rest (a.put o.dst v') w') : wpList P ops Q (o :: rest) a w :=
  wpList_append_nums_at hgd s x T E ho k N bytes base hT v l hs hown u m hx hu hb hl hbase fun v' w' h1 h2 _ => h v' w' h1 h2

/-- a string's bytes -/
def strOf (l : List Nat) : ByteArray := l.foldl (fun r n => r.push (UInt8.ofNat n)) ByteArray.empty
theorem strOf_data (l : List Nat) : (strOf l).data.toList = l.map UInt8.ofNat := by
  have key : ∀ (l : List Nat) (r : ByteArray), (l.foldl (fun r n => r.push (UInt8.ofNat n)) r).data.toList = r.data.toList ++ l.map UInt8.ofNat := by
    intro l
    induction l with
    | nil => intro r; simp
    | cons x l ih => intro r; simp only [List.foldl_cons, ih, List.map_cons]; simp [ByteArray.push]
  have := key l ByteArray.empty
  rw [strOf, this]; rfl
theorem strOf_inj (l m : List Nat) (hl : ∀ x ∈ l, x < 256) (hm : ∀ x ∈ m, x < 256) (h : strOf l = strOf m) : l = m := by
  have h1 : (strOf l).data.toList = (strOf m).data.toList := by rw [h]
  rw [strOf_data, strOf_data] at h1
  have h2 := congrArg (List.map UInt8.toNat) h1
  simp only [List.map_map] at h2
  have e : ∀ l : List Nat, (∀ x ∈ l, x < 256) → l.map (UInt8.toNat ∘ UInt8.ofNat) = l := by
    intro l hl
    conv => rhs; rw [← List.map_id l]
    apply List.map_congr_left
    intro x hx
    have := hl x hx
    simp only [Function.comp, id_eq, UInt8.toNat_ofNat']
    omega
  rw [e l hl, e m hm] at h2
  exact h2

/-- string(b) -/
theorem run_toString {w : World} {v : Value} {l : List Nat} {N : Nat} (h : Nums .u8 N w v l) : (Conv.bytesToString v).run P w = .ok (.string (strOf l)) w := by
  obtain ⟨ad, cap, rfl, hc1, hc2, hnone⟩ := h.shape
  cases ad with
  | none =>
    obtain ⟨hm, rfl⟩ := hnone rfl
    obtain rfl : l = [] := List.eq_nil_of_length_eq_zero hm
    rfl
  | some ad =>
    have hnews : ∀ j (y : Value), (numCells .u8 l)[j]? = some y → w.cell? (ad.add j) = some y := by
      intro j y hj
      have hjl : j < l.length := by
        rcases Nat.lt_or_ge j l.length with h | h
        · exact h
        · rw [List.getElem?_eq_none (by rw [numCells_length]; exact h)] at hj; simp at hj
      obtain ⟨b, off, cap', e, _, hc⟩ := h.cells (by intro h0; subst h0; simp at hjl)
      simp only [Value.slice.injEq, Option.some.injEq] at e
      obtain ⟨rfl, _, _⟩ := e
      rw [numCells_at .u8 l j hjl] at hj
      have := hc j hjl
      rw [show ((⟨b, off, none⟩ : Addr).add j) = ⟨b, off + j, none⟩ from by unfold Addr.add; split <;> simp_all]
      rw [this]; exact hj
    have hl := run_loadCells_list (P := P) w ad (numCells .u8 l) hnews
    rw [numCells_length] at hl
    have e1 : numCells .u8 l = (l.map (fun n : Nat => (n : Int))).map (Value.int .u8) := by simp [numCells]
    rw [e1] at hl
    rw [run_bytesToString w ad l.length cap (l.map (fun n : Nat => (n : Int))) hl]
    congr 2
    unfold strOf
    rw [List.foldl_map]
    rfl
theorem wpList_toString {w : World} {ops : Array Oper} {rest : List Oper} {o : Oper} {a : Act} {Q : Exit → Act → World → Prop} (hgd : o.guard = none) (S T E : TypeId) (x : Operand)
    (ho : o.op = .convert T S x) (hS : P.underlying S = some .string) (hT : P.underlying T = some (.slice E)) (hE : P.underlying E = some (.int .u8)) (v : Value) (l : List Nat) (N : Nat) (hx : a.eval x = v) (hu : Nums .u8 N w v l)
    (h : wpList P ops Q rest (a.put o.dst (.string (strOf l))) w) : wpList P ops Q (o :: rest) a w := by
  refine wpList_plain hgd fun K hK => ?_
  obtain ⟨ad, cap, rfl, _⟩ := hu.shape
  have hrun := (run_convert_bytes_string w T S E ad l.length cap hT hE hS).trans (run_toString (P := P) hu)
  unfold Oper.wp
  simp only [execOp, ho, hx]
  simp [hrun, Result.andThen]
  exact hK _ _ h

/-- A WHOLE ARRAY (or struct) STORED INTO A BLOCK of its own size. -/
theorem wpList_store_arr {ops : Array Oper} {rest : List Oper} {o : Oper} {a : Act} {w : World} {Q : Exit → Act → World → Prop} (hgd : o.guard = none) (ty : TypeId) (x y : Operand) (ho : o.op = .store ty x y)
    (g : Nat) (cs : Array Value) (hx : a.eval x = .pointer (some ⟨g, 0, none⟩)) (hy : a.eval y = .agg cs) (t : TypeId) (cur : Array Value) (hg : w.heap[g]? = some (.cells cur t (0, 0)))
    (hi : (P.info? ty).map (·.size) = some cs.size) (hs : cur.size = cs.size) (h1 : ∀ v ∈ cs.toList, v.oneCell' = true) (hd : o.dst = none)
    (h : wpList P ops Q rest a (w.setRow g cs)) : wpList P ops Q (o :: rest) a w := by
  refine Go.wpList_store_row hgd ty x y ho g cs hx hy t cur hg hi hs ?_ ?_
  · rw [Array.all_eq_true]
    intro i hi
    exact h1 _ (by simp)
  · have : a.put o.dst undef = a := by rw [hd]; rfl
    rw [this]; exact h
end

theorem ext_refl (w : World) : Below w.heap.size w w := Below.refl _ _
theorem ext_trans {w w1 w2 : World} (h1 : Below w.heap.size w w1) (h2 : Below w1.heap.size w1 w2) : Below w.heap.size w w2 := h1.trans (h2.mono h1.size)
theorem ext_alloc (w : World) (o : Obj) : Below w.heap.size w (w.alloc o) := (Below.refl _ _).alloc (Nat.le_refl _) o
theorem below_of_drew {B : Nat} {w w' : World} (h : Below B w.drew w') : Below B w w' := ⟨h.os, h.tape, h.output, h.size, h.block⟩
theorem below_drew {B : Nat} {w w' : World} (h : Below B w w') : Below B w w'.drew := ⟨h.os, h.tape, h.output, h.size, h.block⟩
theorem below_setRow_new {B g : Nat} {w0 w : World} (hb : Below B w0 w) (h : B ≤ g) (cs : Array Value) : Below B w0 (w.setRow g cs) := below_setRow hb h cs
/-- what append leaves, seen from an elder world: its own row lies from B on -/
theorem below_grown {B : Nat} {w0 w w' : World} {v : Value} {k : IntKind} {N E base : Nat} {l : List Nat} (hb : Below B w0 w) (ho : Own k N E base w v l) (hg : w.grownBy w' v.ownBlock) (hB : B ≤ base) (hs : B ≤ w.heap.size) : Below B w0 w' := by
  refine hb.grown hg hs ?_
  intro k' hk'
  have := (ho.row.lt k' hk').1
  omega

/-! ### WHAT A CALL LEAVES ALONE: every block that was there but those of a set S -/
structure Keeps (S : Nat → Prop) (w w' : World) : Prop where
  os : w'.os = w.os
  tape : w'.tape = w.tape
  output : w'.output = w.output
  size : w.heap.size ≤ w'.heap.size
  block : ∀ k, k < w.heap.size → ¬ S k → w'.heap[k]? = w.heap[k]?
theorem Keeps.refl (S : Nat → Prop) (w : World) : Keeps S w w := ⟨rfl, rfl, rfl, Nat.le_refl _, fun _ _ _ => rfl⟩
theorem Keeps.trans {S S' : Nat → Prop} {w w1 w2 : World} (h1 : Keeps S w w1) (h2 : Keeps S' w1 w2) (hs : ∀ k, S' k → S k ∨ w.heap.size ≤ k) : Keeps S w w2 :=
  ⟨h2.os.trans h1.os, h2.tape.trans h1.tape, h2.output.trans h1.output, Nat.le_trans h1.size h2.size, fun k hk hn => by
    rw [h2.block k (Nat.lt_of_lt_of_le hk h1.size) (fun h => by rcases hs k h with h | h; exact hn h; omega)]; exact h1.block k hk hn⟩
theorem Keeps.mono {S S' : Nat → Prop} {w w' : World} (h : Keeps S w w') (hs : ∀ k, S k → S' k) : Keeps S' w w' :=
  ⟨h.os, h.tape, h.output, h.size, fun k hk hn => h.block k hk (fun h => hn (hs k h))⟩
theorem Keeps.alloc {S : Nat → Prop} {w w1 : World} (h : Keeps S w w1) (o : Obj) : Keeps S w (w1.alloc o) :=
  ⟨h.os, h.tape, h.output, by have := h.size; simp; omega, fun k hk hn => by
    rw [heap_alloc_old w1 o (Nat.lt_of_lt_of_le hk h.size)]; exact h.block k hk hn⟩
theorem Keeps.drew {S : Nat → Prop} {w w1 : World} (h : Keeps S w w1) : Keeps S w w1.drew := ⟨h.os, h.tape, h.output, h.size, h.block⟩
theorem Keeps.of_drew {S : Nat → Prop} {w w1 : World} (h : Keeps S w.drew w1) : Keeps S w w1 := ⟨h.os, h.tape, h.output, h.size, h.block⟩
theorem Keeps.setCell {S : Nat → Prop} {w w1 : World} (h : Keeps S w w1) (g j : Nat) (v : Value) (hg : S g ∨ w.heap.size ≤ g) : Keeps S w (w1.setCell ⟨g, j, none⟩ v) :=
  ⟨h.os, h.tape, h.output, by have := h.size; simp only [World.setCell, Array.size_modify]; exact this, fun k hk hn => by
    rw [heap_setCell_other w1 ⟨g, j, none⟩ k v (by rintro rfl; rcases hg with hg | hg; exact hn hg; omega)]; exact h.block k hk hn⟩
theorem Keeps.setRow {S : Nat → Prop} {w w1 : World} (h : Keeps S w w1) (g : Nat) (cs : Array Value) (hg : S g ∨ w.heap.size ≤ g) : Keeps S w (w1.setRow g cs) :=
  ⟨h.os, h.tape, h.output, by rw [setRow_size]; exact h.size, fun k hk hn => by
    rw [setRow_other w1 g k cs (by rintro rfl; rcases hg with hg | hg; exact hn hg; omega)]; exact h.block k hk hn⟩
theorem Keeps.grown {S : Nat → Prop} {w w1 w2 : World} {row : Option Nat} (h : Keeps S w w1) (hg : w1.grownBy w2 row) (hr : ∀ k, row = some k → S k ∨ w.heap.size ≤ k) : Keeps S w w2 :=
  ⟨hg.os.trans h.os, hg.tape.trans h.tape, hg.output.trans h.output, Nat.le_trans h.size hg.size, fun k hk hn => by
    rw [hg.block k (Nat.lt_of_lt_of_le hk h.size) (fun e => by rcases hr k e.symm with h | h; exact hn h; omega)]; exact h.block k hk hn⟩
theorem Keeps.of_below {w w' : World} {B : Nat} (h : Below B w w') (S : Nat → Prop) (hS : ∀ k, B ≤ k → k < w.heap.size → S k) : Keeps S w w' :=
  ⟨h.os, h.tape, h.output, h.size, fun k hk hn => h.block k (by rcases Nat.lt_or_ge k B with h | h; exact h; exact absurd (hS k h hk) hn)⟩
theorem Keeps.of_ext {w w' : World} (h : Below w.heap.size w w') (S : Nat → Prop) : Keeps S w w' := Keeps.of_below h S (fun k h1 h2 => by omega)
theorem Keeps.below {S : Nat → Prop} {w w' : World} (h : Keeps S w w') (B : Nat) (hB : B ≤ w.heap.size) (hS : ∀ k, S k → B ≤ k) : Below B w w' :=
  ⟨h.os, h.tape, h.output, h.size, fun k hk => h.block k (by omega) (fun hs => by have := hS k hs; omega)⟩
theorem Keeps.ext {S : Nat → Prop} {w w' : World} (h : Keeps S w w') (hS : ∀ k, S k → w.heap.size ≤ k) : Below w.heap.size w w' := h.below _ (Nat.le_refl _) hS

theorem lt_of_heap {w : World} {g : Nat} {o : Obj} (h : w.heap[g]? = some o) : g < w.heap.size := by
  rcases Nat.lt_or_ge g w.heap.size with h' | h'
  · exact h'
  · rw [Array.getElem?_eq_none h'] at h; simp at h
theorem Nums.frame {k : IntKind} {N : Nat} {w w' : World} {S : Nat → Prop} {v : Value} {l : List Nat} (h : Nums k N w v l) (hf : Keeps S w w') (hn : ∀ b, v.ownBlock = some b → ¬ S b) : Nums k N w' v l where
  shape := h.shape
  bound := h.bound
  cells := fun hne => by
    obtain ⟨b, off, cap, e, hlt, hc⟩ := h.cells hne
    refine ⟨b, off, cap, e, Nat.lt_of_lt_of_le hlt hf.size, fun i hi => ?_⟩
    rw [← hc i hi]
    exact World.cell?_of_block (a := ⟨b, off + i, none⟩) (hf.block b hlt (hn b (by rw [e]; rfl)))
theorem Own.frame {k : IntKind} {N E base : Nat} {w w' : World} {S : Nat → Prop} {v : Value} {l : List Nat} (h : Own k N E base w v l) (hf : Keeps S w w') (hn : ∀ b, v.ownBlock = some b → ¬ S b) : Own k N E base w' v l := by
  refine ⟨⟨h.row.1, ?_⟩, h.bound⟩
  rcases h.row.2 with h0 | ⟨g, cap, cur, e, hbg, hg, r⟩
  · exact .inl h0
  · exact .inr ⟨g, cap, cur, e, hbg, by rw [hf.block g (lt_of_heap hg) (hn g (by rw [e]; rfl))]; exact hg, r⟩
theorem Own.lt {k : IntKind} {N E base : Nat} {w : World} {v : Value} {l : List Nat} (h : Own k N E base w v l) : ∀ b, v.ownBlock = some b → base ≤ b ∧ b < w.heap.size := h.row.lt
/-- what append's law leaves says of the new row: its block is the elder one's, or new -/
theorem Own.block_of_grown {k : IntKind} {N E base : Nat} {w w' : World} {v' : Value} {l : List Nat} {row : Option Nat} (h : Own k N E base w' v' l) (hb : w.heap.size ≤ base) : ∀ b, v'.ownBlock = some b → row = some b ∨ w.heap.size ≤ b :=
  fun b hb' => .inr (by have := (h.lt b hb').1; omega)

/-! ### SLICES OF ANYTHING THAT TAKES ONE CELL (bools, ..): the same words over an encoding -/
structure Seq {α : Type} (enc : α → Value) (w : World) (v : Value) (l : List α) : Prop where
  shape : ∃ a cap, v = .slice a l.length cap ∧ l.length ≤ cap ∧ cap ≤ maxLen ∧ (a = none → l.length = 0 ∧ cap = 0)
  cells : l ≠ [] → ∃ b off cap, v = .slice (some ⟨b, off, none⟩) l.length cap ∧ b < w.heap.size ∧ ∀ i (h : i < l.length), w.cell? ⟨b, off + i, none⟩ = some (enc l[i])
structure SeqOwn {α : Type} (enc : α → Value) (E base : Nat) (w : World) (v : Value) (l : List α) : Prop where
  row : w.ownsRow base E 1 v l.length (l.map enc)
section
variable {α : Type} {enc : α → Value}
theorem Seq.nil (w : World) : Seq enc w (.slice none 0 0) [] where
  shape := ⟨none, 0, rfl, Nat.le_refl _, by unfold maxLen; omega, fun _ => ⟨rfl, rfl⟩⟩
  cells := fun h => absurd rfl h
theorem Seq.below {w w' : World} {B : Nat} {v : Value} {l : List α} (h : Seq enc w v l) (hb : Below B w w') (hB : w.heap.size ≤ B) : Seq enc w' v l where
  shape := h.shape
  cells := fun hne => by
    obtain ⟨b, off, cap, e, hlt, hc⟩ := h.cells hne
    exact ⟨b, off, cap, e, Nat.lt_of_lt_of_le hlt hb.size, fun i hi => (hb.cell (p := ⟨b, off + i, none⟩) (Nat.lt_of_lt_of_le hlt hB)).trans (hc i hi)⟩
theorem Seq.frame {w w' : World} {S : Nat → Prop} {v : Value} {l : List α} (h : Seq enc w v l) (hf : Keeps S w w') (hn : ∀ b, v.ownBlock = some b → ¬ S b) : Seq enc w' v l where
  shape := h.shape
  cells := fun hne => by
    obtain ⟨b, off, cap, e, hlt, hc⟩ := h.cells hne
    refine ⟨b, off, cap, e, Nat.lt_of_lt_of_le hlt hf.size, fun i hi => ?_⟩
    rw [← hc i hi]
    exact World.cell?_of_block (a := ⟨b, off + i, none⟩) (hf.block b hlt (hn b (by rw [e]; rfl)))
theorem Seq.open_ {w : World} {v : Value} {l : List α} (h : Seq enc w v l) : ∃ a cap, v = .slice a l.length cap ∧ l.length ≤ 9223372036854775807 ∧
    (∀ j (_ : j < l.length), ∃ b off, a = some ⟨b, off, none⟩ ∧ b < w.heap.size ∧ ∀ i (h : i < l.length), w.cell? ⟨b, off + i, none⟩ = some (enc l[i])) := by
  obtain ⟨a, cap, rfl, h1, h2, _⟩ := h.shape
  refine ⟨a, cap, rfl, by unfold maxLen at h2; omega, ?_⟩
  intro j hj
  obtain ⟨b, off, cap', e, hb, hc⟩ := h.cells (by intro h0; subst h0; simp at hj)
  simp only [Value.slice.injEq] at e
  exact ⟨b, off, e.1, hb, hc⟩
theorem Seq.fits {w : World} {a : Option Addr} {n cap : Nat} {l : List α} (h : Seq enc w (.slice a n cap) l) : n = l.length := by
  obtain ⟨_, _, e, _⟩ := h.shape; simp only [Value.slice.injEq] at e; exact e.2.1
theorem SeqOwn.nil (E base : Nat) (w : World) : SeqOwn enc E base w (.slice none 0 0) [] := ⟨World.ownsRow_nil _ _ _ _⟩
theorem SeqOwn.seq {E base : Nat} {w : World} {v : Value} {l : List α} (h : SeqOwn enc E base w v l) : Seq enc w v l where
  shape := by
    rcases h.row.2 with ⟨rfl, h0⟩ | ⟨g, cap, cur, rfl, _, _, h1, h2, _⟩
    · exact ⟨none, 0, by rw [h0], by omega, by unfold maxLen; omega, fun _ => ⟨h0, rfl⟩⟩
    · exact ⟨_, cap, rfl, h1, h2, fun e => by simp at e⟩
  cells := fun hne => by
    rcases h.row.2 with ⟨rfl, h0⟩ | ⟨g, cap, cur, rfl, _, hg, h1, h2, h3, h4⟩
    · exact absurd (List.eq_nil_of_length_eq_zero h0) hne
    · refine ⟨g, 0, cap, rfl, lt_of_heap hg, ?_⟩
      intro i hi
      rw [cell_of_row w g (0 + i) cur _ _ hg]
      have e : (l.map enc)[i]? = cur[i]? := by rw [← h4]; simp [hi]
      rw [Nat.zero_add, ← e]; simp [hi]
theorem SeqOwn.mono {E base base' : Nat} {w : World} {v : Value} {l : List α} (h : SeqOwn enc E base w v l) (hb : base' ≤ base) : SeqOwn enc E base' w v l := by
  refine ⟨⟨h.row.1, ?_⟩⟩
  rcases h.row.2 with h0 | ⟨g, cap, cur, e, hbg, r⟩
  · exact .inl h0
  · exact .inr ⟨g, cap, cur, e, by omega, r⟩
theorem SeqOwn.lt {E base : Nat} {w : World} {v : Value} {l : List α} (h : SeqOwn enc E base w v l) : ∀ b, v.ownBlock = some b → base ≤ b ∧ b < w.heap.size := h.row.lt
theorem SeqOwn.frame {E base : Nat} {w w' : World} {S : Nat → Prop} {v : Value} {l : List α} (h : SeqOwn enc E base w v l) (hf : Keeps S w w') (hn : ∀ b, v.ownBlock = some b → ¬ S b) : SeqOwn enc E base w' v l := by
  refine ⟨⟨h.row.1, ?_⟩⟩
  rcases h.row.2 with h0 | ⟨g, cap, cur, e, hbg, hg, r⟩
  · exact .inl h0
  · exact .inr ⟨g, cap, cur, e, hbg, by rw [hf.block g (lt_of_heap hg) (hn g (by rw [e]; rfl))]; exact hg, r⟩
theorem SeqOwn.below {E base B : Nat} {w w' : World} {v : Value} {l : List α} (h : SeqOwn enc E base w v l) (hb : Below B w w') (hB : w.heap.size ≤ B) : SeqOwn enc E base w' v l :=
  h.frame (Keeps.of_below hb (fun k => B ≤ k) (fun _ h _ => h)) (fun b hb' => by have := (h.lt b hb').2; omega)
theorem SeqOwn.alloc {E base : Nat} {w : World} {v : Value} {l : List α} (h : SeqOwn enc E base w v l) (o : Obj) : SeqOwn enc E base (w.alloc o) v l := ⟨h.row.alloc o⟩
theorem SeqOwn.drew {E base : Nat} {w : World} {v : Value} {l : List α} (h : SeqOwn enc E base w v l) : SeqOwn enc E base w.drew v l := ⟨h.row⟩
/-- one element, laid into a block of its own -/
theorem seq_one (E : Nat) (w : World) (x : α) (u : Value) (hu : u = enc x) : Seq enc (w.alloc (.cells #[u] E)) (.slice (some ⟨w.heap.size, 0, none⟩) 1 1) [x] where
  shape := ⟨_, 1, rfl, Nat.le_refl _, by unfold maxLen; omega, fun e => by simp at e⟩
  cells := fun _ => ⟨w.heap.size, 0, 1, rfl, by simp, fun i hi => by
    have : i = 0 := by simp at hi; omega
    subst this; rw [World.cell?_alloc_at _ _ _ _ rfl]; simp [hu]⟩
end
structure SeqSlice {α : Type} (P : Program) (T E : TypeId) (enc : α → Value) (z : Value) (bytes : Nat) : Prop where
  und : P.underlying T = some (.slice E)
  info : ∃ i, P.info? E = some i ∧ i.zero = some z ∧ i.size = 1 ∧ i.bytes = bytes
  zone : z.cells.size = 1
  one : ∀ x, (enc x).oneCell' = true
theorem seqSlice {α : Type} {P : Program} {T E : TypeId} {enc : α → Value} {z : Value} {bytes : Nat} (h : P.underlying T = some (.slice E))
    (hi : (P.info? E).map (fun i => (i.zero, i.size, i.bytes)) = some (some z, 1, bytes)) (hz : z.cells.size = 1) (h1 : ∀ x, (enc x).oneCell' = true) : SeqSlice P T E enc z bytes := by
  obtain ⟨i, e1, e2, e3, e4⟩ := info_parts hi
  exact ⟨h, ⟨i, e1, e2, e3, e4⟩, hz, h1⟩
theorem wpList_append_seq {P : Program} {α : Type} {enc : α → Value} {w : World} {ops : Array Oper} {rest : List Oper} {o : Oper} {a : Act} {Q : Exit → Act → World → Prop} (hgd : o.guard = none) (s x : Operand) (T E : TypeId)
    (ho : o.op = .call { callee := .builtin .append, args := #[s, x], argTypes := #[T, T] }) (z : Value) (bytes base : Nat) (hT : SeqSlice P T E enc z bytes)
    (v : Value) (l : List α) (hs : a.eval s = v) (hown : SeqOwn enc E base w v l) (u : Value) (m : List α) (hx : a.eval x = u) (hu : Seq enc w u m)
    (hb : (l.length + m.length) * bytes ≤ 140737488355328) (hl : l.length + m.length ≤ 140737488355328) (hbase : base ≤ w.heap.size)
    (h : ∀ v' w', SeqOwn enc E base w' v' (l ++ m) → w.grownBy w' v.ownBlock → (v'.ownBlock = v.ownBlock ∨ ∀ b, v'.ownBlock = some b → w.heap.size ≤ b) → wpList P ops Q rest (a.put o.dst v') w') : wpList P ops Q (o :: rest) a w := by
  obtain ⟨i, hi, hz, h1, h2⟩ := hT.info
  obtain ⟨ad, cap, rfl, hc1, hc2, hnone⟩ := hu.shape
  have hone : ∀ y ∈ m.map enc, y.oneCell' = true := by intro y hy; simp only [List.mem_map] at hy; obtain ⟨n, _, rfl⟩ := hy; exact hT.one n
  cases ad with
  | none =>
    obtain ⟨hm, rfl⟩ := hnone rfl
    obtain rfl : m = [] := List.eq_nil_of_length_eq_zero hm
    refine wpList_append_own_none hgd s x T ho base E i 1 hT.und hi v l.length (l.map enc) hs hown.row hx ?_
    refine h v w (by simpa using hown) ?_ (.inl rfl)
    exact ⟨rfl, rfl, rfl, Nat.le_refl _, fun _ _ _ => rfl⟩
  | some ad =>
    have hnews : ∀ j (y : Value), (m.map enc)[j]? = some y → w.cell? (ad.add j) = some y := by
      intro j y hj
      have hjl : j < m.length := by
        rcases Nat.lt_or_ge j m.length with h | h
        · exact h
        · rw [List.getElem?_eq_none (by simpa using h)] at hj; simp at hj
      obtain ⟨b, off, cap', e, _, hc⟩ := hu.cells (by intro h0; subst h0; simp at hjl)
      simp only [Value.slice.injEq, Option.some.injEq] at e
      obtain ⟨rfl, _, _⟩ := e
      have := hc j hjl
      rw [show ((⟨b, off, none⟩ : Addr).add j) = ⟨b, off + j, none⟩ from by unfold Addr.add; split <;> simp_all]
      rw [this]; simpa [hjl] using hj
    have hml : (m.map enc).length = m.length * 1 := by simp
    have hap : (l ++ m).map enc = l.map enc ++ m.map enc := List.map_append
    rcases hown.row.2 with ⟨rfl, h0⟩ | ⟨g, cap0, cur, rfl, hbg, hg, hcap, hcm, hcs, htk⟩
    · have hl0 : l = [] := List.eq_nil_of_length_eq_zero h0
      subst hl0
      refine wpList_append_own w hgd s x T ho w.heap.size E i z 1 bytes hT.und hi hz h1 h2 hT.zone (by omega) (.slice none 0 0) 0 [] hs (World.ownsRow_nil _ _ _ _) ad m.length cap (m.map enc) hx
        hml hnews hone (by simp at hl; unfold maxLen; omega) (by simpa using hb) (Nat.le_refl _) ?_
      intro v' w' ho' hg' _
      have hO : SeqOwn enc E w.heap.size w' v' m := ⟨by simpa using ho'⟩
      exact h v' w' (by simpa using hO.mono hbase) hg' (.inr fun b hb => (hO.row.lt b hb).1)
    · by_cases hroom : l.length + m.length ≤ cap0
      · refine wpList_plain hgd fun K hK => ?_
        obtain ⟨w', hrun, r1, r2⟩ := run_append_fits (P := P) w base T o.type E i 1 hT.und hi h1 g l.length cap0 (l.map enc) hown.row ad m.length cap (m.map enc) hml hnews hone hroom
        unfold Oper.wp
        simp [execOp, ho, resolve, invoke, builtin, hs, hx, hrun, Result.andThen]
        exact hK _ _ (h _ w' ⟨by rw [List.length_append, hap]; exact r1⟩ r2 (.inl rfl))
      · refine wpList_append_grows w hgd s x T ho E i z 1 bytes hT.und hi hz h1 h2 hT.zone (by omega) (some ⟨g, 0, none⟩) l.length cap0 (l.map enc) hs (by intro h; simp at h) (by simp)
          (by intro b hb j y hj; simp only [Option.some.injEq] at hb; subst hb; exact hown.row.cells rfl j y hj) ad m.length cap (m.map enc) hx hml hnews hone (by omega) (by unfold maxLen; omega) hb ?_
        intro v' w' ho' hg'
        have hO : SeqOwn enc E w.heap.size w' v' (l ++ m) := ⟨by rw [List.length_append, hap]; exact ho'⟩
        refine h v' w' (hO.mono hbase) ⟨hg'.os, hg'.tape, hg'.output, hg'.size, fun k' hk' _ => hg'.block k' hk' (by simp)⟩ (.inr fun b hb => (hO.row.lt b hb).1)
end Go.Proofs.Ytighlefajekloaa.Base
