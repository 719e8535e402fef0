/- Slices of records: each element takes c cells. What lies there, what is one's own, append. No program is named here. -/
import Derived.Test.YtighlefajekloaaBase
import Derived.Maps.AppendAt
set_option linter.unusedVariables false
set_option linter.unusedSimpArgs false
namespace Go.Proofs.Ytighlefajekloaa.Rec
open Go.RowKit Base

structure Recs {α : Type} (c : Nat) (enc : α → List Value) (w : World) (v : Value) (l : List α) : Prop where
  shape : ∃ a cap, v = .slice a l.length cap ∧ l.length ≤ cap ∧ cap ≤ maxLen ∧ (a = none → l.length = 0 ∧ cap = 0)
  cells : l ≠ [] → ∃ b off cap, v = .slice (some ⟨b, off, none⟩) l.length cap ∧ b < w.heap.size ∧ ∀ i (h : i < l.length) k x, (enc l[i])[k]? = some x → w.cell? ⟨b, off + i * c + k, none⟩ = some x
structure RecsOwn {α : Type} (c : Nat) (enc : α → List Value) (E base : Nat) (w : World) (v : Value) (l : List α) : Prop where
  row : w.ownsRow base E c v l.length (l.flatMap enc)
section
variable {α : Type} {c : Nat} {enc : α → List Value}
theorem add_flat (b off j : Nat) : (⟨b, off, none⟩ : Addr).add j = ⟨b, off + j, none⟩ := by unfold Addr.add; split <;> simp_all
theorem flat_len (hlen : ∀ x, (enc x).length = c) (l : List α) : (l.flatMap enc).length = l.length * c := by
  induction l with
  | nil => simp
  | cons x l ih => rw [List.flatMap_cons, List.length_append, hlen, ih, List.length_cons, Nat.add_mul]; omega
theorem flat_at (hlen : ∀ x, (enc x).length = c) : ∀ (l : List α) (i k : Nat) (h : i < l.length), k < c → (l.flatMap enc)[i * c + k]? = (enc l[i])[k]? := by
  intro l
  induction l with
  | nil => intro i k h; simp at h
  | cons x l ih =>
    intro i k h hk
    rw [List.flatMap_cons]
    cases i with
    | zero => rw [Nat.zero_mul, Nat.zero_add, List.getElem?_append_left (by rw [hlen]; exact hk)]; rfl
    | succ i =>
      rw [List.getElem?_append_right (by rw [hlen, Nat.add_mul]; omega), hlen, show (i + 1) * c + k - c = i * c + k by rw [Nat.add_mul]; omega, ih i k (by simpa using h) hk]
      simp
theorem Recs.nil (w : World) : Recs c enc w (.slice none 0 0) [] where
  shape := ⟨none, 0, rfl, Nat.le_refl _, by unfold maxLen; omega, fun _ => ⟨rfl, rfl⟩⟩
  cells := fun h => absurd rfl h
theorem Recs.below {w w' : World} {B : Nat} {v : Value} {l : List α} (h : Recs c enc w v l) (hb : Below B w w') (hB : w.heap.size ≤ B) : Recs c enc w' v l where
  shape := h.shape
  cells := fun hne => by
    obtain ⟨b, off, cap, e, hlt, hc⟩ := h.cells hne
    exact ⟨b, off, cap, e, Nat.lt_of_lt_of_le hlt hb.size, fun i hi k x hx => (hb.cell (p := ⟨b, off + i * c + k, none⟩) (Nat.lt_of_lt_of_le hlt hB)).trans (hc i hi k x hx)⟩
theorem Recs.frame {w w' : World} {S : Nat → Prop} {v : Value} {l : List α} (h : Recs c enc w v l) (hf : Keeps S w w') (hn : ∀ b, v.ownBlock = some b → ¬ S b) : Recs c enc w' v l where
  shape := h.shape
  cells := fun hne => by
    obtain ⟨b, off, cap, e, hlt, hc⟩ := h.cells hne
    refine ⟨b, off, cap, e, Nat.lt_of_lt_of_le hlt hf.size, fun i hi k x hx => ?_⟩
    rw [← hc i hi k x hx]
    exact World.cell?_of_block (a := ⟨b, off + i * c + k, none⟩) (hf.block b hlt (hn b (by rw [e]; rfl)))
theorem Recs.open_ {w : World} {v : Value} {l : List α} (h : Recs c enc w v l) : ∃ a cap, v = .slice a l.length cap ∧ l.length ≤ 9223372036854775807 ∧
    (∀ j (_ : j < l.length), ∃ b off, a = some ⟨b, off, none⟩ ∧ b < w.heap.size ∧ ∀ i (h : i < l.length) k x, (enc l[i])[k]? = some x → w.cell? ⟨b, off + i * c + k, none⟩ = some x) := by
  obtain ⟨a, cap, rfl, h1, h2, _⟩ := h.shape
  refine ⟨a, cap, rfl, by unfold maxLen at h2; omega, ?_⟩
  intro j hj
  obtain ⟨b, off, cap', e, hb, hc⟩ := h.cells (by intro h0; subst h0; simp at hj)
  simp only [Value.slice.injEq] at e
  exact ⟨b, off, e.1, hb, hc⟩
theorem Recs.fits {w : World} {a : Option Addr} {n cap : Nat} {l : List α} (h : Recs c enc w (.slice a n cap) l) : n = l.length := by
  obtain ⟨_, _, e, _⟩ := h.shape; simp only [Value.slice.injEq] at e; exact e.2.1
theorem Recs.lt {w : World} {v : Value} {l : List α} (h : Recs c enc w v l) (hne : l ≠ []) : ∀ b, v.ownBlock = some b → b < w.heap.size := by
  intro b hb
  obtain ⟨b', off, cap, e, hlt, _⟩ := h.cells hne
  rw [e] at hb; simp only [Value.ownBlock, Option.some.injEq] at hb; omega
theorem RecsOwn.nil (E base : Nat) (w : World) : RecsOwn c enc E base w (.slice none 0 0) [] := ⟨World.ownsRow_nil _ _ _ _⟩
theorem RecsOwn.recs (hlen : ∀ x, (enc x).length = c) {E base : Nat} {w : World} {v : Value} {l : List α} (h : RecsOwn c enc E base w v l) : Recs c enc w v l where
  shape := by
    rcases h.row.2 with ⟨rfl, h0⟩ | ⟨g, cap, cur, rfl, _, _, h1, h2, _⟩
    · exact ⟨none, 0, by rw [h0], by omega, by unfold maxLen; omega, fun _ => ⟨h0, rfl⟩⟩
    · exact ⟨_, cap, rfl, h1, h2, fun e => by simp at e⟩
  cells := fun hne => by
    rcases h.row.2 with ⟨rfl, h0⟩ | ⟨g, cap, cur, rfl, _, hg, h1, h2, h3, h4⟩
    · exact absurd (List.eq_nil_of_length_eq_zero h0) hne
    · refine ⟨g, 0, cap, rfl, lt_of_heap hg, ?_⟩
      intro i hi k x hx
      have hk : k < c := by
        rcases Nat.lt_or_ge k c with h | h
        · exact h
        · rw [List.getElem?_eq_none (by rw [hlen]; exact h)] at hx; simp at hx
      have hlt : i * c + k < l.length * c := by
        have : (i + 1) * c ≤ l.length * c := Nat.mul_le_mul_right _ hi
        rw [Nat.add_mul] at this; omega
      rw [cell_of_row w g (0 + i * c + k) cur _ _ hg, Nat.zero_add]
      have e : (l.flatMap enc)[i * c + k]? = cur[i * c + k]? := by rw [← h4, List.getElem?_take_of_lt hlt]; simp
      rw [← e, flat_at hlen l i k hi hk]; exact hx
theorem RecsOwn.mono {E base base' : Nat} {w : World} {v : Value} {l : List α} (h : RecsOwn c enc E base w v l) (hb : base' ≤ base) : RecsOwn c enc E base' w v l := by
  refine ⟨⟨h.row.1, ?_⟩⟩
  rcases h.row.2 with h0 | ⟨g, cap, cur, e, hbg, r⟩
  · exact .inl h0
  · exact .inr ⟨g, cap, cur, e, by omega, r⟩
theorem RecsOwn.lt {E base : Nat} {w : World} {v : Value} {l : List α} (h : RecsOwn c enc E base w v l) : ∀ b, v.ownBlock = some b → base ≤ b ∧ b < w.heap.size := by
  intro b hb
  rcases h.row.2 with ⟨rfl, _⟩ | ⟨g, cap, cur, rfl, hbg, hg, _⟩
  · simp [Value.ownBlock] at hb
  · simp only [Value.ownBlock, Option.some.injEq] at hb; subst hb; exact ⟨hbg, lt_of_heap hg⟩
theorem RecsOwn.slice_ {E base : Nat} {w : World} {v : Value} {l : List α} (h : RecsOwn c enc E base w v l) : ∃ a cap, v = .slice a l.length cap := by
  rcases h.row.2 with ⟨rfl, h0⟩ | ⟨g, cap, cur, rfl, _⟩
  · exact ⟨none, 0, by rw [h0]⟩
  · exact ⟨_, cap, rfl⟩
theorem RecsOwn.frame {E base : Nat} {w w' : World} {S : Nat → Prop} {v : Value} {l : List α} (h : RecsOwn c enc E base w v l) (hf : Keeps S w w') (hn : ∀ b, v.ownBlock = some b → ¬ S b) : RecsOwn c enc E base w' v l := by
  refine ⟨⟨h.row.1, ?_⟩⟩
  rcases h.row.2 with h0 | ⟨g, cap, cur, e, hbg, hg, r⟩
  · exact .inl h0
  · exact .inr ⟨g, cap, cur, e, hbg, by rw [hf.block g (lt_of_heap hg) (hn g (by rw [e]; rfl))]; exact hg, r⟩
theorem RecsOwn.below {E base B : Nat} {w w' : World} {v : Value} {l : List α} (h : RecsOwn c enc E base w v l) (hb : Below B w w') (hB : w.heap.size ≤ B) : RecsOwn c enc E base w' v l :=
  h.frame (Keeps.of_below hb (fun k => B ≤ k) (fun _ h _ => h)) (fun b hb' => by have := (h.lt b hb').2; omega)
/-- one element, laid into a block of its own -/
theorem recs_one (hlen : ∀ x, (enc x).length = c) (E : Nat) (w : World) (x : α) (row : Array Value) (hr : row.toList = enc x) : Recs c enc (w.alloc (.cells row E)) (.slice (some ⟨w.heap.size, 0, none⟩) 1 1) [x] where
  shape := ⟨_, 1, rfl, Nat.le_refl _, by unfold maxLen; omega, fun e => by simp at e⟩
  cells := fun _ => ⟨w.heap.size, 0, 1, rfl, by simp, fun i hi k y hy => by
    have : i = 0 := by simp at hi; omega
    subst this
    rw [cell_of_row _ w.heap.size _ row E (0, 0) (heap_alloc_new _ _)]
    simp only [List.getElem_cons_zero] at hy
    rw [← hy, ← hr]; simp⟩
end
structure RecSlice {α : Type} (P : Program) (T E : TypeId) (c : Nat) (enc : α → List Value) (z : Value) (bytes : Nat) : Prop where
  und : P.underlying T = some (.slice E)
  info : ∃ i, P.info? E = some i ∧ i.zero = some z ∧ i.size = c ∧ i.bytes = bytes
  zone : z.cells.size = c
  one : ∀ x, ∀ u ∈ enc x, u.oneCell' = true
  len : ∀ x, (enc x).length = c
  pos : 0 < c
theorem recSlice {α : Type} {P : Program} {T E : TypeId} {c : Nat} {enc : α → List Value} {z : Value} {bytes : Nat} (h : P.underlying T = some (.slice E))
    (hi : (P.info? E).map (fun i => (i.zero, i.size, i.bytes)) = some (some z, c, bytes)) (hz : z.cells.size = c) (h1 : ∀ x, ∀ u ∈ enc x, u.oneCell' = true) (hl : ∀ x, (enc x).length = c) (hp : 0 < c) : RecSlice P T E c enc z bytes := by
  obtain ⟨i, e1, e2, e3, e4⟩ := info_parts hi
  exact ⟨h, ⟨i, e1, e2, e3, e4⟩, hz, h1, hl, hp⟩
theorem wpList_append_recs {P : Program} {α : Type} {c : Nat} {enc : α → List Value} {w : World} {ops : Array Oper} {rest : List Oper} {o : Oper} {a : Act} {Q : Exit → Act → World → Prop} (hgd : o.guard = none) (s x : Operand) (T E : TypeId)
    (ho : o.op = .call { callee := .builtin .append, args := #[s, x], argTypes := #[T, T] }) (z : Value) (bytes base : Nat) (hT : RecSlice P T E c enc z bytes)
    (v : Value) (l : List α) (hs : a.eval s = v) (hown : RecsOwn c enc E base w v l) (u : Value) (m : List α) (hx : a.eval x = u) (hu : Recs c enc w u m)
    (hb : (l.length + m.length) * bytes ≤ 140737488355328) (hl : l.length + m.length ≤ 140737488355328) (hbase : base ≤ w.heap.size)
    (h : ∀ v' w', RecsOwn c enc E base w' v' (l ++ m) → w.grownBy w' v.ownBlock → (v'.ownBlock = v.ownBlock ∨ v'.ownBlock = some w.heap.size) → wpList P ops Q rest (a.put o.dst v') w') : wpList P ops Q (o :: rest) a w := by
  obtain ⟨i, hi, hz, h1, h2⟩ := hT.info
  obtain ⟨ad, cap, rfl, hc1, hc2, hnone⟩ := hu.shape
  have hone : ∀ y ∈ m.flatMap enc, y.oneCell' = true := by intro y hy; simp only [List.mem_flatMap] at hy; obtain ⟨n, _, hn⟩ := hy; exact hT.one n y hn
  have hap : (l ++ m).flatMap enc = l.flatMap enc ++ m.flatMap enc := List.flatMap_append
  cases ad with
  | none =>
    obtain ⟨hm, rfl⟩ := hnone rfl
    obtain rfl : m = [] := List.eq_nil_of_length_eq_zero hm
    refine wpList_append_own_none hgd s x T ho base E i c hT.und hi v l.length (l.flatMap enc) hs hown.row hx ?_
    refine h v w (by simpa using hown) ?_ (.inl rfl)
    exact ⟨rfl, rfl, rfl, Nat.le_refl _, fun _ _ _ => rfl⟩
  | some ad =>
    have hml : (m.flatMap enc).length = m.length * c := flat_len hT.len m
    have hnews : ∀ j (y : Value), (m.flatMap enc)[j]? = some y → w.cell? (ad.add j) = some y := by
      intro j y hj
      have hjl : j < m.length * c := by
        rcases Nat.lt_or_ge j (m.length * c) with h | h
        · exact h
        · rw [List.getElem?_eq_none (by rw [hml]; exact h)] at hj; simp at hj
      have hi' : j / c < m.length := Nat.div_lt_of_lt_mul (by rw [Nat.mul_comm]; exact hjl)
      obtain ⟨b, off, cap', e, _, hc⟩ := hu.cells (by intro h0; subst h0; simp at hi')
      simp only [Value.slice.injEq, Option.some.injEq] at e
      obtain ⟨rfl, _, _⟩ := e
      have hjj : j = j / c * c + j % c := by rw [Nat.mul_comm]; exact (Nat.div_add_mod j c).symm
      have hmod : j % c < c := Nat.mod_lt _ hT.pos
      have := hc (j / c) hi' (j % c) y (by rw [← flat_at hT.len m (j / c) (j % c) hi' hmod, ← hjj]; exact hj)
      rw [show ((⟨b, off, none⟩ : Addr).add j) = ⟨b, off + j / c * c + j % c, none⟩ from by
        rw [Nat.add_assoc, ← hjj]; exact add_flat b off j]
      exact this
    obtain ⟨v', w', hrun, r1, r2, _, r3⟩ := run_append_own_at (P := P) (w := w) base T o.type E i z c bytes hT.und hi hz h1 h2 hT.zone hT.pos v l.length (l.flatMap enc) hown.row ad m.length cap (m.flatMap enc) hml hnews hone (by unfold maxLen; omega) hb hbase
    refine wpList_plain hgd fun K hK => ?_
    unfold Oper.wp
    simp [execOp, ho, resolve, invoke, builtin, hs, hx, hrun, Result.andThen]
    exact hK _ _ (h v' w' ⟨by rw [List.length_append, hap]; exact r1⟩ r2 r3)
end Go.Proofs.Ytighlefajekloaa.Rec
