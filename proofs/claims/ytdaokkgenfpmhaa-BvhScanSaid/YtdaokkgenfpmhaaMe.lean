import Derived.Test.YtdaokkgenfpmhaaFa
import Derived.Maps.AppendAt
import Derived.Test.YtdaokkgenfpmhaaVe
/- Slices of records: each element takes c cells. What lies there, what is one's own, append. No program is named here. -/
set_option linter.unusedVariables false
set_option linter.unusedSimpArgs false
namespace Go.Proofs.Ytdaokkgenfpmhaa.Rec
open Go.RowKit Base

structure Recs {α : Type} (c : Nat) (enc : α → List Value) (w : World) (v : Value) (l : List α) : Prop where
  shape : ∃ a cap, v = .slice a l.length cap ∧ l.length ≤ cap ∧ cap ≤ maxLen ∧ (a = none → l.length = 0 ∧ cap = 0)
  cells : l ≠ [] → ∃ b off cap, v = .slice (some ⟨b, off, none⟩) l.length cap ∧ b < w.heap.size ∧ ∀ i (h : i < l.length) k x, (enc l[i])[k]? = some x → w.cell? ⟨b, off + i * c + k, none⟩ = some x
structure RecsOwn {α : Type} (c : Nat) (enc : α → List Value) (E base : Nat) (w : World) (v : Value) (l : List α) : Prop where
  row : w.ownsRow base E c v l.length (l.flatMap enc)
section
variable {α : Type} {c : Nat} {enc : α → List Value}
theorem add_flat (b off j : Nat) : (⟨b, off, none⟩ : Addr).add j = ⟨b, off + j, none⟩ := by unfold Addr.add; split <;> simp_all
theorem flat_len (hlen : ∀ x, (enc x).length = c) (l : List α) : (l.flatMap enc).length = l.length * c := by
  induction l with
  | nil => simp
  | cons x l ih => rw [List.flatMap_cons, List.length_append, hlen, ih, List.length_cons, Nat.add_mul]; omega
theorem flat_at (hlen : ∀ x, (enc x).length = c) : ∀ (l : List α) (i k : Nat) (h : i < l.length), k < c → (l.flatMap enc)[i * c + k]? = (enc l[i])[k]? := by
  intro l
  induction l with
  | nil => intro i k h; simp at h
  | cons x l ih =>
    intro i k h hk
    rw [List.flatMap_cons]
    cases i with
    | zero => rw [Nat.zero_mul, Nat.zero_add, List.getElem?_append_left (by rw [hlen]; exact hk)]; rfl
    | succ i =>
      rw [List.getElem?_append_right (by rw [hlen, Nat.add_mul]; omega), hlen, show (i + 1) * c + k - c = i * c + k by rw [Nat.add_mul]; omega, ih i k (by simpa using h) hk]
      simp
theorem Recs.nil (w : World) : Recs c enc w (.slice none 0 0) [] where
  shape := ⟨none, 0, rfl, Nat.le_refl _, by unfold maxLen; omega, fun _ => ⟨rfl, rfl⟩⟩
  cells := fun h => absurd rfl h
theorem Recs.below {w w' : World} {B : Nat} {v : Value} {l : List α} (h : Recs c enc w v l) (hb : Below B w w') (hB : w.heap.size ≤ B) : Recs c enc w' v l where
  shape := h.shape
  cells := fun hne => by
    obtain ⟨b, off, cap, e, hlt, hc⟩ := h.cells hne
    exact ⟨b, off, cap, e, Nat.lt_of_lt_of_le hlt hb.size, fun i hi k x hx => (hb.cell (p := ⟨b, off + i * c + k, none⟩) (Nat.lt_of_lt_of_le hlt hB)).trans (hc i hi k x hx)⟩
theorem Recs.frame {w w' : World} {S : Nat → Prop} {v : Value} {l : List α} (h : Recs c enc w v l) (hf : Keeps S w w') (hn : ∀ b, v.ownBlock = some b → ¬ S b) : Recs c enc w' v l where
  shape := h.shape
  cells := fun hne => by
    obtain ⟨b, off, cap, e, hlt, hc⟩ := h.cells hne
    refine ⟨b, off, cap, e, Nat.lt_of_lt_of_le hlt hf.size, fun i hi k x hx => ?_⟩
    rw [← hc i hi k x hx]
    exact World.cell?_of_block (a := ⟨b, off + i * c + k, none⟩) (hf.block b hlt (hn b (by rw [e]; rfl)))
theorem Recs.open_ {w : World} {v : Value} {l : List α} (h : Recs c enc w v l) : ∃ a cap, v = .slice a l.length cap ∧ l.length ≤ 9223372036854775807 ∧
    (∀ j (_ : j < l.length), ∃ b off, a = some ⟨b, off, none⟩ ∧ b < w.heap.size ∧ ∀ i (h : i < l.length) k x, (enc l[i])[k]? = some x → w.cell? ⟨b, off + i * c + k, none⟩ = some x) := by
  obtain ⟨a, cap, rfl, h1, h2, _⟩ := h.shape
  refine ⟨a, cap, rfl, by unfold maxLen at h2; omega, ?_⟩
  intro j hj
  obtain ⟨b, off, cap', e, hb, hc⟩ := h.cells (by intro h0; subst h0; simp at hj)
  simp only [Value.slice.injEq] at e
  exact ⟨b, off, e.1, hb, hc⟩
theorem Recs.fits {w : World} {a : Option Addr} {n cap : Nat} {l : List α} (h : Recs c enc w (.slice a n cap) l) : n = l.length := by
  obtain ⟨_, _, e, _⟩ := h.shape; simp only [Value.slice.injEq] at e; exact e.2.1
theorem Recs.lt {w : World} {v : Value} {l : List α} (h : Recs c enc w v l) (hne : l ≠ []) : ∀ b, v.ownBlock = some b → b < w.heap.size := by
  intro b hb
  obtain ⟨b', off, cap, e, hlt, _⟩ := h.cells hne
  rw [e] at hb; simp only [Value.ownBlock, Option.some.injEq] at hb; omega
theorem RecsOwn.nil (E base : Nat) (w : World) : RecsOwn c enc E base w (.slice none 0 0) [] := ⟨World.ownsRow_nil _ _ _ _⟩
theorem RecsOwn.recs (hlen : ∀ x, (enc x).length = c) {E base : Nat} {w : World} {v : Value} {l : List α} (h : RecsOwn c enc E base w v l) : Recs c enc w v l where
  shape := by
    rcases h.row.2 with ⟨rfl, h0⟩ | ⟨g, cap, cur, rfl, _, _, h1, h2, _⟩
    · exact ⟨none, 0, by rw [h0], by omega, by unfold maxLen; omega, fun _ => ⟨h0, rfl⟩⟩
    · exact ⟨_, cap, rfl, h1, h2, fun e => by simp at e⟩
  cells := fun hne => by
    rcases h.row.2 with ⟨rfl, h0⟩ | ⟨g, cap, cur, rfl, _, hg, h1, h2, h3, h4⟩
    · exact absurd (List.eq_nil_of_length_eq_zero h0) hne
    · refine ⟨g, 0, cap, rfl, lt_of_heap hg, ?_⟩
      intro i hi k x hx
      have hk : k < c := by
        rcases Nat.lt_or_ge k c with h | h
        · exact h
        · rw [List.getElem?_eq_none (by rw [hlen]; exact h)] at hx; simp at hx
      have hlt : i * c + k < l.length * c := by
        have : (i + 1) * c ≤ l.length * c := Nat.mul_le_mul_right _ hi
        rw [Nat.add_mul] at this; omega
      rw [cell_of_row w g (0 + i * c + k) cur _ _ hg, Nat.zero_add]
      have e : (l.flatMap enc)[i * c + k]? = cur[i * c + k]? := by rw [← h4, List.getElem?_take_of_lt hlt]; simp
      rw [← e, flat_at hlen l i k hi hk]; exact hx
theorem RecsOwn.mono {E base base' : Nat} {w : World} {v : Value} {l : List α} (h : RecsOwn c enc E base w v l) (hb : base' ≤ base) : RecsOwn c enc E base' w v l := by
  refine ⟨⟨h.row.1, ?_⟩⟩
  rcases h.row.2 with h0 | ⟨g, cap, cur, e, hbg, r⟩
  · exact .inl h0
  · exact .inr ⟨g, cap, cur, e, by omega, r⟩
theorem RecsOwn.lt {E base : Nat} {w : World} {v : Value} {l : List α} (h : RecsOwn c enc E base w v l) : ∀ b, v.ownBlock = some b → base ≤ b ∧ b < w.heap.size := by
  intro b hb
  rcases h.row.2 with ⟨rfl, _⟩ | ⟨g, cap, cur, rfl, hbg, hg, _⟩
  · simp [Value.ownBlock] at hb
  · simp only [Value.ownBlock, Option.some.injEq] at hb; subst hb; exact ⟨hbg, lt_of_heap hg⟩
theorem RecsOwn.slice_ {E base : Nat} {w : World} {v : Value} {l : List α} (h : RecsOwn c enc E base w v l) : ∃ a cap, v = .slice a l.length cap := by
  rcases h.row.2 with ⟨rfl, h0⟩ | ⟨g, cap, cur, rfl, _⟩
  · exact ⟨none, 0, by rw [h0]⟩
  · exact ⟨_, cap, rfl⟩
theorem RecsOwn.frame {E base : Nat} {w w' : World} {S : Nat → Prop} {v : Value} {l : List α} (h : RecsOwn c enc E base w v l) (hf : Keeps S w w') (hn : ∀ b, v.ownBlock = some b → ¬ S b) : RecsOwn c enc E base w' v l := by
  refine ⟨⟨h.row.1, ?_⟩⟩
  rcases h.row.2 with h0 | ⟨g, cap, cur, e, hbg, hg, r⟩
  · exact .inl h0
  · exact .inr ⟨g, cap, cur, e, hbg, by rw [hf.block g (lt_of_heap hg) (hn g (by rw [e]; rfl))]; exact hg, r⟩
theorem RecsOwn.below {E base B : Nat} {w w' : World} {v : Value} {l : List α} (h : RecsOwn c enc E base w v l) (hb : Below B w w') (hB : w.heap.size ≤ B) : RecsOwn c enc E base w' v l :=
  h.frame (Keeps.of_below hb (fun k => B ≤ k) (fun _ h _ => h)) (fun b hb' => by have := (h.lt b hb').2; omega)
/-- one element, laid into a block of its own -/
theorem recs_one (hlen : ∀ x, (enc x).length = c) (E : Nat) (w : World) (x : α) (row : Array Value) (hr : row.toList = enc x) : Recs c enc (w.alloc (.cells row E)) (.slice (some ⟨w.heap.size, 0, none⟩) 1 1) [x] where
  shape := ⟨_, 1, rfl, Nat.le_refl _, by unfold maxLen; omega, fun e => by simp at e⟩
  cells := fun _ => ⟨w.heap.size, 0, 1, rfl, by simp, fun i hi k y hy => by
    have : i = 0 := by simp at hi; omega
    subst this
    rw [cell_of_row _ w.heap.size _ row E (0, 0) (heap_alloc_new _ _)]
    simp only [List.getElem_cons_zero] at hy
    rw [← hy, ← hr]; simp⟩
end
structure RecSlice {α : Type} (P : Program) (T E : TypeId) (c : Nat) (enc : α → List Value) (z : Value) (bytes : Nat) : Prop where
  und : P.underlying T = some (.slice E)
  info : ∃ i, P.info? E = some i ∧ i.zero = some z ∧ i.size = c ∧ i.bytes = bytes
  zone : z.cells.size = c
  one : ∀ x, ∀ u ∈ enc x, u.oneCell' = true
  len : ∀ x, (enc x).length = c
  pos : 0 < c
theorem recSlice {α : Type} {P : Program} {T E : TypeId} {c : Nat} {enc : α → List Value} {z : Value} {bytes : Nat} (h : P.underlying T = some (.slice E))
    (hi : (P.info? E).map (fun i => (i.zero, i.size, i.bytes)) = some (some z, c, bytes)) (hz : z.cells.size = c) (h1 : ∀ x, ∀ u ∈ enc x, u.oneCell' = true) (hl : ∀ x, (enc x).length = c) (hp : 0 < c) : RecSlice P T E c enc z bytes := by
  obtain ⟨i, e1, e2, e3, e4⟩ := info_parts hi
  exact ⟨h, ⟨i, e1, e2, e3, e4⟩, hz, h1, hl, hp⟩
theorem wpList_append_recs {P : Program} {α : Type} {c : Nat} {enc : α → List Value} {w : World} {ops : Array Oper} {rest : List Oper} {o : Oper} {a : Act} {Q : Exit → Act → World → Prop} (hgd : o.guard = none) (s x : Operand) (T E : TypeId)
    (ho : o.op = .call { callee := .builtin .append, args := #[s, x], argTypes := #[T, T] }) (z : Value) (bytes base : Nat) (hT : RecSlice P T E c enc z bytes)
    (v : Value) (l : List α) (hs : a.eval s = v) (hown : RecsOwn c enc E base w v l) (u : Value) (m : List α) (hx : a.eval x = u) (hu : Recs c enc w u m)
    (hb : (l.length + m.length) * bytes ≤ 140737488355328) (hl : l.length + m.length ≤ 140737488355328) (hbase : base ≤ w.heap.size)
    (h : ∀ v' w', RecsOwn c enc E base w' v' (l ++ m) → w.grownBy w' v.ownBlock → (v'.ownBlock = v.ownBlock ∨ v'.ownBlock = some w.heap.size) → wpList P ops Q rest (a.put o.dst v') w') : wpList P ops Q (o :: rest) a w := by
  obtain ⟨i, hi, hz, h1, h2⟩ := hT.info
  obtain ⟨ad, cap, rfl, hc1, hc2, hnone⟩ := hu.shape
  have hone : ∀ y ∈ m.flatMap enc, y.oneCell' = true := by intro y hy; simp only [List.mem_flatMap] at hy; obtain ⟨n, _, hn⟩ := hy; exact hT.one n y hn
  have hap : (l ++ m).flatMap enc = l.flatMap enc ++ m.flatMap enc := List.flatMap_append
  cases ad with
  | none =>
    obtain ⟨hm, rfl⟩ := hnone rfl
    obtain rfl : m = [] := List.eq_nil_of_length_eq_zero hm
    refine wpList_append_own_none hgd s x T ho base E i c hT.und hi v l.length (l.flatMap enc) hs hown.row hx ?_
    refine h v w (by simpa using hown) ?_ (.inl rfl)
    exact ⟨rfl, rfl, rfl, Nat.le_refl _, fun _ _ _ => rfl⟩
  | some ad =>
    have hml : (m.flatMap enc).length = m.length * c := flat_len hT.len m
    have hnews : ∀ j (y : Value), (m.flatMap enc)[j]? = some y → w.cell? (ad.add j) = some y := by
      intro j y hj
      have hjl : j < m.length * c := by
        rcases Nat.lt_or_ge j (m.length * c) with h | h
        · exact h
        · rw [List.getElem?_eq_none (by rw [hml]; exact h)] at hj; simp at hj
      have hi' : j / c < m.length := Nat.div_lt_of_lt_mul (by rw [Nat.mul_comm]; exact hjl)
      obtain ⟨b, off, cap', e, _, hc⟩ := hu.cells (by intro h0; subst h0; simp at hi')
      simp only [Value.slice.injEq, Option.some.injEq] at e
      obtain ⟨rfl, _, _⟩ := e
      have hjj : j = j / c * c + j % c := by rw [Nat.mul_comm]; exact (Nat.div_add_mod j c).symm
      have hmod : j % c < c := Nat.mod_lt _ hT.pos
      have := hc (j / c) hi' (j % c) y (by rw [← flat_at hT.len m (j / c) (j % c) hi' hmod, ← hjj]; exact hj)
      rw [show ((⟨b, off, none⟩ : Addr).add j) = ⟨b, off + j / c * c + j % c, none⟩ from by
        rw [Nat.add_assoc, ← hjj]; exact add_flat b off j]
      exact this
    obtain ⟨v', w', hrun, r1, r2, _, r3⟩ := run_append_own_at (P := P) (w := w) base T o.type E i z c bytes hT.und hi hz h1 h2 hT.zone hT.pos v l.length (l.flatMap enc) hown.row ad m.length cap (m.flatMap enc) hml hnews hone (by unfold maxLen; omega) hb hbase
    refine wpList_plain hgd fun K hK => ?_
    unfold Oper.wp
    simp [execOp, ho, resolve, invoke, builtin, hs, hx, hrun, Result.andThen]
    exact hK _ _ (h v' w' ⟨by rw [List.length_append, hap]; exact r1⟩ r2 r3)
end Go.Proofs.Ytdaokkgenfpmhaa.Rec

/- Meshes as lists: what layer 12 checks and reckons. Plain. -/
set_option linter.unusedVariables false
set_option linter.unusedSimpArgs false
namespace Go.Proofs.Ytdaokkgenfpmhaa.MeshM
open FixM VecW

structure B4 where
  c : V3
  r : Int
structure Msh where
  ps : List V3
  ts : List V3
  bs : List B4
structure Msh.ok (m : Msh) : Prop where
  ps : ∀ p ∈ m.ps, p.ok
  ts : ∀ p ∈ m.ts, p.ok
  bs : ∀ b ∈ m.bs, b.c.ok ∧ In b.r
def nearI (x : Int) : Bool := decide (-4503599627370496 ≤ x) && decide (x ≤ 4503599627370496)
def nearV (v : V3) : Bool := nearI v.x && nearI v.y && nearI v.z
def placeI (n : Nat) (t : Int) : Bool := decide (0 ≤ t) && decide (t < (n : Int))
def hasF (n : Nat) (t : V3) : Bool := placeI n t.x && placeI n t.y && placeI n t.z
def ballF (b : B4) : Bool := nearV b.c && decide (1 ≤ b.r) && decide (b.r ≤ 4503599627370496)
def rightF (m : Msh) : Bool := m.ps.all nearV && m.ts.all (hasF m.ps.length) && m.bs.all ballF
def tooF (m : Msh) : Prop := 4096 < m.ps.length ∨ 4096 < m.ts.length + m.bs.length
instance (m : Msh) : Decidable (tooF m) := by unfold tooF; infer_instance
def checkF (m : Msh) : Int := if tooF m then 14 else if rightF m then 0 else 14
end Go.Proofs.Ytdaokkgenfpmhaa.MeshM

/- A mesh in the world; the small functions of Check. -/
set_option linter.unusedVariables false
set_option linter.unusedSimpArgs false
namespace Go.Proofs.Ytdaokkgenfpmhaa.MeshA
open Go.RowKit Go.Sort FixM Base Num Qb Qt VecW VecV VecU LightQ LightC MeshM Rec

def enc3 (v : V3) : List Value := [.int .i64 v.x, .int .i64 v.y, .int .i64 v.z]
def enc4 (b : B4) : List Value := [.int .i64 b.c.x, .int .i64 b.c.y, .int .i64 b.c.z, .int .i64 b.r]
theorem len3 (v : V3) : (enc3 v).length = 3 := rfl
theorem len4 (b : B4) : (enc4 b).length = 4 := rfl
theorem one3 (v : V3) : ∀ u ∈ enc3 v, u.oneCell' = true := by intro u hu; simp [enc3] at hu; rcases hu with rfl | rfl | rfl <;> rfl
theorem one4 (v : B4) : ∀ u ∈ enc4 v, u.oneCell' = true := by intro u hu; simp [enc4] at hu; rcases hu with rfl | rfl | rfl | rfl <;> rfl
theorem at3 {w : World} {a : Option Addr} {n cap : Nat} {l : List V3} (h : Recs 3 enc3 w (.slice a n cap) l) (i : Nat) (hi : i < l.length) :
    ∃ b off, a = some ⟨b, off, none⟩ ∧ b < w.heap.size ∧ w.cell? ⟨b, off + i * 3, none⟩ = some (.int .i64 l[i].x) ∧ w.cell? ⟨b, off + i * 3 + 1, none⟩ = some (.int .i64 l[i].y) ∧ w.cell? ⟨b, off + i * 3 + 2, none⟩ = some (.int .i64 l[i].z) := by
  obtain ⟨a', cap', e, _, hc⟩ := h.open_
  simp only [Value.slice.injEq] at e
  obtain ⟨rfl, _, _⟩ := e
  obtain ⟨b, off, rfl, hb, hx⟩ := hc i hi
  exact ⟨b, off, rfl, hb, hx i hi 0 _ rfl, hx i hi 1 _ rfl, hx i hi 2 _ rfl⟩
theorem at4 {w : World} {a : Option Addr} {n cap : Nat} {l : List B4} (h : Recs 4 enc4 w (.slice a n cap) l) (i : Nat) (hi : i < l.length) :
    ∃ b off, a = some ⟨b, off, none⟩ ∧ b < w.heap.size ∧ w.cell? ⟨b, off + i * 4, none⟩ = some (.int .i64 l[i].c.x) ∧ w.cell? ⟨b, off + i * 4 + 1, none⟩ = some (.int .i64 l[i].c.y) ∧ w.cell? ⟨b, off + i * 4 + 2, none⟩ = some (.int .i64 l[i].c.z) ∧ w.cell? ⟨b, off + i * 4 + 3, none⟩ = some (.int .i64 l[i].r) := by
  obtain ⟨a', cap', e, _, hc⟩ := h.open_
  simp only [Value.slice.injEq] at e
  obtain ⟨rfl, _, _⟩ := e
  obtain ⟨b, off, rfl, hb, hx⟩ := hc i hi
  exact ⟨b, off, rfl, hb, hx i hi 0 _ rfl, hx i hi 1 _ rfl, hx i hi 2 _ rfl, hx i hi 3 _ rfl⟩
/-- a mesh that lies in the world -/
structure IsMesh (w : World) (v : Value) (m : Msh) : Prop where
  ex : ∃ v0 v1 v2, v = .agg #[v0, v1, v2] ∧ Recs 3 enc3 w v0 m.ps ∧ Recs 3 enc3 w v1 m.ts ∧ Recs 4 enc4 w v2 m.bs
theorem IsMesh.below {w w' : World} {v : Value} {m : Msh} (h : IsMesh w v m) (hb : Below w.heap.size w w') : IsMesh w' v m := by
  obtain ⟨v0, v1, v2, e, h0, h1, h2⟩ := h.ex
  exact ⟨⟨v0, v1, v2, e, h0.below hb (Nat.le_refl _), h1.below hb (Nat.le_refl _), h2.below hb (Nat.le_refl _)⟩⟩
theorem IsMesh.open_ {w : World} {v : Value} {m : Msh} (h : IsMesh w v m) : ∃ a0 c0 a1 c1 a2 c2, v = .agg #[.slice a0 m.ps.length c0, .slice a1 m.ts.length c1, .slice a2 m.bs.length c2] ∧ Recs 3 enc3 w (.slice a0 m.ps.length c0) m.ps ∧ Recs 3 enc3 w (.slice a1 m.ts.length c1) m.ts ∧ Recs 4 enc4 w (.slice a2 m.bs.length c2) m.bs ∧ m.ps.length ≤ 9223372036854775807 ∧ m.ts.length ≤ 9223372036854775807 ∧ m.bs.length ≤ 9223372036854775807 := by
  obtain ⟨v0, v1, v2, e, h0, h1, h2⟩ := h.ex
  obtain ⟨a0, c0, rfl, l0, _⟩ := h0.open_
  obtain ⟨a1, c1, rfl, l1, _⟩ := h1.open_
  obtain ⟨a2, c2, rfl, l2, _⟩ := h2.open_
  exact ⟨a0, c0, a1, c1, a2, c2, e, h0, h1, h2, l0, l1, l2⟩
theorem cell_row {W : World} {g : Nat} {T : TypeId} {row : Array Value} (h : W.heap[g]? = some (.cells row T)) (k : Nat) (v : Value) (hv : row[k]? = some v) : W.cell? ⟨g, k, none⟩ = some v := by
  rw [cell_of_row W g k _ _ _ h]; exact hv

set_option maxRecDepth 100000 in
theorem near1_any (x : Int) (w : World) : Calls Try.prog 41 #[.int .i64 x] w (fun e w' => e = .returned (.bool (nearI x)) ∧ w = w') := by
  unfold nearI
  by_cases h1 : -4503599627370496 ≤ x
  · by_cases h2 : x ≤ 4503599627370496
    · have d1 : decide (-4503599627370496 ≤ x) = true := decide_eq_true h1
      have d2 : decide (x ≤ 4503599627370496) = true := decide_eq_true h2
      rw [d1, d2]
      clear h1 h2
      go_enter Try.func41, Try.ntmps41
      go_wp2_with fail
      go_ret
      exact ⟨rfl, rfl⟩
    · have d1 : decide (-4503599627370496 ≤ x) = true := decide_eq_true h1
      have d2 : decide (x ≤ 4503599627370496) = false := decide_eq_false h2
      rw [d1, d2]
      clear h1 h2
      go_enter Try.func41, Try.ntmps41
      go_wp2_with fail
      go_ret
      exact ⟨rfl, rfl⟩
  · have d1 : decide (-4503599627370496 ≤ x) = false := decide_eq_false h1
    rw [d1]
    clear h1
    go_enter Try.func41, Try.ntmps41
    go_wp2_with fail
    go_ret
    exact ⟨rfl, rfl⟩
set_option maxRecDepth 100000 in
theorem near_any (v : V3) (w : World) : Calls Try.prog 25 #[vecV v] w (VTo (.bool (nearV v)) w) := by
  obtain ⟨x, y, z⟩ := v
  have E := enters Try.func41 (by kernel_rfl) rfl
  have C := Lib.hid near1_any
  have HB := Lib.hid (ext_alloc w (box3 ⟨x, y, z⟩))
  unfold nearV
  obtain ⟨a, ha⟩ : ∃ a, a = nearI x := ⟨_, rfl⟩
  obtain ⟨b, hb⟩ : ∃ a, a = nearI y := ⟨_, rfl⟩
  obtain ⟨c, hc⟩ : ∃ a, a = nearI z := ⟨_, rfl⟩
  rw [← ha, ← hb, ← hc]
  have HA := Lib.hid ha
  have HBB := Lib.hid hb
  have HC := Lib.hid hc
  clear ha hb hc
  go_enter Try.func25, Try.ntmps25
  go_wp2_with fail
  refine (C.out _ _).mono ?_
  rintro e w1 ⟨rfl, rfl⟩
  rw [← HA.out]
  cases a
  · go_wp2_with fail
    go_ret
    exact ⟨rfl, HB.out⟩
  · go_wp2_with fail
    refine (C.out _ _).mono ?_
    rintro e w1 ⟨rfl, rfl⟩
    rw [← HBB.out]
    cases b
    · go_wp2_with fail
      go_ret
      exact ⟨rfl, HB.out⟩
    · go_wp2_with fail
      refine (C.out _ _).mono ?_
      rintro e w1 ⟨rfl, rfl⟩
      rw [← HC.out]
      go_wp2_with fail
      go_ret
      exact ⟨by cases c <;> rfl, HB.out⟩
end Go.Proofs.Ytdaokkgenfpmhaa.MeshA

/- The walks of mesh.Check's own functions. -/
set_option linter.unusedVariables false
set_option linter.unusedSimpArgs false
namespace Go.Proofs.Ytdaokkgenfpmhaa.MeshB
open Go.RowKit Go.Sort FixM Base Num Qb Qt VecW VecV VecU LightQ LightC MeshM Rec MeshA

theorem idx3_0 (x y z : Int) (w : World) : (Instr.index 68 (.agg #[.int .i64 x, .int .i64 y, .int .i64 z]) (.int .i64 0)).run Try.prog w = .ok (.int .i64 x) w := by kernel_rfl
theorem idx3_1 (x y z : Int) (w : World) : (Instr.index 68 (.agg #[.int .i64 x, .int .i64 y, .int .i64 z]) (.int .i64 1)).run Try.prog w = .ok (.int .i64 y) w := by kernel_rfl
theorem idx3_2 (x y z : Int) (w : World) : (Instr.index 68 (.agg #[.int .i64 x, .int .i64 y, .int .i64 z]) (.int .i64 2)).run Try.prog w = .ok (.int .i64 z) w := by kernel_rfl
set_option maxRecDepth 100000 in
set_option maxHeartbeats 1000000 in
theorem has_any (n : Nat) (hn : n ≤ 9223372036854775807) (t : V3) (w : World) : Calls Try.prog 28 #[.int .i64 (n : Int), vecV t] w (VTo (.bool (hasF n t)) w) := by
  obtain ⟨x, y, z⟩ := t
  unfold hasF
  obtain ⟨a, ha⟩ : ∃ a, a = placeI n x := ⟨_, rfl⟩
  obtain ⟨b, hb⟩ : ∃ a, a = placeI n y := ⟨_, rfl⟩
  obtain ⟨c, hc⟩ : ∃ a, a = placeI n z := ⟨_, rfl⟩
  rw [← ha, ← hb, ← hc]
  unfold placeI at ha hb hc
  have HA := Lib.hid ha
  have HBB := Lib.hid hb
  have HC := Lib.hid hc
  clear ha hb hc
  have HB := Lib.hid (ext_alloc w (.cells #[.int .i64 x, .int .i64 y, .int .i64 z] 68))
  have I0 := fun (w : World) => idx3_0 x y z w
  have I1 := fun (w : World) => idx3_1 x y z w
  have I2 := fun (w : World) => idx3_2 x y z w
  go_enter Try.func28, Try.ntmps28
  go_wp2_with fail
  generalize w.alloc (.cells #[.int .i64 x, .int .i64 y, .int .i64 z] 68) = W at *
  go_loopg [8] 3 (fun r n8 wr => ∃ i : Int, 0 ≤ i ∧ i + (r : Int) = 3 ∧ n8 = .int .i64 i ∧ W = wr ∧ Hid ((0 < i → a = true) ∧ (1 < i → b = true) ∧ (2 < i → c = true)))
  case atStart => exact ⟨0, by omega, by omega, rfl, rfl, Lib.hid ⟨by omega, by omega, by omega⟩⟩
  case round =>
    obtain ⟨i, hi0, hir, rfl, rfl, hin⟩ := hrel
    rcases (show i = 0 ∨ i = 1 ∨ i = 2 ∨ i = 3 by omega) with rfl | rfl | rfl | rfl
    · by_cases h1 : x < 0
      · have d1 : decide (x < 0) = true := decide_eq_true h1
        have hh : a = false := by rw [HA.out, decide_eq_false (by omega)]; rfl
        have HH := Lib.hid hh
        clear h1 hh
        go_wp2_with fail
        go_ret
        refine ⟨?_, HB.out⟩
        have hh := HH.out
        rw [hh]; first | rfl | (cases a <;> rfl) | (cases a <;> cases b <;> rfl)
      · have d1 : decide (x < 0) = false := decide_eq_false h1
        by_cases h2 : (n : Int) ≤ x
        · have d2 : decide ((n : Int) ≤ x) = true := decide_eq_true h2
          have hh : a = false := by rw [HA.out, decide_eq_false (show ¬ x < (n : Int) by omega)]; cases decide (0 ≤ x) <;> rfl
          have HH := Lib.hid hh
          clear h1 hh h2
          go_wp2_with fail
          go_ret
          refine ⟨?_, HB.out⟩
          have hh := HH.out
          rw [hh]; first | rfl | (cases a <;> rfl) | (cases a <;> cases b <;> rfl)
        · have d2 : decide ((n : Int) ≤ x) = false := decide_eq_false h2
          have hh : a = true := by rw [HA.out, decide_eq_true (show x < (n : Int) by omega), decide_eq_true (show 0 ≤ x by omega)]; rfl
          have HH := Lib.hid hh
          clear h1 hh h2
          go_wp2_with fail
          go_roundg 2
          case measure => omega
          case rel =>
            have hh := HH.out
            have h0 := hin.out
            exact ⟨1, by omega, by omega, rfl, rfl, Lib.hid ⟨fun _ => hh, by omega, by omega⟩⟩
    · by_cases h1 : y < 0
      · have d1 : decide (y < 0) = true := decide_eq_true h1
        have hh : b = false := by rw [HBB.out, decide_eq_false (by omega)]; rfl
        have HH := Lib.hid hh
        clear h1 hh
        go_wp2_with fail
        go_ret
        refine ⟨?_, HB.out⟩
        have hh := HH.out
        rw [hh]; first | rfl | (cases a <;> rfl) | (cases a <;> cases b <;> rfl)
      · have d1 : decide (y < 0) = false := decide_eq_false h1
        by_cases h2 : (n : Int) ≤ y
        · have d2 : decide ((n : Int) ≤ y) = true := decide_eq_true h2
          have hh : b = false := by rw [HBB.out, decide_eq_false (show ¬ y < (n : Int) by omega)]; cases decide (0 ≤ y) <;> rfl
          have HH := Lib.hid hh
          clear h1 hh h2
          go_wp2_with fail
          go_ret
          refine ⟨?_, HB.out⟩
          have hh := HH.out
          rw [hh]; first | rfl | (cases a <;> rfl) | (cases a <;> cases b <;> rfl)
        · have d2 : decide ((n : Int) ≤ y) = false := decide_eq_false h2
          have hh : b = true := by rw [HBB.out, decide_eq_true (show y < (n : Int) by omega), decide_eq_true (show 0 ≤ y by omega)]; rfl
          have HH := Lib.hid hh
          clear h1 hh h2
          go_wp2_with fail
          go_roundg 1
          case measure => omega
          case rel =>
            have hh := HH.out
            have h0 := hin.out
            exact ⟨2, by omega, by omega, rfl, rfl, Lib.hid ⟨fun _ => h0.1 (by omega), fun _ => hh, by omega⟩⟩
    · by_cases h1 : z < 0
      · have d1 : decide (z < 0) = true := decide_eq_true h1
        have hh : c = false := by rw [HC.out, decide_eq_false (by omega)]; rfl
        have HH := Lib.hid hh
        clear h1 hh
        go_wp2_with fail
        go_ret
        refine ⟨?_, HB.out⟩
        have hh := HH.out
        rw [hh]; first | rfl | (cases a <;> rfl) | (cases a <;> cases b <;> rfl)
      · have d1 : decide (z < 0) = false := decide_eq_false h1
        by_cases h2 : (n : Int) ≤ z
        · have d2 : decide ((n : Int) ≤ z) = true := decide_eq_true h2
          have hh : c = false := by rw [HC.out, decide_eq_false (show ¬ z < (n : Int) by omega)]; cases decide (0 ≤ z) <;> rfl
          have HH := Lib.hid hh
          clear h1 hh h2
          go_wp2_with fail
          go_ret
          refine ⟨?_, HB.out⟩
          have hh := HH.out
          rw [hh]; first | rfl | (cases a <;> rfl) | (cases a <;> cases b <;> rfl)
        · have d2 : decide ((n : Int) ≤ z) = false := decide_eq_false h2
          have hh : c = true := by rw [HC.out, decide_eq_true (show z < (n : Int) by omega), decide_eq_true (show 0 ≤ z by omega)]; rfl
          have HH := Lib.hid hh
          clear h1 hh h2
          go_wp2_with fail
          go_roundg 0
          case measure => omega
          case rel =>
            have hh := HH.out
            have h0 := hin.out
            exact ⟨3, by omega, by omega, rfl, rfl, Lib.hid ⟨fun _ => h0.1 (by omega), fun _ => h0.2.1 (by omega), fun _ => hh⟩⟩
    · go_wp2_with fail
      go_ret
      have h0 := hin.out
      exact ⟨by rw [h0.1 (by omega), h0.2.1 (by omega), h0.2.2 (by omega)]; rfl, HB.out⟩

set_option maxRecDepth 100000 in
set_option maxHeartbeats 1000000 in
theorem ball_any (b : B4) (w : World) : Calls Try.prog 30 #[.agg #[.int .i64 b.c.x, .int .i64 b.c.y, .int .i64 b.c.z, .int .i64 b.r]] w (VTo (.bool (ballF b)) w) := by
  obtain ⟨⟨x, y, z⟩, r⟩ := b
  have C := Lib.hid (near_any ⟨x, y, z⟩)
  unfold ballF
  obtain ⟨a, ha⟩ : ∃ a, a = nearV ⟨x, y, z⟩ := ⟨_, rfl⟩
  dsimp only
  rw [← ha] at C ⊢
  clear ha
  have HB := Lib.hid (ext_alloc w (.cells #[.int .i64 x, .int .i64 y, .int .i64 z, .int .i64 r] 71))
  have H0 := heap_alloc_new w (.cells #[.int .i64 x, .int .i64 y, .int .i64 z, .int .i64 r] 71)
  obtain ⟨W, hW⟩ : ∃ W, W = w.alloc (.cells #[.int .i64 x, .int .i64 y, .int .i64 z, .int .i64 r] 71) := ⟨_, rfl⟩
  rw [← hW] at HB H0
  have HH := Lib.hid H0
  have HWW := Lib.hid hW
  clear H0 hW
  go_enter Try.func30, Try.ntmps30
  go_wp2_with fail
  rw [← HWW.out]
  refine (C.out _).mono ?_
  rintro e w1 ⟨rfl, hb1⟩
  have H1 := Lib.hid ((hb1.block _ (lt_of_heap HH.out)).trans HH.out)
  have HB1 := Lib.hid (HB.out.trans (hb1.mono HB.out.size))
  clear hb1 HB HH HWW
  have c3 := cell_row H1.out 3 (.int .i64 r) rfl
  cases a
  · go_wp2_with fail
    go_ret
    exact ⟨rfl, HB1.out⟩
  · by_cases h1 : 1 ≤ r
    · have d1 : decide (1 ≤ r) = true := decide_eq_true h1
      obtain ⟨q, hq⟩ : ∃ q, q = decide (r ≤ 4503599627370496) := ⟨_, rfl⟩
      have d2 := hq.symm
      clear h1 hq
      go_wp2_with fail
      go_ret
      exact ⟨by rw [d1, d2]; cases q <;> rfl, HB1.out⟩
    · have d1 : decide (1 ≤ r) = false := decide_eq_false h1
      clear h1
      go_wp2_with fail
      go_ret
      exact ⟨by rw [d1]; rfl, HB1.out⟩
/-- the closure of the triangles: g holds the mesh -/
theorem tri_any (t : V3) (g n : Nat) (a : Option Addr) (c : Nat) (v1 v2 : Value) (hn : n ≤ 9223372036854775807) (w : World) (hg : w.heap[g]? = some (.cells #[.slice a n c, v1, v2] 31)) :
    Calls Try.prog 27 #[vecV t, .pointer (some ⟨g, 0, none⟩)] w (VTo (.bool (hasF n t)) w) := by
  have C := Lib.hid (has_any n hn t)
  obtain ⟨q, hq⟩ : ∃ q, q = hasF n t := ⟨_, rfl⟩
  rw [← hq] at C ⊢
  clear hq
  obtain ⟨x, y, z⟩ := t
  have HB := Lib.hid (ext_alloc w (.cells #[.int .i64 x, .int .i64 y, .int .i64 z] 68))
  have hg2 : (w.alloc (.cells #[.int .i64 x, .int .i64 y, .int .i64 z] 68)).heap[g]? = some (.cells #[.slice a n c, v1, v2] 31) := (heap_alloc_old _ _ (lt_of_heap hg)).trans hg
  have c0 := cell_row hg2 0 (.slice a n c) rfl
  clear hg hg2
  go_enter Try.func27, Try.ntmps27
  go_wp2_with fail
  refine (C.out _).mono ?_
  rintro e w1 ⟨rfl, hb1⟩
  have HB1 := Lib.hid (HB.out.trans (hb1.mono HB.out.size))
  clear hb1 c0
  go_wp2_with fail
  go_ret
  exact ⟨rfl, HB1.out⟩

theorem size_recV : (Try.prog.info? 23).map (·.size) = some 3 := by kernel_rfl
theorem store_recV {ops : Array Oper} {rest : List Oper} {o : Oper} {a : Act} {w : World} {Q : Exit → Act → World → Prop} (hgd : o.guard = none) (x y : Operand) (ho : o.op = .store 23 x y) (hd : o.dst = none)
    (g : Nat) (x1 x2 x3 : Int) (hx : a.eval x = .pointer (some ⟨g, 0, none⟩)) (hy : a.eval y = .agg #[.int .i64 x1, .int .i64 x2, .int .i64 x3]) (cur : Array Value) (hg : w.heap[g]? = some (.cells cur 23)) (hc : cur.size = 3)
    (h : wpList Try.prog ops Q rest a (w.setRow g #[.int .i64 x1, .int .i64 x2, .int .i64 x3])) : wpList Try.prog ops Q (o :: rest) a w :=
  wpList_store_arr hgd 23 x y ho g _ hx hy 23 cur hg size_recV (by rw [hc]; rfl) (by intro v hv; simp at hv; rcases hv with rfl | rfl | rfl <;> rfl) hd h

theorem size_recT : (Try.prog.info? 68).map (·.size) = some 3 := by kernel_rfl
theorem store_recT {ops : Array Oper} {rest : List Oper} {o : Oper} {a : Act} {w : World} {Q : Exit → Act → World → Prop} (hgd : o.guard = none) (x y : Operand) (ho : o.op = .store 68 x y) (hd : o.dst = none)
    (g : Nat) (x1 x2 x3 : Int) (hx : a.eval x = .pointer (some ⟨g, 0, none⟩)) (hy : a.eval y = .agg #[.int .i64 x1, .int .i64 x2, .int .i64 x3]) (cur : Array Value) (hg : w.heap[g]? = some (.cells cur 68)) (hc : cur.size = 3)
    (h : wpList Try.prog ops Q rest a (w.setRow g #[.int .i64 x1, .int .i64 x2, .int .i64 x3])) : wpList Try.prog ops Q (o :: rest) a w :=
  wpList_store_arr hgd 68 x y ho g _ hx hy 68 cur hg size_recT (by rw [hc]; rfl) (by intro v hv; simp at hv; rcases hv with rfl | rfl | rfl <;> rfl) hd h

theorem size_recB : (Try.prog.info? 71).map (·.size) = some 4 := by kernel_rfl
theorem store_recB {ops : Array Oper} {rest : List Oper} {o : Oper} {a : Act} {w : World} {Q : Exit → Act → World → Prop} (hgd : o.guard = none) (x y : Operand) (ho : o.op = .store 71 x y) (hd : o.dst = none)
    (g : Nat) (x1 x2 x3 x4 : Int) (hx : a.eval x = .pointer (some ⟨g, 0, none⟩)) (hy : a.eval y = .agg #[.int .i64 x1, .int .i64 x2, .int .i64 x3, .int .i64 x4]) (cur : Array Value) (hg : w.heap[g]? = some (.cells cur 71)) (hc : cur.size = 4)
    (h : wpList Try.prog ops Q rest a (w.setRow g #[.int .i64 x1, .int .i64 x2, .int .i64 x3, .int .i64 x4])) : wpList Try.prog ops Q (o :: rest) a w :=
  wpList_store_arr hgd 71 x y ho g _ hx hy 71 cur hg size_recB (by rw [hc]; rfl) (by intro v hv; simp at hv; rcases hv with rfl | rfl | rfl | rfl <;> rfl) hd h

set_option maxRecDepth 100000 in
set_option maxHeartbeats 2000000 in
theorem allV_any (k : Nat) (cap : Array Value) (F : V3 → Bool) (v : Value) (l : List V3) (w : World) (hv : Recs 3 enc3 w v l)
    (hen : ∀ args w, (callFunc k args).run Try.prog w = .ok (.enter k args) w)
    (hF : ∀ x w', Below w.heap.size w w' → Calls Try.prog k (#[vecV x] ++ cap) w' (VTo (.bool (F x)) w')) :
    Calls Try.prog 24 #[v, .func (.func k) #[] cap] w (VTo (.bool (l.all F)) w) := by
  obtain ⟨a, c, rfl, hlen, -⟩ := hv.open_
  have HV := Lib.hid hv
  have HF := Lib.hid hF
  clear hv hF
  go_enter Try.func24, Try.ntmps24
  go_wp2_with fail
  go_loopg [9] l.length (fun r n9 wr => ∃ i : Nat, i + r = l.length ∧ n9 = .int .i64 (i : Int) ∧ Hid ((∀ j (h : j < l.length), j < i → F l[j] = true) ∧ Below w.heap.size w wr))
  case atStart => exact ⟨0, by omega, rfl, Lib.hid ⟨by omega, Below.refl _ _⟩⟩
  case round =>
    obtain ⟨i, hir, rfl, hin⟩ := hrel
    by_cases hi : i < l.length
    · have hv1 := HV.out.below hin.out.2 (Nat.le_refl _)
      obtain ⟨b, off, e, hb, p0, p1, p2⟩ := at3 hv1 i hi
      subst e
      obtain ⟨u, hu⟩ : ∃ u, u = l[i] := ⟨_, rfl⟩
      rw [← hu] at p0 p1 p2
      have HU := Lib.hid hu
      clear hu hv1
      have d1 : decide ((i : Int) < (l.length : Int)) = true := decide_eq_true (by omega)
      obtain ⟨W, hW⟩ : ∃ W, W = (wr.alloc (.cells #[.int .i64 0, .int .i64 0, .int .i64 0] 23)).setRow wr.heap.size #[.int .i64 u.x, .int .i64 u.y, .int .i64 u.z] := ⟨_, rfl⟩
      have G := Lib.hid (show W.heap[wr.heap.size]? = some (.cells #[.int .i64 u.x, .int .i64 u.y, .int .i64 u.z] 23) by rw [hW]; exact setRow_heap _ _ _ _ _ _ (heap_alloc_new _ _))
      have B := Lib.hid (hin.out.2.trans ((show Below wr.heap.size wr W by rw [hW]; exact below_setRow (ext_alloc _ _) (Nat.le_refl _) _).mono hin.out.2.size))
      have C := Lib.hid (HF.out u W B.out)
      obtain ⟨q, hq⟩ : ∃ q, q = F u := ⟨_, rfl⟩
      rw [← hq] at C
      have HQ := Lib.hid hq
      have HWW := Lib.hid hW
      have HI := Lib.hid hi
      have HR := Lib.hid hir
      clear hq hW hir
      obtain ⟨x, y, z⟩ := u
      go_upto_region 4 with (with_reducible refine store_recV rfl (.tmp 6) (.tmp 12) rfl rfl wr.heap.size x y z rfl rfl _ (heap_alloc_new _ _) rfl ?_)
      rw [← HWW.out]
      clear HWW p0 p1 p2 d1
      obtain ⟨e0, e1, e2⟩ : W.cell? ⟨wr.heap.size, 0, none⟩ = some (.int .i64 x) ∧ W.cell? ⟨wr.heap.size, 1, none⟩ = some (.int .i64 y) ∧ W.cell? ⟨wr.heap.size, 2, none⟩ = some (.int .i64 z) := ⟨cell_row G.out 0 _ rfl, cell_row G.out 1 _ rfl, cell_row G.out 2 _ rfl⟩
      go_wp2_with fail
      refine C.out.mono ?_
      rintro e w2 ⟨rfl, hb2⟩
      have B2 := Lib.hid (B.out.trans (hb2.mono B.out.size))
      clear hb2 C e0 e1 e2
      cases q
      · go_wp2_with fail
        go_ret
        refine ⟨?_, B2.out⟩
        have hq := HQ.out
        have hu := HU.out
        have hall : l.all F = false := by
          rw [← Bool.not_eq_true]
          intro hall
          have := List.all_eq_true.1 hall _ (hu ▸ List.getElem_mem HI.out)
          rw [← hq] at this
          cases this
        rw [hall]; rfl
      · go_wp2_with fail
        go_roundg (l.length - (i + 1))
        case measure => have := HR.out; have := HI.out; omega
        case rel =>
          refine ⟨i + 1, by have := HR.out; have := HI.out; omega, by go_num, Lib.hid ⟨fun j h hj => ?_, B2.out⟩⟩
          by_cases e : j = i
          · subst e
            have hq := HQ.out
            have hu := HU.out
            rw [← hu, ← hq]
          · exact hin.out.1 j h (by omega)
    · have d1 : decide ((i : Int) < (l.length : Int)) = false := decide_eq_false (by omega)
      go_wp2_with fail
      go_ret
      refine ⟨?_, hin.out.2⟩
      have hall : l.all F = true := by
        rw [List.all_eq_true]
        intro x hx
        obtain ⟨j, hj, rfl⟩ := List.mem_iff_getElem.1 hx
        exact hin.out.1 j hj (by omega)
      rw [hall]; rfl

set_option maxRecDepth 100000 in
set_option maxHeartbeats 2000000 in
theorem allT_any (k : Nat) (cap : Array Value) (F : V3 → Bool) (v : Value) (l : List V3) (w : World) (hv : Recs 3 enc3 w v l)
    (hen : ∀ args w, (callFunc k args).run Try.prog w = .ok (.enter k args) w)
    (hF : ∀ x w', Below w.heap.size w w' → Calls Try.prog k (#[vecV x] ++ cap) w' (VTo (.bool (F x)) w')) :
    Calls Try.prog 26 #[v, .func (.func k) #[] cap] w (VTo (.bool (l.all F)) w) := by
  obtain ⟨a, c, rfl, hlen, -⟩ := hv.open_
  have HV := Lib.hid hv
  have HF := Lib.hid hF
  clear hv hF
  go_enter Try.func26, Try.ntmps26
  go_wp2_with fail
  go_loopg [9] l.length (fun r n9 wr => ∃ i : Nat, i + r = l.length ∧ n9 = .int .i64 (i : Int) ∧ Hid ((∀ j (h : j < l.length), j < i → F l[j] = true) ∧ Below w.heap.size w wr))
  case atStart => exact ⟨0, by omega, rfl, Lib.hid ⟨by omega, Below.refl _ _⟩⟩
  case round =>
    obtain ⟨i, hir, rfl, hin⟩ := hrel
    by_cases hi : i < l.length
    · have hv1 := HV.out.below hin.out.2 (Nat.le_refl _)
      obtain ⟨b, off, e, hb, p0, p1, p2⟩ := at3 hv1 i hi
      subst e
      obtain ⟨u, hu⟩ : ∃ u, u = l[i] := ⟨_, rfl⟩
      rw [← hu] at p0 p1 p2
      have HU := Lib.hid hu
      clear hu hv1
      have d1 : decide ((i : Int) < (l.length : Int)) = true := decide_eq_true (by omega)
      obtain ⟨W, hW⟩ : ∃ W, W = (wr.alloc (.cells #[.int .i64 0, .int .i64 0, .int .i64 0] 68)).setRow wr.heap.size #[.int .i64 u.x, .int .i64 u.y, .int .i64 u.z] := ⟨_, rfl⟩
      have G := Lib.hid (show W.heap[wr.heap.size]? = some (.cells #[.int .i64 u.x, .int .i64 u.y, .int .i64 u.z] 68) by rw [hW]; exact setRow_heap _ _ _ _ _ _ (heap_alloc_new _ _))
      have B := Lib.hid (hin.out.2.trans ((show Below wr.heap.size wr W by rw [hW]; exact below_setRow (ext_alloc _ _) (Nat.le_refl _) _).mono hin.out.2.size))
      have C := Lib.hid (HF.out u W B.out)
      obtain ⟨q, hq⟩ : ∃ q, q = F u := ⟨_, rfl⟩
      rw [← hq] at C
      have HQ := Lib.hid hq
      have HWW := Lib.hid hW
      have HI := Lib.hid hi
      have HR := Lib.hid hir
      clear hq hW hir
      obtain ⟨x, y, z⟩ := u
      go_upto_region 4 with (with_reducible refine store_recT rfl (.tmp 6) (.tmp 12) rfl rfl wr.heap.size x y z rfl rfl _ (heap_alloc_new _ _) rfl ?_)
      rw [← HWW.out]
      clear HWW p0 p1 p2 d1
      obtain ⟨e0, e1, e2⟩ : W.cell? ⟨wr.heap.size, 0, none⟩ = some (.int .i64 x) ∧ W.cell? ⟨wr.heap.size, 1, none⟩ = some (.int .i64 y) ∧ W.cell? ⟨wr.heap.size, 2, none⟩ = some (.int .i64 z) := ⟨cell_row G.out 0 _ rfl, cell_row G.out 1 _ rfl, cell_row G.out 2 _ rfl⟩
      go_wp2_with fail
      refine C.out.mono ?_
      rintro e w2 ⟨rfl, hb2⟩
      have B2 := Lib.hid (B.out.trans (hb2.mono B.out.size))
      clear hb2 C e0 e1 e2
      cases q
      · go_wp2_with fail
        go_ret
        refine ⟨?_, B2.out⟩
        have hq := HQ.out
        have hu := HU.out
        have hall : l.all F = false := by
          rw [← Bool.not_eq_true]
          intro hall
          have := List.all_eq_true.1 hall _ (hu ▸ List.getElem_mem HI.out)
          rw [← hq] at this
          cases this
        rw [hall]; rfl
      · go_wp2_with fail
        go_roundg (l.length - (i + 1))
        case measure => have := HR.out; have := HI.out; omega
        case rel =>
          refine ⟨i + 1, by have := HR.out; have := HI.out; omega, by go_num, Lib.hid ⟨fun j h hj => ?_, B2.out⟩⟩
          by_cases e : j = i
          · subst e
            have hq := HQ.out
            have hu := HU.out
            rw [← hu, ← hq]
          · exact hin.out.1 j h (by omega)
    · have d1 : decide ((i : Int) < (l.length : Int)) = false := decide_eq_false (by omega)
      go_wp2_with fail
      go_ret
      refine ⟨?_, hin.out.2⟩
      have hall : l.all F = true := by
        rw [List.all_eq_true]
        intro x hx
        obtain ⟨j, hj, rfl⟩ := List.mem_iff_getElem.1 hx
        exact hin.out.1 j hj (by omega)
      rw [hall]; rfl

set_option maxRecDepth 100000 in
set_option maxHeartbeats 2000000 in
theorem allB_any (k : Nat) (cap : Array Value) (F : B4 → Bool) (v : Value) (l : List B4) (w : World) (hv : Recs 4 enc4 w v l)
    (hen : ∀ args w, (callFunc k args).run Try.prog w = .ok (.enter k args) w)
    (hF : ∀ x w', Below w.heap.size w w' → Calls Try.prog k (#[.agg #[.int .i64 x.c.x, .int .i64 x.c.y, .int .i64 x.c.z, .int .i64 x.r]] ++ cap) w' (VTo (.bool (F x)) w')) :
    Calls Try.prog 29 #[v, .func (.func k) #[] cap] w (VTo (.bool (l.all F)) w) := by
  obtain ⟨a, c, rfl, hlen, -⟩ := hv.open_
  have HV := Lib.hid hv
  have HF := Lib.hid hF
  clear hv hF
  go_enter Try.func29, Try.ntmps29
  go_wp2_with fail
  go_loopg [9] l.length (fun r n9 wr => ∃ i : Nat, i + r = l.length ∧ n9 = .int .i64 (i : Int) ∧ Hid ((∀ j (h : j < l.length), j < i → F l[j] = true) ∧ Below w.heap.size w wr))
  case atStart => exact ⟨0, by omega, rfl, Lib.hid ⟨by omega, Below.refl _ _⟩⟩
  case round =>
    obtain ⟨i, hir, rfl, hin⟩ := hrel
    by_cases hi : i < l.length
    · have hv1 := HV.out.below hin.out.2 (Nat.le_refl _)
      obtain ⟨b, off, e, hb, p0, p1, p2, p3⟩ := at4 hv1 i hi
      subst e
      obtain ⟨u, hu⟩ : ∃ u, u = l[i] := ⟨_, rfl⟩
      rw [← hu] at p0 p1 p2 p3
      have HU := Lib.hid hu
      clear hu hv1
      have d1 : decide ((i : Int) < (l.length : Int)) = true := decide_eq_true (by omega)
      obtain ⟨W, hW⟩ : ∃ W, W = (wr.alloc (.cells #[.int .i64 0, .int .i64 0, .int .i64 0, .int .i64 0] 71)).setRow wr.heap.size #[.int .i64 u.c.x, .int .i64 u.c.y, .int .i64 u.c.z, .int .i64 u.r] := ⟨_, rfl⟩
      have G := Lib.hid (show W.heap[wr.heap.size]? = some (.cells #[.int .i64 u.c.x, .int .i64 u.c.y, .int .i64 u.c.z, .int .i64 u.r] 71) by rw [hW]; exact setRow_heap _ _ _ _ _ _ (heap_alloc_new _ _))
      have B := Lib.hid (hin.out.2.trans ((show Below wr.heap.size wr W by rw [hW]; exact below_setRow (ext_alloc _ _) (Nat.le_refl _) _).mono hin.out.2.size))
      have C := Lib.hid (HF.out u W B.out)
      obtain ⟨q, hq⟩ : ∃ q, q = F u := ⟨_, rfl⟩
      rw [← hq] at C
      have HQ := Lib.hid hq
      have HWW := Lib.hid hW
      have HI := Lib.hid hi
      have HR := Lib.hid hir
      clear hq hW hir
      obtain ⟨⟨x, y, z⟩, s⟩ := u
      go_upto_region 4 with (with_reducible refine store_recB rfl (.tmp 6) (.tmp 12) rfl rfl wr.heap.size x y z s rfl rfl _ (heap_alloc_new _ _) rfl ?_)
      rw [← HWW.out]
      clear HWW p0 p1 p2 p3 d1
      obtain ⟨e0, e1, e2, e3⟩ : W.cell? ⟨wr.heap.size, 0, none⟩ = some (.int .i64 x) ∧ W.cell? ⟨wr.heap.size, 1, none⟩ = some (.int .i64 y) ∧ W.cell? ⟨wr.heap.size, 2, none⟩ = some (.int .i64 z) ∧ W.cell? ⟨wr.heap.size, 3, none⟩ = some (.int .i64 s) := ⟨cell_row G.out 0 _ rfl, cell_row G.out 1 _ rfl, cell_row G.out 2 _ rfl, cell_row G.out 3 _ rfl⟩
      go_wp2_with fail
      refine C.out.mono ?_
      rintro e w2 ⟨rfl, hb2⟩
      have B2 := Lib.hid (B.out.trans (hb2.mono B.out.size))
      clear hb2 C e0 e1 e2 e3
      cases q
      · go_wp2_with fail
        go_ret
        refine ⟨?_, B2.out⟩
        have hq := HQ.out
        have hu := HU.out
        have hall : l.all F = false := by
          rw [← Bool.not_eq_true]
          intro hall
          have := List.all_eq_true.1 hall _ (hu ▸ List.getElem_mem HI.out)
          rw [← hq] at this
          cases this
        rw [hall]; rfl
      · go_wp2_with fail
        go_roundg (l.length - (i + 1))
        case measure => have := HR.out; have := HI.out; omega
        case rel =>
          refine ⟨i + 1, by have := HR.out; have := HI.out; omega, by go_num, Lib.hid ⟨fun j h hj => ?_, B2.out⟩⟩
          by_cases e : j = i
          · subst e
            have hq := HQ.out
            have hu := HU.out
            rw [← hu, ← hq]
          · exact hin.out.1 j h (by omega)
    · have d1 : decide ((i : Int) < (l.length : Int)) = false := decide_eq_false (by omega)
      go_wp2_with fail
      go_ret
      refine ⟨?_, hin.out.2⟩
      have hall : l.all F = true := by
        rw [List.all_eq_true]
        intro x hx
        obtain ⟨j, hj, rfl⟩ := List.mem_iff_getElem.1 hx
        exact hin.out.1 j hj (by omega)
      rw [hall]; rfl

end Go.Proofs.Ytdaokkgenfpmhaa.MeshB

/- The walks of mesh.Check and Count. -/
set_option linter.unusedVariables false
set_option linter.unusedSimpArgs false
namespace Go.Proofs.Ytdaokkgenfpmhaa.MeshC
open Go.RowKit Go.Sort FixM Base Num Qb Qt VecW VecV VecU LightQ LightC MeshM Rec MeshA MeshB

theorem wrap_in {x : Int} (h1 : -9223372036854775808 ≤ x) (h2 : x ≤ 9223372036854775807) : IntKind.i64.wrap x = x := by
  show (if IntKind.i64.signed && decide (x % 18446744073709551616 ≥ 9223372036854775808) then x % 18446744073709551616 - 18446744073709551616 else x % 18446744073709551616) = x
  simp [IntKind.signed]; omega
theorem hmf (fn : Fn) (first cap : Array Value) (w : World) : (Instr.makeFunc fn first cap).run Try.prog w = .ok (.func fn first cap) w := rfl
set_option maxRecDepth 100000 in
set_option maxHeartbeats 4000000 in
theorem check_any (v : Value) (m : Msh) (w : World) (hm : IsMesh w v m) : Calls Try.prog 11 #[v] w (VTo (.int .i64 (checkF m)) w) := by
  obtain ⟨a0, c0, a1, c1, a2, c2, rfl, h0, h1, h2, l0, l1, l2⟩ := hm.open_
  obtain ⟨W, hW⟩ : ∃ W, W = w.alloc (.cells #[.slice a0 m.ps.length c0, .slice a1 m.ts.length c1, .slice a2 m.bs.length c2] 31) := ⟨_, rfl⟩
  have hB : Below w.heap.size w W := by rw [hW]; exact ext_alloc _ _
  have hR : W.heap[w.heap.size]? = some (.cells #[.slice a0 m.ps.length c0, .slice a1 m.ts.length c1, .slice a2 m.bs.length c2] 31) := by rw [hW]; exact heap_alloc_new _ _
  have k0 := cell_row hR 0 (.slice a0 m.ps.length c0) rfl
  have k1 := cell_row hR 1 (.slice a1 m.ts.length c1) rfl
  have k2 := cell_row hR 2 (.slice a2 m.bs.length c2) rfl
  have A0 := Lib.hid (allV_any 25 #[] nearV _ m.ps W (h0.below hB (Nat.le_refl _)) (enters Try.func25 (by kernel_rfl) rfl) (fun x w' _ => near_any x w'))
  have A1 := Lib.hid (fun W' (hb : Below W.heap.size W W') => allT_any 27 #[.pointer (some ⟨w.heap.size, 0, none⟩)] (hasF m.ps.length) _ m.ts W' ((h1.below hB (Nat.le_refl _)).below hb (Nat.le_refl _)) (enters Try.func27 (by kernel_rfl) rfl)
    (fun x w' hb' => tri_any x w.heap.size m.ps.length a0 c0 (.slice a1 m.ts.length c1) (.slice a2 m.bs.length c2) l0 w' ((hb'.block _ (Nat.lt_of_lt_of_le (lt_of_heap hR) hb.size)).trans ((hb.block _ (lt_of_heap hR)).trans hR))))
  have A2 := Lib.hid (fun W' (hb : Below W.heap.size W W') => allB_any 30 #[] ballF _ m.bs W' ((h2.below hB (Nat.le_refl _)).below hb (Nat.le_refl _)) (enters Try.func30 (by kernel_rfl) rfl) (fun x w' _ => ball_any x w'))
  have hF : checkF m = if tooF m then 14 else if (m.ps.all nearV && m.ts.all (hasF m.ps.length) && m.bs.all ballF) then 0 else 14 := rfl
  have HF := Lib.hid hF
  have HTF := Lib.hid (show tooF m ↔ (4096 < m.ps.length ∨ 4096 < m.ts.length + m.bs.length) from Iff.rfl)
  obtain ⟨r, hr⟩ : ∃ r, r = checkF m := ⟨_, rfl⟩
  rw [← hr] at HF ⊢
  clear hF hr
  obtain ⟨b0, hb0⟩ : ∃ b, b = m.ps.all nearV := ⟨_, rfl⟩
  obtain ⟨b1, hb1⟩ : ∃ b, b = m.ts.all (hasF m.ps.length) := ⟨_, rfl⟩
  obtain ⟨b2, hb2⟩ : ∃ b, b = m.bs.all ballF := ⟨_, rfl⟩
  rw [← hb0] at A0 HF
  rw [← hb1] at A1 HF
  rw [← hb2] at A2 HF
  clear hb0 hb1 hb2 hm h0 h1 h2
  have HMF := hmf
  obtain ⟨n0, hn0⟩ : ∃ n, n = m.ps.length := ⟨_, rfl⟩
  obtain ⟨n1, hn1⟩ : ∃ n, n = m.ts.length := ⟨_, rfl⟩
  obtain ⟨n2, hn2⟩ : ∃ n, n = m.bs.length := ⟨_, rfl⟩
  rw [← hn0, ← hn1, ← hn2] at HTF
  rw [← hn0, ← hn1, ← hn2] at hR hW
  rw [← hn0] at k0 A0 l0
  rw [← hn1] at k1 A1 l1
  rw [← hn2] at k2 A2 l2
  rw [← hn0, ← hn1, ← hn2]
  have HR := Lib.hid hR
  have HB := Lib.hid hB
  have HWW := Lib.hid hW
  clear hn0 hn1 hn2 hR hB hW
  by_cases h0 : 4096 < n0
  · have d0 : decide (4096 < (n0 : Int)) = true := decide_eq_true (by omega)
    have er : r = 14 := by rw [HF.out, if_pos (HTF.out.2 (.inl h0))]
    clear h0
    subst er
    rw [HWW.out] at k0 HB
    go_enter Try.func11, Try.ntmps11
    go_wp2_with fail
    go_ret
    exact ⟨rfl, HB.out⟩
  · have d0 : decide (4096 < (n0 : Int)) = false := decide_eq_false (by omega)
    by_cases h1 : 4096 < n1
    · have d1 : decide (4096 < (n1 : Int)) = true := decide_eq_true (by omega)
      have er : r = 14 := by rw [HF.out, if_pos (HTF.out.2 (.inr (by omega)))]
      clear h0 h1
      subst er
      rw [HWW.out] at k0 k1 HB
      go_enter Try.func11, Try.ntmps11
      go_wp2_with fail
      go_ret
      exact ⟨rfl, HB.out⟩
    · have d1 : decide (4096 < (n1 : Int)) = false := decide_eq_false (by omega)
      have wr : IntKind.i64.wrap (4096 - (n1 : Int)) = 4096 - (n1 : Int) := wrap_in (by omega) (by omega)
      by_cases h2 : 4096 < n1 + n2
      · have d2 : decide (4096 - (n1 : Int) < (n2 : Int)) = true := decide_eq_true (by omega)
        have er : r = 14 := by rw [HF.out, if_pos (HTF.out.2 (.inr h2))]
        clear h0 h1 h2
        subst er
        rw [HWW.out] at k0 k1 k2 HB
        go_enter Try.func11, Try.ntmps11
        go_wp2_with fail
        go_ret
        exact ⟨rfl, HB.out⟩
      · have d2 : decide (4096 - (n1 : Int) < (n2 : Int)) = false := decide_eq_false (by omega)
        have er : r = if (b0 && b1 && b2) = true then 0 else 14 := by rw [HF.out, if_neg (fun h => by have := HTF.out.1 h; omega)]
        have HE := Lib.hid er
        clear h0 h1 h2 er HF HTF
        rw [HWW.out] at k0 k1 k2
        go_enter Try.func11, Try.ntmps11
        go_wp2_with fail
        rw [← HWW.out]
        clear k0 k1 k2
        refine A0.out.mono ?_
        rintro e w1 ⟨rfl, hb1⟩
        have HB1 := Lib.hid hb1
        have k1 := (hb1.cell (p := ⟨w.heap.size, 1, none⟩) (lt_of_heap HR.out)).trans (cell_row HR.out 1 (.slice a1 n1 c1) rfl)
        clear hb1
        cases b0
        · have he : r = 14 := by rw [HE.out]; rfl
          subst he
          go_wp2_with fail
          go_ret
          exact ⟨rfl, HB.out.trans (HB1.out.mono HB.out.size)⟩
        · go_wp2_with fail
          refine (A1.out _ HB1.out).mono ?_
          rintro e w2 ⟨rfl, hb2⟩
          have HB2 := Lib.hid (HB1.out.trans (hb2.mono HB1.out.size))
          clear hb2 k1
          have k2 := (HB2.out.cell (p := ⟨w.heap.size, 2, none⟩) (lt_of_heap HR.out)).trans (cell_row HR.out 2 (.slice a2 n2 c2) rfl)
          cases b1
          · have he : r = 14 := by rw [HE.out]; rfl
            subst he
            go_wp2_with fail
            go_ret
            exact ⟨rfl, HB.out.trans (HB2.out.mono HB.out.size)⟩
          · go_wp2_with fail
            refine (A2.out _ HB2.out).mono ?_
            rintro e w3 ⟨rfl, hb3⟩
            have HB3 := Lib.hid (HB2.out.trans (hb3.mono HB2.out.size))
            clear hb3 k2
            cases b2
            · have he : r = 14 := by rw [HE.out]; rfl
              subst he
              go_wp2_with fail
              go_ret
              exact ⟨rfl, HB.out.trans (HB3.out.mono HB.out.size)⟩
            · have he : r = 0 := by rw [HE.out]; rfl
              subst he
              go_wp2_with fail
              go_ret
              exact ⟨rfl, HB.out.trans (HB3.out.mono HB.out.size)⟩
set_option maxRecDepth 100000 in
theorem count_any (v : Value) (m : Msh) (w : World) (hm : IsMesh w v m) (hl : m.ts.length + m.bs.length ≤ 9223372036854775807) : Calls Try.prog 12 #[v] w (VTo (.int .i64 ((m.ts.length + m.bs.length : Nat) : Int)) w) := by
  obtain ⟨a0, c0, a1, c1, a2, c2, rfl, h0, h1, h2, l0, l1, l2⟩ := hm.open_
  have HB := Lib.hid (ext_alloc w (.cells #[.slice a0 m.ps.length c0, .slice a1 m.ts.length c1, .slice a2 m.bs.length c2] 31))
  have hR := heap_alloc_new w (.cells #[.slice a0 m.ps.length c0, .slice a1 m.ts.length c1, .slice a2 m.bs.length c2] 31)
  have k1 := cell_row hR 1 (.slice a1 m.ts.length c1) rfl
  have k2 := cell_row hR 2 (.slice a2 m.bs.length c2) rfl
  have wr : IntKind.i64.wrap ((m.ts.length : Int) + (m.bs.length : Int)) = ((m.ts.length + m.bs.length : Nat) : Int) := by rw [wrap_in (by omega) (by omega)]; omega
  obtain ⟨N, hN⟩ : ∃ N : Int, N = ((m.ts.length + m.bs.length : Nat) : Int) := ⟨_, rfl⟩
  rw [← hN] at wr ⊢
  clear hR h0 h1 h2 hm hl hN
  go_enter Try.func12, Try.ntmps12
  go_wp2_with fail
  go_ret
  exact ⟨rfl, HB.out⟩
end Go.Proofs.Ytdaokkgenfpmhaa.MeshC

/- The walks of ref12's near, there and Check. -/
set_option linter.unusedVariables false
set_option linter.unusedSimpArgs false
namespace Go.Proofs.Ytdaokkgenfpmhaa.MeshD
open Go.RowKit Go.Sort FixM Base Num Qb Qt VecW VecV VecU LightQ LightC MeshM Rec MeshA MeshB MeshC

theorem vec_step {W W' : World} {g : Nat} {o : Obj} (h : W.heap[g]? = some o) (hb : Below W.heap.size W W') : W'.heap[g]? = some o := (hb.block _ (lt_of_heap h)).trans h

abbrev mrow (a0 : Option Addr) (n0 c0 : Nat) (a1 : Option Addr) (n1 c1 : Nat) (a2 : Option Addr) (n2 c2 : Nat) : Array Value := #[.slice a0 n0 c0, .slice a1 n1 c1, .slice a2 n2 c2]
end Go.Proofs.Ytdaokkgenfpmhaa.MeshD

/- The walk of ref12's Check. -/
set_option linter.unusedVariables false
set_option linter.unusedSimpArgs false
namespace Go.Proofs.Ytdaokkgenfpmhaa.MeshE
open Go.RowKit Go.Sort FixM Base Num Qb Qt VecW VecV VecU LightQ LightC MeshM Rec MeshA MeshB MeshC MeshD

theorem all_upto {α : Type} {F : α → Bool} {l : List α} (h : ∀ j (h : j < l.length), F l[j] = true) : l.all F = true := by
  rw [List.all_eq_true]
  intro x hx
  obtain ⟨j, hj, rfl⟩ := List.mem_iff_getElem.1 hx
  exact h j hj
theorem all_not {α : Type} {F : α → Bool} {l : List α} (i : Nat) (hi : i < l.length) (h : F l[i] = false) : l.all F = false := by
  rw [← Bool.not_eq_true]
  intro hall
  have := List.all_eq_true.1 hall _ (List.getElem_mem hi)
  rw [h] at this
  cases this
end Go.Proofs.Ytdaokkgenfpmhaa.MeshE
