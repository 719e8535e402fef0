/- The state of package deflate's writer: its row, the bits writer, the bytes kept, the places noted; all in rows of their own. -/
import Derived.Test.YtighlefajekloaaBitsS
import Derived.Test.YtighlefajekloaaMapA
import Derived.Test.YtighlefajekloaaDm
import Derived.Test.YtighlefajekloaaNum
set_option linter.unusedVariables false
set_option linter.unusedSimpArgs false
namespace Go.Proofs.Ytighlefajekloaa.DefS
open Go Go.RowKit BitsM Base Low BitsW BitsX BitsS MapA DefM DefN
theorem ints : SeqSlice Try.prog 23 3 goInt (.int .i64 0) 8 := seqSlice Try.underlying23 (by kernel_rfl) rfl (fun _ => rfl)
def encP (p : Nat) : Value := .int .i64 (p : Int)
theorem intsP : SeqSlice Try.prog 23 3 encP (.int .i64 0) 8 := seqSlice Try.underlying23 (by kernel_rfl) rfl (fun _ => rfl)
/-- the blocks of a writer -/
inductive Lab where
  | w | o | ov | k | m
  | key (v : Value)
structure Dg where
  gW : Nat
  gO : Nat
  gM : Nat
  vO : Value
  vK : Value
  P : Value → Value
def Dg.blk (s : Dg) : Lab → Option Nat
  | .w => some s.gW
  | .o => some s.gO
  | .ov => s.vO.ownBlock
  | .k => s.vK.ownBlock
  | .m => some s.gM
  | .key v => (s.P v).ownBlock
/-- each block stands for one thing -/
def Apart (s : Dg) : Prop := ∀ x y b, s.blk x = some b → s.blk y = some b → x = y
/-- the places below n where three bytes stand -/
def plc (B : List Nat) (n a b c : Nat) : List Nat := (List.range n).filter fun p => B.getD p 0 == a && (B.getD (p + 1) 0 == b && B.getD (p + 2) 0 == c)
theorem plc_next (B : List Nat) (n a b c : Nat) : plc B (n + 1) a b c = if B.getD n 0 = a ∧ B.getD (n + 1) 0 = b ∧ B.getD (n + 2) 0 = c then plc B n a b c ++ [n] else plc B n a b c := by
  unfold plc
  rw [List.range_succ, List.filter_append]
  by_cases h : B.getD n 0 = a ∧ B.getD (n + 1) 0 = b ∧ B.getD (n + 2) 0 = c
  · rw [if_pos h]
    obtain ⟨h1, h2, h3⟩ := h
    rw [List.filter_cons_of_pos (by simp only [beq_iff_eq, Bool.and_eq_true]; exact ⟨h1, h2, h3⟩)]; rfl
  · rw [if_neg h, List.filter_cons_of_neg (by simpa using h)]; simp
theorem plc_append (B D : List Nat) (n a b c : Nat) (h : n + 2 ≤ B.length ∨ n = 0) : plc (B ++ D) n a b c = plc B n a b c := by
  unfold plc
  refine List.filter_congr fun p hp => ?_
  rw [List.mem_range] at hp
  have e : ∀ q, q < B.length → (B ++ D).getD q 0 = B.getD q 0 := fun q hq => by simp [List.getD_eq_getElem?_getD, List.getElem?_append_left hq]
  rw [e p (by omega), e (p + 1) (by omega), e (p + 2) (by omega)]
theorem plc_mem {B : List Nat} {n a b c p : Nat} : p ∈ plc B n a b c ↔ p < n ∧ B.getD p 0 = a ∧ B.getD (p + 1) 0 = b ∧ B.getD (p + 2) 0 = c := by
  simp [plc]
/-- the row of a writer -/
structure RowW (w : World) (s : Dg) (ended : Bool) (S N Z : Nat) : Prop where
  blk : w.heap[s.gW]? = some (.cells #[.bool true, .bool ended, .pointer (some ⟨s.gO, 0, none⟩), s.vK, .int .i64 0, .int .i64 (S : Int), .int .i64 (N : Int), .map (some s.gM), .int .i64 (Z : Int)] 93)
/-- all but the row -/
structure Dk (base : Nat) (w : World) (s : Dg) (V R T : Nat) (B : List Nat) (M : Nat) : Prop where
  wr : Wr base w s.gO s.vO V R T
  kept : Own .u8 256 5 base w s.vK B
  map_ : Pl w s.gM s.P
  keys : ∀ a b c, a < 256 → b < 256 → c < 256 → SeqOwn encP 3 base w (s.P (k3 a b c)) (plc B M a b c)
  apart : Apart s
  lowW : base ≤ s.gW
  lowM : base ≤ s.gM
structure Dw (base : Nat) (w : World) (s : Dg) (ended : Bool) (V R T : Nat) (B : List Nat) (S N Z : Nat) : Prop where
  row : RowW w s ended S N Z
  k : Dk base w s V R T B N
theorem RowW.lt {w : World} {s : Dg} {ended : Bool} {S N Z : Nat} (h : RowW w s ended S N Z) : s.gW < w.heap.size := lt_of_heap h.blk
theorem RowW.keep {w w' : World} {s : Dg} {ended : Bool} {S N Z : Nat} (h : RowW w s ended S N Z) (e : w'.heap[s.gW]? = w.heap[s.gW]?) : RowW w' s ended S N Z := ⟨by rw [e]; exact h.blk⟩
theorem RowW.below {w w' : World} {s : Dg} {ended : Bool} {S N Z : Nat} (h : RowW w s ended S N Z) {B : Nat} (hb : Below B w w') (hB : w.heap.size ≤ B) : RowW w' s ended S N Z := h.keep (hb.block _ (Nat.lt_of_lt_of_le h.lt hB))
theorem full_of {base : Nat} {w : World} {v : Value} {l : List Nat} {x E : Nat} (h : SeqOwn encP E base w v (l ++ [x])) : Full v := by
  have hl : (l ++ [x]).length = l.length + 1 := by simp
  rcases h.row.2 with ⟨e, h0⟩ | ⟨g, cap, cur, e, -⟩
  · rw [hl] at h0; omega
  · exact ⟨_, l.length, cap, by rw [e, hl]⟩
/-- a place of no key in the map holds nothing -/
theorem Pl.none {w : World} {g : Nat} {V : Value → Value} (h : Pl w g V) (v : Value) (hv : ¬ Key v) : V v = .slice none 0 0 := by
  obtain ⟨es, clock, -, -, hk, hn, -⟩ := h
  exact hn v fun x hx e => hv (e ▸ (hk x hx).1)
theorem Dk.low {base : Nat} {w : World} {s : Dg} {V R T : Nat} {B : List Nat} {M : Nat} (h : Dk base w s V R T B M) : ∀ x b, x ≠ .w → s.blk x = some b → base ≤ b ∧ b < w.heap.size := by
  intro x b hx hb
  cases x with
  | w => exact absurd rfl hx
  | o => cases hb; exact ⟨h.wr.low, h.wr.lt⟩
  | ov => exact h.wr.own.lt b hb
  | k => exact h.kept.lt b hb
  | m => cases hb; exact ⟨h.lowM, h.map_.lt⟩
  | key v =>
    by_cases hv : Key v
    · obtain ⟨a, b', c, h1, h2, h3, rfl⟩ := hv
      exact (h.keys a b' c h1 h2 h3).lt b hb
    · have := Pl.none h.map_ v hv
      simp [Dg.blk, this, Value.ownBlock] at hb
theorem Dw.low {base : Nat} {w : World} {s : Dg} {ended : Bool} {V R T : Nat} {B : List Nat} {S N Z : Nat} (h : Dw base w s ended V R T B S N Z) : ∀ x b, s.blk x = some b → base ≤ b ∧ b < w.heap.size := by
  intro x b hb
  by_cases hx : x = .w
  · subst hx; cases hb; exact ⟨h.k.lowW, h.row.lt⟩
  · exact h.k.low x b hx hb
/-- what leaves the blocks of a writer leaves the writer -/
theorem Dk.frame {base : Nat} {w w' : World} {s : Dg} {V R T : Nat} {B : List Nat} {M : Nat} {D : Nat → Prop} (h : Dk base w s V R T B M) (hk : Keeps D w w') (hD : ∀ x b, x ≠ .w → s.blk x = some b → ¬ D b) : Dk base w' s V R T B M :=
  ⟨h.wr.frame hk (fun k hf => by rcases hf with rfl | hf; exact hD .o _ (by simp) rfl; exact hD .ov _ (by simp) hf), h.kept.frame hk (fun b hb => hD .k b (by simp) hb), h.map_.keep (hk.block _ h.map_.lt (hD .m _ (by simp) rfl)),
    fun a b c ha hb hc => (h.keys a b c ha hb hc).frame hk (fun b' hb' => hD (.key (k3 a b c)) b' (by simp) hb'), h.apart, h.lowW, h.lowM⟩
theorem Dk.ext {base : Nat} {w w' : World} {s : Dg} {V R T : Nat} {B : List Nat} {M : Nat} (h : Dk base w s V R T B M) (hb : Below w.heap.size w w') : Dk base w' s V R T B M :=
  h.frame (Keeps.of_ext hb (fun _ => False)) (fun _ _ _ _ => id)
theorem Dw.frame {base : Nat} {w w' : World} {s : Dg} {ended : Bool} {V R T : Nat} {B : List Nat} {S N Z : Nat} {D : Nat → Prop} (h : Dw base w s ended V R T B S N Z) (hk : Keeps D w w') (hD : ∀ x b, s.blk x = some b → ¬ D b) : Dw base w' s ended V R T B S N Z :=
  ⟨h.row.keep (hk.block _ h.row.lt (hD .w _ rfl)), h.k.frame hk (fun x b _ hb => hD x b hb)⟩
theorem Dw.ext {base : Nat} {w w' : World} {s : Dg} {ended : Bool} {V R T : Nat} {B : List Nat} {S N Z : Nat} (h : Dw base w s ended V R T B S N Z) (hb : Below w.heap.size w w') : Dw base w' s ended V R T B S N Z :=
  h.frame (Keeps.of_ext hb (fun _ => False)) (fun _ _ _ => id)
/-- a block of a writer -/
def Dg.own (s : Dg) (k : Nat) : Prop := ∃ x, s.blk x = some k
theorem keeps_setBlock (w : World) (g : Nat) (o : Obj) : Keeps (fun k => k = g) w (Go.ChangeMaps.setBlock w g o) :=
  ⟨rfl, rfl, rfl, by simp [Go.ChangeMaps.setBlock], fun k _ hk => by
    show (w.heap.setIfInBounds g o)[k]? = w.heap[k]?
    rw [Array.getElem?_setIfInBounds_ne (by omega)]⟩
/-- one place is noted -/
theorem Dk.note {base : Nat} {w : World} {s : Dg} {V R T : Nat} {B : List Nat} {N a b c : Nat} {w3 : World} {v' : Value} (h : Dk base w s V R T B N) (ha : B.getD N 0 = a) (hb : B.getD (N + 1) 0 = b) (hc : B.getD (N + 2) 0 = c)
    (hk : Keeps (fun k => k = s.gM ∨ (s.P (k3 a b c)).ownBlock = some k) w w3) (hv : SeqOwn encP 3 base w3 v' (plc B N a b c ++ [N])) (hp : Pl w3 s.gM (updV s.P (k3 a b c) v')) (hvb : v'.ownBlock = (s.P (k3 a b c)).ownBlock ∨ ∀ k, v'.ownBlock = some k → w.heap.size ≤ k) (hW : s.gW < w.heap.size) :
    Dk base w3 { s with P := updV s.P (k3 a b c) v' } V R T B (N + 1) := by
  have old : ∀ x k, x ≠ .m → x ≠ .key (k3 a b c) → s.blk x = some k → ¬ (k = s.gM ∨ (s.P (k3 a b c)).ownBlock = some k) := by
    rintro x k h1 h2 hx (rfl | e)
    · exact h1 (h.apart x .m _ hx rfl)
    · exact h2 (h.apart x (.key (k3 a b c)) _ hx e)
  have hlt : ∀ x k, s.blk x = some k → k < w.heap.size := by
    intro x k hx
    by_cases e : x = .w
    · subst e; cases hx; exact hW
    · exact (h.low x k e hx).2
  refine ⟨h.wr.frame hk (fun k hf => by rcases hf with rfl | hf; exact old .o _ (by simp) (by simp) rfl; exact old .ov _ (by simp) (by simp) hf), h.kept.frame hk (fun k hx => old .k k (by simp) (by simp) hx), hp, ?_, ?_, h.lowW, h.lowM⟩
  · intro a' b' c' h1 h2 h3
    rw [plc_next]
    by_cases e : a = a' ∧ b = b' ∧ c = c'
    · obtain ⟨rfl, rfl, rfl⟩ := e
      rw [if_pos ⟨ha, hb, hc⟩]
      show SeqOwn encP 3 base w3 (updV s.P (k3 a b c) v' (k3 a b c)) _
      rw [updV_same]; exact hv
    · rw [if_neg (by rw [ha, hb, hc]; exact e)]
      have hne : ¬ k3 a' b' c' = k3 a b c := by
        intro e2
        simp only [k3, Value.agg.injEq, Array.mk.injEq, List.cons.injEq, Value.int.injEq, true_and, and_true] at e2
        exact e ⟨by omega, by omega, by omega⟩
      show SeqOwn encP 3 base w3 (updV s.P (k3 a b c) v' (k3 a' b' c')) _
      rw [updV_other _ _ hne]
      exact (h.keys a' b' c' h1 h2 h3).frame hk (fun k hx => old (.key (k3 a' b' c')) k (by simp) (by simp only [ne_eq, Lab.key.injEq]; exact hne) hx)
  · have bl : ∀ x k, ({ s with P := updV s.P (k3 a b c) v' } : Dg).blk x = some k → s.blk x = some k ∨ (x = .key (k3 a b c) ∧ w.heap.size ≤ k) := by
      intro x k hx
      cases x with
      | w => exact .inl hx
      | o => exact .inl hx
      | ov => exact .inl hx
      | k => exact .inl hx
      | m => exact .inl hx
      | key v =>
        by_cases e : v = k3 a b c
        · subst e
          have hx2 : (updV s.P (k3 a b c) v' (k3 a b c)).ownBlock = some k := hx
          rw [updV_same] at hx2
          rcases hvb with h1 | h1
          · exact .inl (h1.symm.trans hx2)
          · exact .inr ⟨rfl, h1 k hx2⟩
        · have hx2 : (updV s.P (k3 a b c) v' v).ownBlock = some k := hx
          rw [updV_other _ _ e] at hx2
          exact .inl hx2
    intro x y k hx hy
    rcases bl x k hx with h1 | ⟨h1, h2⟩ <;> rcases bl y k hy with h3 | ⟨h3, h4⟩
    · exact h.apart x y k h1 h3
    · have := hlt x k h1; omega
    · have := hlt y k h3; omega
    · rw [h1, h3]
end Go.Proofs.Ytighlefajekloaa.DefS
