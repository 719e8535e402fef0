/- A row of numbers cut: 's[:n]' and 's[n:]' as laws at the operation, whatever the address. No program is named here. -/
import Derived.Test.YtighlefajekloaaBase
set_option linter.unusedVariables false
set_option linter.unusedSimpArgs false
namespace Go.Proofs.Ytighlefajekloaa.NumSl
open Go.RowKit Base
variable {P : Program}
theorem add_none (b off j : Nat) : ((⟨b, off, none⟩ : Addr).add j) = ⟨b, off + j, none⟩ := by unfold Addr.add; split <;> simp_all
theorem nums_none {k : IntKind} {N : Nat} {w : World} {len cap : Nat} {l : List Nat} (h : Nums k N w (.slice none len cap) l) : l = [] ∧ len = 0 ∧ cap = 0 := by
  obtain ⟨a, c, e, h1, h2, h3⟩ := h.shape
  simp only [Value.slice.injEq] at e
  obtain ⟨rfl, rfl, rfl⟩ := e
  have := h3 rfl
  exact ⟨List.eq_nil_of_length_eq_zero this.1, this.1, this.2⟩
theorem nums_len {k : IntKind} {N : Nat} {w : World} {a : Option Addr} {len cap : Nat} {l : List Nat} (h : Nums k N w (.slice a len cap) l) : len = l.length ∧ len ≤ cap ∧ cap ≤ maxLen := by
  obtain ⟨a', c, e, h1, h2, h3⟩ := h.shape
  simp only [Value.slice.injEq] at e
  obtain ⟨rfl, rfl, rfl⟩ := e
  exact ⟨rfl, h1, h2⟩
theorem nums_cut {k : IntKind} {N : Nat} {w : World} {a : Option Addr} {len cap : Nat} {l : List Nat} (h : Nums k N w (.slice a len cap) l) (x y : Nat) (hxy : x ≤ y) (hy : y ≤ len) : Nums k N w (sliced a x y cap 1) ((l.take y).drop x) ∧ ∀ b, (sliced a x y cap 1).ownBlock = some b → (Value.slice a len cap).ownBlock = some b := by
  obtain ⟨h1, h2, h3⟩ := nums_len h
  have hll : ((l.take y).drop x).length = y - x := by simp; omega
  cases a with
  | none =>
    obtain ⟨rfl, rfl, rfl⟩ := nums_none h
    obtain rfl : y = 0 := by omega
    obtain rfl : x = 0 := by omega
    exact ⟨Nums.nil k N w, fun b hb => by simp [sliced, Value.ownBlock] at hb⟩
  | some ad =>
    refine ⟨⟨⟨_, cap - x, by unfold sliced; rw [hll], by rw [hll]; omega, by omega, fun e => ?_⟩, fun z hz => h.bound z (List.mem_of_mem_take (List.mem_of_mem_drop hz)), fun hne => ?_⟩, ?_⟩
    · split at e <;> simp at e
    · have hpos : 0 < y - x := by
        rcases Nat.eq_zero_or_pos (y - x) with h0 | h0
        · exact absurd (List.eq_nil_of_length_eq_zero (hll.trans h0)) hne
        · exact h0
      obtain ⟨b, off, c, e, hb, hc⟩ := h.cells (by intro h0; subst h0; simp at h1; omega)
      simp only [Value.slice.injEq, Option.some.injEq] at e
      obtain ⟨rfl, e2, rfl⟩ := e
      refine ⟨b, off + x, cap - x, by unfold sliced; rw [hll, if_neg (by omega), Option.map_some, Nat.mul_one, add_none], hb, fun i hi => ?_⟩
      rw [hll] at hi
      rw [Nat.add_assoc, hc (x + i) (by omega)]
      simp
    · intro b hb
      unfold sliced at hb
      split at hb
      · exact hb
      · simp only [Option.map_some, Value.ownBlock] at hb ⊢
        rw [← hb]
        unfold Addr.add; split <;> rfl
theorem run_size {T E : TypeId} {k : IntKind} {bytes : Nat} (hT : NumSlice P T E k bytes) (w : World) : (sizeOf (P.elem T)).run P w = .ok 1 w := by
  obtain ⟨i, hi, hz, h1, h2⟩ := hT.info
  have : P.elem T = E := by simp [Program.elem, hT.und]
  rw [this]
  simp [sizeOf, typeInfo, hi, h1]
theorem NumSlice.elem {T E : TypeId} {k : IntKind} {bytes : Nat} (hT : NumSlice P T E k bytes) : P.underlying T = some (.slice (P.elem T)) := by
  have : P.elem T = E := by simp [Program.elem, hT.und]
  rw [this]; exact hT.und
/-- 's[:n]' -/
theorem wpList_slice_h {w : World} {ops : Array Oper} {rest : List Oper} {o : Oper} {A : Act} {Q : Exit → Act → World → Prop} (hgd : o.guard = none) (T E : TypeId) (x hi : Operand)
    (ho : o.op = .slice T x none (some hi) none) (k : IntKind) (N bytes : Nat) (hT : NumSlice P T E k bytes) (a : Option Addr) (len cap : Nat) (l : List Nat) (hx : A.eval x = .slice a len cap) (hu : Nums k N w (.slice a len cap) l)
    (kn : IntKind) (n : Nat) (hh : A.eval hi = .int kn (n : Int)) (hn : n ≤ len)
    (h : ∀ a' c', (∀ w1, Nums k N w1 (.slice a len cap) l → Nums k N w1 (.slice a' n c') (l.take n)) → (∀ b, (Value.slice a' n c').ownBlock = some b → (Value.slice a len cap).ownBlock = some b) → wpList P ops Q rest (A.put o.dst (.slice a' n c')) w) : wpList P ops Q (o :: rest) A w := by
  refine wpList_plain hgd fun K hK => ?_
  obtain ⟨h1, h2, h3⟩ := nums_len hu
  have hrun := run_slice_h (P := P) w T a len cap (NumSlice.elem hT) kn (n : Int) (by omega) (by omega)
  rw [run_size hT, Int.toNat_natCast] at hrun
  obtain ⟨e1, e2⟩ := nums_cut hu 0 n (Nat.zero_le _) hn
  have hA := run_sliceAt_slice (P := P) w T (.slice a len cap) none (some (.int kn (n : Int))) none (NumSlice.elem hT)
  unfold Oper.wp
  simp only [execOp, ho, hx, hh, Option.map_none, Option.map_some]
  simp [hA, hrun, Result.andThen]
  exact hK _ _ (h _ _ (fun w1 h1 => by have := (nums_cut h1 0 n (Nat.zero_le _) hn).1; simpa [sliced] using this) e2)
/-- 's[n:]' -/
theorem wpList_slice_l {w : World} {ops : Array Oper} {rest : List Oper} {o : Oper} {A : Act} {Q : Exit → Act → World → Prop} (hgd : o.guard = none) (T E : TypeId) (x lo : Operand)
    (ho : o.op = .slice T x (some lo) none none) (k : IntKind) (N bytes : Nat) (hT : NumSlice P T E k bytes) (a : Option Addr) (len cap : Nat) (l : List Nat) (hx : A.eval x = .slice a len cap) (hu : Nums k N w (.slice a len cap) l)
    (kn : IntKind) (n : Nat) (hh : A.eval lo = .int kn (n : Int)) (hn : n ≤ len)
    (h : ∀ a' c', (∀ w1, Nums k N w1 (.slice a len cap) l → Nums k N w1 (.slice a' (len - n) c') (l.drop n)) → (∀ b, (Value.slice a' (len - n) c').ownBlock = some b → (Value.slice a len cap).ownBlock = some b) → wpList P ops Q rest (A.put o.dst (.slice a' (len - n) c')) w) : wpList P ops Q (o :: rest) A w := by
  refine wpList_plain hgd fun K hK => ?_
  obtain ⟨h1, h2, h3⟩ := nums_len hu
  have hrun := run_slice_l (P := P) w T a len cap (NumSlice.elem hT) kn (n : Int) (by omega) (by omega)
  rw [run_size hT, Int.toNat_natCast] at hrun
  obtain ⟨e1, e2⟩ := nums_cut hu n len hn (Nat.le_refl _)
  have hA := run_sliceAt_slice (P := P) w T (.slice a len cap) (some (.int kn (n : Int))) none none (NumSlice.elem hT)
  unfold Oper.wp
  simp only [execOp, ho, hx, hh, Option.map_none, Option.map_some]
  simp [hA, hrun, Result.andThen]
  exact hK _ _ (h _ _ (fun w1 hw1 => by have := (nums_cut hw1 n len hn (Nat.le_refl _)).1; rw [h1] at this ⊢; simpa [sliced] using this) e2)
theorem sliced_is (a : Option Addr) (x y c s : Nat) : ∃ a' , sliced a x y c s = .slice a' (y - x) (c - x) := ⟨_, rfl⟩
end Go.Proofs.Ytighlefajekloaa.NumSl
