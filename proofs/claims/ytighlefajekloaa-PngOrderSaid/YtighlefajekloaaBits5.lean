/- The walks of chapter 05's reference (bit by bit). -/
import Derived.Test.YtighlefajekloaaBitsN
import Derived.Test.YtighlefajekloaaLow
import Derived.Test.YtighlefajekloaaBase2
set_option linter.unusedVariables false
set_option linter.unusedSimpArgs false
namespace Go.Proofs.Ytighlefajekloaa.Bits5
open Go.RowKit BitsM Base Low

theorem bools : SeqSlice Try.prog 25 4 Value.bool (.bool false) 1 := seqSlice Try.underlying25 (by kernel_rfl) rfl (fun _ => rfl)
theorem u64_pow (k : Nat) (hk : k ≤ 32) : IntKind.u64.wrap ((2 : Int) ^ k) = ((2 ^ k : Nat) : Int) := by
  have h2 : 2 ^ k ≤ 2 ^ 32 := Nat.pow_le_pow_right (by omega) hk
  have e : ((2 : Int) ^ k) = ((2 ^ k : Nat) : Int) := by simp
  rw [e, IntKind.wrap_u64]; generalize 2 ^ k = q at *; omega
theorem u64_nat (n : Nat) (hn : n ≤ 4294967295) : IntKind.u64.wrap (n : Int) = (n : Int) := by rw [IntKind.wrap_u64]; omega

/-- what the reference's Put leaves -/
def RPut (w : World) (L : List Bool) (t : Int) (e : Ending) (w' : World) : Prop :=
  ∃ v', e = .returned (.tuple #[.agg #[v', .int .i64 t], .int .i64 0]) ∧ SeqOwn Value.bool 4 w.heap.size w' v' L ∧ Below w.heap.size w w'

set_option maxRecDepth 100000 in
set_option maxHeartbeats 1000000 in
theorem rput_any (v : Value) (L : List Bool) (t : Int) (w : World) (hv : Seq Value.bool w v L) (n k : Nat) (hk : k ≤ 32) (hn : n < 2 ^ k) (hL : L.length ≤ 1000000) :
    Calls Try.prog 69 #[.agg #[v, .int .i64 t], .int .u32 (n : Int), .int .i64 (k : Int)] w (RPut w (L ++ bitsOf n k) t) := by
  have h2 : 2 ^ k ≤ 2 ^ 32 := Nat.pow_le_pow_right (by omega) hk
  have d1 : decide ((k : Int) < 0) = false := by simp
  have d2 : decide ((32 : Int) < (k : Int)) = false := by simp; omega
  have d3 : decide (IntKind.u64.wrap ((2 : Int) ^ k) ≤ IntKind.u64.wrap (n : Int)) = false := by rw [u64_pow k hk, u64_nat n (by omega)]; generalize 2 ^ k = q at *; simp; omega
  have hn32 : n ≤ 4294967295 := by generalize 2 ^ k = q at *; omega
  rw [u64_nat n hn32] at d3
  clear h2
  obtain ⟨a, cap, rfl, h1, -⟩ := hv.open_
  have hN := Lib.hid hn
  obtain ⟨W, hW⟩ : ∃ W, W = (w.alloc (.cells #[.slice a L.length cap, .int .i64 t] 60)).alloc (.cells #[.slice none 0 0, .int .i64 0] 60) := ⟨_, rfl⟩
  have hBW : Below w.heap.size w W := by rw [hW]; exact ((Below.refl w.heap.size w).alloc (Nat.le_refl _) _).alloc (by simp) _
  have hk1 : W.heap[w.heap.size]? = some (.cells #[.slice a L.length cap, .int .i64 t] 60) := by
    rw [hW, heap_alloc_old _ _ (by simp)]; exact heap_alloc_new _ _
  have hk2 : W.heap[w.heap.size + 1]? = some (.cells #[.slice none 0 0, .int .i64 0] 60) := by
    rw [hW, show w.heap.size + 1 = (w.alloc (.cells #[.slice a L.length cap, .int .i64 t] 60)).heap.size from by simp]; exact heap_alloc_new _ _
  have hsz : W.heap.size = w.heap.size + 2 := by rw [hW]; simp
  have hV2 := Lib.hid (hv.below hBW (Nat.le_refl _))
  have hlen : (([] : List Bool).length + L.length) * 1 ≤ 140737488355328 := by simp; omega
  have hlen2 : ([] : List Bool).length + L.length ≤ 140737488355328 := by simp; omega
  have hX := Lib.hid (And.intro hBW (And.intro hk1 (And.intro hk2 hsz)))
  clear hv hn hk1 hk2 hsz hBW
  go_enter Try.func69, Try.ntmps69
  go_wp2_with (at_builtin; rw [← hW]; refine wpList_append_seq rfl (.tmp 25) (.tmp 27) 25 4 rfl (.bool false) 1 W.heap.size bools (.slice none 0 0) [] rfl (SeqOwn.nil _ _ _) _ L rfl hV2.out hlen hlen2 (Nat.le_refl _) ?_; intro v1 w1 hown hgr hfr)
  have hO1 : SeqOwn Value.bool 4 W.heap.size w1 v1 L := hown
  have hB1 : Below W.heap.size W w1 := (Below.refl _ _).grown hgr (Nat.le_refl _) (fun k h => by simp [Value.ownBlock] at h)
  clear hown hgr hfr hW
  go_loopg [1, 8, 9] k (fun r n1 n8 n9 wr => ∃ (i : Nat) (v' : Value), i + r = k ∧ n1 = .int .u32 ((n / 2 ^ i : Nat) : Int) ∧ n8 = v' ∧ n9 = .int .i64 (i : Int) ∧ SeqOwn Value.bool 4 W.heap.size wr v' (L ++ bitsOf n i) ∧ Below W.heap.size W wr)
  case atStart => exact ⟨0, v1, by omega, by simp, rfl, rfl, by simpa [bitsOf] using hO1, hB1⟩
  case round =>
    obtain ⟨i, v', hir, rfl, rfl, rfl, hown, hbl⟩ := hrel
    have hO := Lib.hid hown
    have hB := Lib.hid hbl
    clear hown hbl hO1 hB1
    by_cases hik : i < k
    · obtain ⟨m, hm⟩ : ∃ m, m = n / 2 ^ i := ⟨_, rfl⟩
      rw [← hm]
      have hm32 : m ≤ 4294967295 := by rw [hm]; exact Nat.le_trans (Nat.div_le_self _ _) hn32
      have hm2 : IntKind.u32.wrap ((m : Int).tdiv 2) = ((m / 2 : Nat) : Int) := by rw [IntKind.wrap_u32, Int.tdiv_eq_ediv_of_nonneg (by omega)]; omega
      have hM := Lib.hid hm
      clear hm
      have hs1 := Lib.hid (seq_one (enc := Value.bool) 4 wr (decide (m % 2 = 1)) (.bool ((m : Int) % 2 == 1)) (by congr 1; rw [Bool.eq_iff_iff]; simp; omega))
      have hO2 := Lib.hid (hO.out.alloc (.cells #[.bool ((m : Int) % 2 == 1)] 4))
      have hl1 : ((L ++ bitsOf n i).length + [decide (m % 2 = 1)].length) * 1 ≤ 140737488355328 := by simp [bitsOf_length]; omega
      have hl2 : (L ++ bitsOf n i).length + [decide (m % 2 = 1)].length ≤ 140737488355328 := by simp [bitsOf_length]; omega
      have hbs : W.heap.size ≤ (wr.alloc (.cells #[.bool ((m : Int) % 2 == 1)] 4)).heap.size := by have := hB.out.size; simp; omega
      have hB2 := Lib.hid (hB.out.alloc hB.out.size (.cells #[.bool ((m : Int) % 2 == 1)] 4))
      go_wp2_with (at_builtin; refine wpList_append_seq rfl (.tmp 34) (.tmp 38) 25 4 rfl (.bool false) 1 W.heap.size bools _ _ rfl hO2.out _ _ rfl hs1.out hl1 hl2 hbs ?_; intro v2 w2 hown hgr hfr)
      have hB3 := Lib.hid (hB2.out.grown hgr hbs (fun k h => (hO2.out.lt k h).1))
      have hO3 := Lib.hid hown
      clear hown hgr hfr
      go_roundg (k - (i + 1))
      case measure => omega
      case rel =>
        refine ⟨i + 1, v2, by omega, ?_, rfl, rfl, ?_, hB3.out⟩
        · rw [hM.out, Nat.pow_succ, ← Nat.div_div_eq_div_mul]; rfl
        · rw [bitsOf_snoc, ← List.append_assoc, ← hM.out]; exact hO3.out
    · obtain rfl : i = k := by omega
      obtain ⟨both, hboth⟩ : ∃ l, l = L ++ bitsOf n i := ⟨_, rfl⟩
      rw [← hboth] at hO ⊢
      have hBo := Lib.hid hboth
      clear hboth
      obtain ⟨a2, cap2, rfl, -, -⟩ := hO.out.seq.open_
      have q1 : wr.heap[w.heap.size]? = _ := (hB.out.block _ (by have := hX.out.2.2.2; omega)).trans hX.out.2.1
      have q2 : wr.heap[w.heap.size + 1]? = _ := (hB.out.block _ (by have := hX.out.2.2.2; omega)).trans hX.out.2.2.1
      have c1 := (cell_of_row _ _ 0 _ _ _ q1)
      have c2 := (cell_of_row _ _ 1 _ _ _ q1)
      have f1 := frozen_of_row _ _ 0 _ _ q1
      have c3 := (cell_of_row _ _ 0 _ _ _ q2)
      have c4 := (cell_of_row _ _ 1 _ _ _ q2)
      have f3 := frozen_of_row _ _ 0 _ _ q2
      have f4 := frozen_of_row _ _ 1 _ _ q2
      simp only [List.getElem?_toArray, List.getElem?_cons_succ, List.getElem?_cons_zero] at c1 c2 c3 c4
      have q2 := Lib.hid q2
      clear q1
      go_wp2
      refine bodyPost_ret (results_row_tmp rfl _ _ _ (w.heap.size + 1) 60 #[.slice a2 both.length cap2, .int .i64 t] _ _ rfl (by rw [heap_setCell_same _ _ _ _ _ _ (heap_setCell_same _ _ _ _ _ _ ((heap_setCell_other _ _ _ _ (by simp)).trans q2.out))]; rfl) Try.underlying60 (by kernel_rfl)) rfl ?_
      have hK := ((((Keeps.refl (fun k => k = w.heap.size ∨ k = w.heap.size + 1) wr).setCell w.heap.size 0 (.slice a2 both.length cap2) (.inl (.inl rfl))).setCell (w.heap.size + 1) 0 (.slice a2 both.length cap2) (.inl (.inr rfl))).setCell (w.heap.size + 1) 1 (.int .i64 t) (.inl (.inr rfl)))
      obtain ⟨x1, -, -, x4⟩ := hX.out
      refine ⟨_, rfl, ?_, ?_⟩
      · rw [← hBo.out]
        refine SeqOwn.mono (base := W.heap.size) (hO.out.frame hK ?_) (by omega)
        intro b hb; have := (hO.out.lt b hb).1; omega
      · exact (x1.trans (hB.out.mono (by omega))).trans (hK.below w.heap.size (by have := hB.out.size; omega) (by rintro k (rfl | rfl) <;> omega))

set_option maxRecDepth 100000 in
set_option maxHeartbeats 1000000 in
theorem rput_bad (a : Option Addr) (len cap : Nat) (t : Int) (w : World) (n : Nat) (hn : n ≤ 4294967295) (k : Int) (hk1 : -9223372036854775808 ≤ k) (hk2 : k ≤ 9223372036854775807) (hbad : k < 0 ∨ 32 < k ∨ ∃ j : Nat, k = (j : Int) ∧ 2 ^ j ≤ n) :
    Calls Try.prog 69 #[.agg #[.slice a len cap, .int .i64 t], .int .u32 (n : Int), .int .i64 k] w fun e w' => e = .returned (.tuple #[.agg #[.slice a len cap, .int .i64 t], .int .i64 2]) ∧ Below w.heap.size w w' := by
  have hB := Lib.hid (ext_trans (ext_alloc w (.cells #[.slice a len cap, .int .i64 t] 60)) (ext_alloc (w.alloc (.cells #[.slice a len cap, .int .i64 t] 60)) (.cells #[.slice a len cap, .int .i64 t] 60)))
  have hq := Lib.hid (heap_alloc_new (w.alloc (.cells #[.slice a len cap, .int .i64 t] 60)) (.cells #[.slice a len cap, .int .i64 t] 60))
  have hN := Lib.hid hn
  rcases (show (k < 0) ∨ (0 ≤ k ∧ 32 < k) ∨ (0 ≤ k ∧ k ≤ 32 ∧ ∃ j : Nat, k = (j : Int) ∧ 2 ^ j ≤ n) from by
    rcases hbad with h | h | h
    · exact .inl h
    · exact .inr (.inl ⟨by omega, h⟩)
    · rcases Int.lt_or_le k 0 with h0 | h0
      · exact .inl h0
      · rcases Int.lt_or_le 32 k with h1 | h1
        · exact .inr (.inl ⟨h0, h1⟩)
        · exact .inr (.inr ⟨h0, h1, h⟩)) with h | ⟨h0, h⟩ | ⟨h0, h1, j, rfl, hj⟩
  · clear hbad hn
    have d1 : decide (k < 0) = true := by simp; omega
    go_enter Try.func69, Try.ntmps69
    go_wp2_with (fail)
    refine bodyPost_ret (results_row_tmp rfl _ _ _ (w.heap.size + 1) 60 #[.slice a len cap, .int .i64 t] _ _ rfl (by have := hq.out; simpa using this) Try.underlying60 (by kernel_rfl)) rfl ?_
    exact ⟨rfl, hB.out⟩
  · clear hbad hn
    have d1 : decide (k < 0) = false := by simp; omega
    have d2 : decide (32 < k) = true := by simp; omega
    go_enter Try.func69, Try.ntmps69
    go_wp2_with (fail)
    refine bodyPost_ret (results_row_tmp rfl _ _ _ (w.heap.size + 1) 60 #[.slice a len cap, .int .i64 t] _ _ rfl (by have := hq.out; simpa using this) Try.underlying60 (by kernel_rfl)) rfl ?_
    exact ⟨rfl, hB.out⟩
  · clear hbad
    have d1 : decide ((j : Int) < 0) = false := by simp
    have d2 : decide (32 < (j : Int)) = false := by simp; omega
    have d3 : decide (IntKind.u64.wrap ((2 : Int) ^ j) ≤ (n : Int)) = true := by rw [u64_pow j (by omega)]; generalize 2 ^ j = q at *; simp; omega
    clear hj
    go_enter Try.func69, Try.ntmps69
    go_wp2_with (fail)
    refine bodyPost_ret (results_row_tmp rfl _ _ _ (w.heap.size + 1) 60 #[.slice a len cap, .int .i64 t] _ _ rfl (by have := hq.out; simpa using this) Try.underlying60 (by kernel_rfl)) rfl ?_
    exact ⟨rfl, hB.out⟩

theorem rput_zero (v : Value) (L : List Bool) (t : Int) (w : World) (hv : Seq Value.bool w v L) (hL : L.length ≤ 1000000) :
    Calls Try.prog 69 #[.agg #[v, .int .i64 t], .int .u32 0, .int .i64 1] w (RPut w (L ++ [false]) t) := by
  have h := rput_any v L t w hv 0 1 (by omega) (by omega) hL
  simpa [bitsOf] using h
/-- a block of cells of a type -/
def TyB (E : TypeId) (w : World) (b : Nat) : Prop := ∃ cs fr, w.heap[b]? = some (.cells cs E fr)
theorem TyB.lt {E : TypeId} {w : World} {b : Nat} (h : TyB E w b) : b < w.heap.size := by
  obtain ⟨cs, fr, h⟩ := h
  exact lt_of_heap h
theorem TyB.keep {E : TypeId} {w w' : World} {b : Nat} {D : Nat → Prop} (h : TyB E w b) (hk : Keeps D w w') (hD : ¬ D b) : TyB E w' b := by
  obtain ⟨cs, fr, h1⟩ := h
  exact ⟨cs, fr, (hk.block b (lt_of_heap h1) hD).trans h1⟩
theorem TyB.below {E : TypeId} {w w' : World} {b B : Nat} (h : TyB E w b) (hb : Below B w w') (hB : w.heap.size ≤ B) : TyB E w' b := by
  obtain ⟨cs, fr, h1⟩ := h
  exact ⟨cs, fr, (hb.block b (Nat.lt_of_lt_of_le (lt_of_heap h1) hB)).trans h1⟩
/-- a row of bits that lies in the world -/
structure Sq (w : World) (v : Value) (L : List Bool) : Prop where
  sq : Seq Value.bool w v L
  ty : ∀ b, v.ownBlock = some b → TyB 4 w b
theorem Sq.lt {w : World} {v : Value} {L : List Bool} (h : Sq w v L) : ∀ b, v.ownBlock = some b → b < w.heap.size := fun b hb => (h.ty b hb).lt
theorem ty_own {α : Type} {enc : α → Value} {E base : Nat} {w : World} {v : Value} {l : List α} (h : SeqOwn enc E base w v l) : ∀ b, v.ownBlock = some b → TyB E w b := by
  intro b hb
  rcases h.row.2 with ⟨e, -⟩ | ⟨g, c, cur, e, -, hg, -⟩
  · rw [e] at hb; cases hb
  · rw [e] at hb
    simp only [Value.ownBlock, Option.some.injEq] at hb
    subst hb
    exact ⟨_, _, hg⟩
theorem Sq.of_own {base : Nat} {w : World} {v : Value} {L : List Bool} (h : SeqOwn Value.bool 4 base w v L) : Sq w v L := ⟨h.seq, ty_own h⟩
theorem Sq.nil (w : World) : Sq w (.slice none 0 0) [] := ⟨Seq.nil w, fun b h => by simp [Value.ownBlock] at h⟩
theorem Sq.below {w w' : World} {B : Nat} {v : Value} {L : List Bool} (h : Sq w v L) (hb : Below B w w') (hB : w.heap.size ≤ B) : Sq w' v L :=
  ⟨h.sq.below hb hB, fun b hb' => (h.ty b hb').below hb hB⟩
theorem Sq.frame {w w' : World} {v : Value} {L : List Bool} {D : Nat → Prop} (h : Sq w v L) (hk : Keeps D w w') (hD : ∀ b, v.ownBlock = some b → ¬ D b) : Sq w' v L :=
  ⟨h.sq.frame hk hD, fun b hb => (h.ty b hb).keep hk (hD b hb)⟩
def up8 (n : Nat) : Nat := (n + 7) / 8 * 8
def RAlign (w : World) (v : Value) (L : List Bool) (t : Int) (e : Ending) (w' : World) : Prop :=
  ∃ v', e = .returned (.agg #[v', .int .i64 t]) ∧ (Sq w' v' (L ++ List.replicate (up8 L.length - L.length) false) ∧ ∀ b, v'.ownBlock = some b → v.ownBlock = some b ∨ w.heap.size ≤ b) ∧ Below w.heap.size w w'
set_option maxRecDepth 100000 in
set_option maxHeartbeats 1000000 in
theorem ralign5_any (v : Value) (L : List Bool) (t : Int) (w : World) (hvs : Sq w v L) (hL : L.length ≤ 900000) :
    Calls Try.prog 57 #[.agg #[v, .int .i64 t]] w (RAlign w v L t) := by
  have hv0 := hvs.lt
  obtain ⟨hv, hvt⟩ := hvs
  obtain ⟨a, cap, rfl, h1, -⟩ := hv.open_
  obtain ⟨W, hW⟩ : ∃ W, W = (w.alloc (.cells #[.slice a L.length cap, .int .i64 t] 60)).alloc (.cells #[.slice none 0 0, .int .i64 0] 60) := ⟨_, rfl⟩
  have hBW : Below w.heap.size w W := by rw [hW]; exact ((Below.refl w.heap.size w).alloc (Nat.le_refl _) _).alloc (by simp) _
  have hk1 : W.heap[w.heap.size]? = some (.cells #[.slice a L.length cap, .int .i64 t] 60) := by
    rw [hW, heap_alloc_old _ _ (by simp)]; exact heap_alloc_new _ _
  have hk2 : W.heap[w.heap.size + 1]? = some (.cells #[.slice none 0 0, .int .i64 0] 60) := by
    rw [hW, show w.heap.size + 1 = (w.alloc (.cells #[.slice a L.length cap, .int .i64 t] 60)).heap.size from by simp]; exact heap_alloc_new _ _
  have hsz : W.heap.size = w.heap.size + 2 := by rw [hW]; simp
  have hV2 := Lib.hid (hv.below hBW (Nat.le_refl _))
  have hT0 : ∀ b, (Value.slice a L.length cap).ownBlock = some b → b < W.heap.size ∧ b ≠ w.heap.size + 1 ∧ ((Value.slice a L.length cap).ownBlock = some b ∨ w.heap.size ≤ b) ∧ TyB 4 W b := fun b hb => by have := hv0 b hb; exact ⟨by omega, by omega, .inl hb, (hvt b hb).below hBW (Nat.le_refl _)⟩
  have hX := Lib.hid (And.intro hBW (And.intro hk1 (And.intro hk2 hsz)))
  clear hv hk1 hk2 hsz hBW
  go_enter Try.func57, Try.ntmps57
  go_wp2_with (fail)
  go_loopg [] (up8 L.length - L.length) (fun r wr => ∃ (i : Nat) (v' : Value), i + r = up8 L.length - L.length ∧ Seq Value.bool wr v' (L ++ List.replicate i false) ∧ wr.heap[w.heap.size]? = some (.cells #[v', .int .i64 t] 60) ∧ wr.heap[w.heap.size + 1]? = some (.cells #[.slice none 0 0, .int .i64 0] 60) ∧ w.heap.size + 2 ≤ wr.heap.size ∧ Below w.heap.size w wr ∧ ∀ b, v'.ownBlock = some b → b < wr.heap.size ∧ b ≠ w.heap.size + 1 ∧ ((Value.slice a L.length cap).ownBlock = some b ∨ w.heap.size ≤ b) ∧ TyB 4 wr b)
  case atStart => rw [← hW]; exact ⟨0, _, by omega, by simpa using hV2.out, hX.out.2.1, hX.out.2.2.1, by have := hX.out.2.2.2; omega, hX.out.1, hT0⟩
  case round =>
    obtain ⟨i, v', hir, hsq, hr1, hr2, hsz, hbl, ht⟩ := hrel
    obtain ⟨both, hboth⟩ : ∃ l, l = L ++ List.replicate i false := ⟨_, rfl⟩
    rw [← hboth] at hsq
    have hbl1 : both.length = L.length + i := by rw [hboth]; simp
    have hBo := Lib.hid hboth
    clear hboth hW hV2
    obtain ⟨a2, cap2, rfl, hb2, -⟩ := hsq.open_
    have c1 := (cell_of_row _ _ 0 _ _ _ hr1)
    have c2 := (cell_of_row _ _ 1 _ _ _ hr1)
    have f1 := frozen_of_row _ _ 0 _ _ hr1
    have f2 := frozen_of_row _ _ 1 _ _ hr1
    have c3 := (cell_of_row _ _ 0 _ _ _ hr2)
    have c4 := (cell_of_row _ _ 1 _ _ _ hr2)
    have f3 := frozen_of_row _ _ 0 _ _ hr2
    have f4 := frozen_of_row _ _ 1 _ _ hr2
    simp only [List.getElem?_toArray, List.getElem?_cons_succ, List.getElem?_cons_zero] at c1 c2 c3 c4
    have hR1 := Lib.hid hr1
    have hR2 := Lib.hid hr2
    have hSq := Lib.hid hsq
    have hBl := Lib.hid hbl
    have hBL := Lib.hid hbl1
    have hi9 : both.length ≤ 900007 := by unfold up8 at hir; omega
    have hT := Lib.hid ht
    clear hr1 hr2 hsq hbl hbl1 ht
    by_cases h8 : both.length % 8 = 0
    · have d : ((both.length : Int) % 8 != 0) = false := by simp; omega
      go_wp2
      refine bodyPost_ret (results_cell_row rfl _ _ (w.heap.size + 1) 60 #[.slice a2 both.length cap2, .int .i64 t] _ _ rfl (by rw [heap_setCell_same _ _ _ _ _ _ (heap_setCell_same _ _ _ _ _ _ hR2.out)]; rfl) Try.underlying60 rfl (by kernel_rfl)) rfl ?_
      have hK := ((Keeps.refl (fun k => k = w.heap.size + 1) wr).setCell (w.heap.size + 1) 0 (.slice a2 both.length cap2) (.inl rfl)).setCell (w.heap.size + 1) 1 (.int .i64 t) (.inl rfl)
      have hi0 : i = up8 L.length - L.length := by have := hBL.out; unfold up8 at hir ⊢; omega
      refine ⟨_, rfl, ?_, hBl.out.trans (hK.below w.heap.size (by omega) (by rintro k rfl; omega))⟩
      rw [← hi0, ← hBo.out]
      exact ⟨⟨hSq.out.frame hK (fun b hb => (hT.out b hb).2.1), fun b hb => (hT.out b hb).2.2.2.keep hK (hT.out b hb).2.1⟩, fun b hb => (hT.out b hb).2.2.1⟩
    · have d : ((both.length : Int) % 8 != 0) = true := by simp; omega
      have hi : i < up8 L.length - L.length := by have := hBL.out; unfold up8 at hir ⊢; omega
      have hp := rput_zero _ both t wr hSq.out (by omega)
      go_wp2_with (fail)
      refine hp.mono ?_
      rintro e w2 ⟨v2, rfl, hown, hbl2⟩
      obtain ⟨both2, hboth2⟩ : ∃ l, l = both ++ [false] := ⟨_, rfl⟩
      rw [← hboth2] at hown
      have hBo2 := Lib.hid hboth2
      obtain ⟨a3, cap3, rfl, -, -⟩ := hown.seq.open_
      have p1 : w2.heap[w.heap.size]? = _ := (hbl2.block _ (by omega)).trans hR1.out
      have p2 : w2.heap[w.heap.size + 1]? = _ := (hbl2.block _ (by omega)).trans hR2.out
      have c5 := (cell_of_row _ _ 0 _ _ _ p1)
      have c6 := (cell_of_row _ _ 1 _ _ _ p1)
      have f5 := frozen_of_row _ _ 0 _ _ p1
      have f6 := frozen_of_row _ _ 1 _ _ p1
      simp only [List.getElem?_toArray, List.getElem?_cons_succ, List.getElem?_cons_zero] at c5 c6
      have P1 := Lib.hid p1
      have P2 := Lib.hid p2
      have hO := Lib.hid hown
      have hB2 := Lib.hid hbl2
      clear p1 p2 hown hbl2 hboth2 c1 c2 c3 c4 f1 f2 f3 f4 hp
      go_wp2
      go_roundg (up8 L.length - L.length - (i + 1))
      case measure => omega
      case rel =>
        have hK := ((Keeps.refl (fun k => k = w.heap.size) w2).setCell w.heap.size 0 (.slice a3 both2.length cap3) (.inl rfl)).setCell w.heap.size 1 (.int .i64 t) (.inl rfl)
        have hsz2 := hB2.out.size
        have ht := fun b hb => (hO.out.lt b hb)
        have hks := hK.size
        refine ⟨i + 1, .slice a3 both2.length cap3, by omega, ?_, ?_, ?_, by rw [show ((w2.setCell ⟨w.heap.size, 0, none⟩ (.slice a3 both2.length cap3)).setCell ⟨w.heap.size, 1, none⟩ (.int .i64 t)).heap.size = w2.heap.size from by simp [World.setCell]]; omega, ?_, ?_⟩
        · rw [List.replicate_succ', ← List.append_assoc, ← hBo.out, ← hBo2.out]
          exact hO.out.seq.frame hK (fun b hb => by have := ht b hb; omega)
        · rw [heap_setCell_same _ _ _ _ _ _ (heap_setCell_same _ _ _ _ _ _ P1.out)]; rfl
        · rw [heap_setCell_other _ _ _ _ (by simp), heap_setCell_other _ _ _ _ (by simp)]; exact P2.out
        · exact (hBl.out.trans (hB2.out.mono (by omega))).trans (hK.below w.heap.size (by omega) (by rintro k rfl; omega))
        · intro b hb; have := ht b hb; exact ⟨by omega, by omega, .inr (by omega), (ty_own hO.out b hb).keep hK (by omega)⟩
end Go.Proofs.Ytighlefajekloaa.Bits5
