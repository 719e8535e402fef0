/- Package lightwellref06: a block. -/
import Derived.Test.YtighlefajekloaaDefEf
import Derived.Test.YtighlefajekloaaNumSl
import Derived.Test.YtighlefajekloaaQu
set_option linter.unusedVariables false
set_option linter.unusedSimpArgs false
namespace Go.Proofs.Ytighlefajekloaa.DefEg
open Go.RowKit Go.Sort BitsM Base Low Bits5 Bits6 Bits8 DefM DefN Rec DefEa DefEb DefEc DefEd DefEe DefEf NumSl Qb Qt Qa Qf Qr Qs Qz Qv Qk
theorem slice_run {P : Program} {e : Operand → Value} {o : Oper} {T E : TypeId} {x lo hi : Operand} {k : IntKind} {bytes : Nat} (ho : o.op = .slice T x (some lo) (some hi) none) (hT : NumSlice P T E k bytes) (a : Option Addr) (len cap : Nat) (hx : e x = .slice a len cap)
    (l h : Nat) (hl : e lo = .int .i64 (l : Int)) (hh : e hi = .int .i64 (h : Int)) (h1 : l ≤ h) (h2 : h ≤ cap) (w : World) : (execOp e o).run P w = .ok (.value (sliced a l h cap 1)) w := by
  have hrun := run_slice_lh (P := P) w T a len cap (NumSlice.elem hT) .i64 .i64 (l : Int) (h : Int) (by omega) (by omega) (by omega)
  rw [run_size hT, Int.toNat_natCast, Int.toNat_natCast] at hrun
  have hA := run_sliceAt_slice (P := P) w T (.slice a len cap) (some (.int .i64 (l : Int))) (some (.int .i64 (h : Int))) none (NumSlice.elem hT)
  simp only [execOp, ho, hx, hl, hh, Option.map_none, Option.map_some]
  simp [hA, hrun, Result.andThen]
theorem alloc_w (w : World) : (Instr.alloc 60 true (.tuple #[])).run Try.prog w = .ok (.pointer (some ⟨w.heap.size, 0, none⟩)) (w.alloc (.cells #[.slice none 0 0, .int .i64 0] 60)) := by kernel_rfl
/-- a writer of bits, made by a call -/
def pW (n : Nat) (vl : Value) (K : List Bool) (t : Int) (w : World) (v : Value) : Prop := ∃ v', v = .agg #[v', .int .i64 t] ∧ Sq w v' K ∧ ∀ b, v'.ownBlock = some b → vl.ownBlock = some b ∨ n ≤ b
def pT (n : Nat) (l : List Tok) (w : World) (v : Value) : Prop := RecsOwn 3 encT 130 n w v l
theorem pW_mono (n : Nat) (vl : Value) (K : List Bool) (t : Int) : K3.mono (.pr (pW n vl K t)) := fun v w1 w2 ⟨v', e, h1, h2⟩ hb => ⟨v', e, h1.below hb (Nat.le_refl _), h2⟩
theorem sq_set {w : World} {v : Value} {K : List Bool} (h : Sq w v K) (hK : 3 ≤ K.length) {g : Nat} {cur row : Array Value} {T : TypeId} (hg : w.heap[g]? = some (.cells cur T)) (hc : cur.size = 2) : Sq (w.setRow g row) v K := by
  have hk : Keeps (fun k => k = g) w (w.setRow g row) := (Keeps.refl (fun k => k = g) w).setRow g row (.inl rfl)
  refine h.frame hk (fun b hb e => ?_)
  subst e
  obtain ⟨b', off, cap, e, hb2, hcell⟩ := h.sq.cells (by intro e; rw [e] at hK; simp at hK)
  rw [e] at hb
  simp only [Value.ownBlock, Option.some.injEq] at hb
  subst hb
  have h1 := hcell 2 (by omega)
  rw [cell_of_row _ _ (off + 2) _ _ _ hg, Array.getElem?_eq_none (by omega)] at h1
  cases h1
theorem pW_stab (n : Nat) (vl : Value) (K : List Bool) (t : Int) (hK : 3 ≤ K.length) (B : Nat) : K3.stab 60 B 2 (.pr (pW n vl K t)) := fun v w g cur row ⟨v', e, h1, h2⟩ _ hg hc _ => ⟨v', e, sq_set h1 hK hg hc, h2⟩
theorem pT_mono (n : Nat) (l : List Tok) : K3.mono (.pr (pT n l)) := fun v w1 w2 h hb => RecsOwn.below h hb (Nat.le_refl _)
theorem pT_stab (n : Nat) (l : List Tok) (B : Nat) : K3.stab 60 B 2 (.pr (pT n l)) := fun v w g cur row h _ hg hc _ => by
  have hk : Keeps (fun k => k = g) w (w.setRow g row) := (Keeps.refl (fun k => k = g) w).setRow g row (.inl rfl)
  refine RecsOwn.frame h hk (fun b hb e => ?_)
  subst e
  rcases h.row.2 with ⟨e, -⟩ | ⟨g', cap', cur', e, -, hg', -⟩
  · rw [e] at hb; cases hb
  · rw [e] at hb
    simp only [Value.ownBlock, Option.some.injEq] at hb
    subst hb
    rw [hg] at hg'
    simp at hg'
theorem pW_row (n : Nat) (vl : Value) (K : List Bool) (t : Int) (w : World) (v : Value) (h : pW n vl K t w v) : ∃ row, v = .agg row ∧ row.size = 2 ∧ row.all (·.oneCell') = true := by
  obtain ⟨v', rfl, h1, -⟩ := h
  obtain ⟨a, c, rfl, -, -⟩ := h1.sq.open_
  exact ⟨_, rfl, rfl, by simp [Value.oneCell']⟩
def k1 (B : Nat) (K : List Bool) (t : Int) (q0 q1 q2 q3 q4 q5 q6 q7 q8 vl : Value) : List K3 := [.val q0, .val q1, .val q2, .val q3, .val q4, .val q5, .val q6, .val q7, .val q8, .pr (pW B vl K t), .pr (alK 60 2 B), .val undef]
def k2 (B : Nat) (l : List Tok) (K : List Bool) (t : Int) (q0 q1 q2 q3 q4 q5 q6 q8 vl : Value) : List K3 := [.val q0, .val q1, .val q2, .val q3, .val q4, .val q5, .val q6, .pr (pT B l), .val q8, .pr (pW B vl K t), .pr (alK 60 2 B), .val undef]
theorem k1_mono (B : Nat) (K : List Bool) (t : Int) (q0 q1 q2 q3 q4 q5 q6 q7 q8 vl : Value) : All3 K3.mono (k1 B K t q0 q1 q2 q3 q4 q5 q6 q7 q8 vl) :=
  ⟨trivial, trivial, trivial, trivial, trivial, trivial, trivial, trivial, trivial, pW_mono _ _ _ _, alK_mono _ _ _, trivial, trivial⟩
theorem k1_stab (B B' : Nat) (K : List Bool) (hK : 3 ≤ K.length) (t : Int) (q0 q1 q2 q3 q4 q5 q6 q7 q8 vl : Value) : All3 (K3.stab 60 B' 2) (k1 B K t q0 q1 q2 q3 q4 q5 q6 q7 q8 vl) :=
  ⟨trivial, trivial, trivial, trivial, trivial, trivial, trivial, trivial, trivial, pW_stab _ _ _ _ hK _, alK_stab _ _ _ _, trivial, trivial⟩
theorem k2_mono (B : Nat) (l : List Tok) (K : List Bool) (t : Int) (q0 q1 q2 q3 q4 q5 q6 q8 vl : Value) : All3 K3.mono (k2 B l K t q0 q1 q2 q3 q4 q5 q6 q8 vl) :=
  ⟨trivial, trivial, trivial, trivial, trivial, trivial, trivial, pT_mono _ _, trivial, pW_mono _ _ _ _, alK_mono _ _ _, trivial, trivial⟩
theorem k2_stab (B B' : Nat) (l : List Tok) (K : List Bool) (hK : 3 ≤ K.length) (t : Int) (q0 q1 q2 q3 q4 q5 q6 q8 vl : Value) : All3 (K3.stab 60 B' 2) (k2 B l K t q0 q1 q2 q3 q4 q5 q6 q8 vl) :=
  ⟨trivial, trivial, trivial, trivial, trivial, trivial, trivial, pT_stab _ _ _, trivial, pW_stab _ _ _ _ hK _, alK_stab _ _ _ _, trivial, trivial⟩
theorem size_w6 : (Try.prog.info? 62).map (·.size) = some 5 := by kernel_rfl
/-- a whole writer stored -/
theorem store_w6 {ops : Array Oper} {rest : List Oper} {o : Oper} {a : Act} {w : World} {Q : Exit → Act → World → Prop} (hgd : o.guard = none) (x y : Operand) (ho : o.op = .store 62 x y) (hd : o.dst = none)
    (g : Nat) (a1 : Option Addr) (n1 c1 : Nat) (t1 : Int) (a2 : Option Addr) (n2 c2 : Nat) (t2 : Int) (ov : Bool) (hx : a.eval x = .pointer (some ⟨g, 0, none⟩)) (hy : a.eval y = .agg #[.slice a1 n1 c1, .int .i64 t1, .slice a2 n2 c2, .int .i64 t2, .bool ov])
    (cur : Array Value) (hg : w.heap[g]? = some (.cells cur 62)) (hc : cur.size = 5)
    (h : wpList Try.prog ops Q rest a (w.setRow g #[.slice a1 n1 c1, .int .i64 t1, .slice a2 n2 c2, .int .i64 t2, .bool ov])) : wpList Try.prog ops Q (o :: rest) a w :=
  wpList_store_arr hgd 62 x y ho g _ hx hy 62 cur hg size_w6 (by rw [hc]; rfl) (by intro v hv; simp at hv; rcases hv with rfl | rfl | rfl | rfl | rfl <;> rfl) hd h
/-- a whole writer loaded -/
theorem load_w6 {ops : Array Oper} {rest : List Oper} {o : Oper} {a : Act} {w : World} {Q : Exit → Act → World → Prop} (hgd : o.guard = none) (x : Operand) (ho : o.op = .load 62 x)
    (g : Nat) (hx : a.eval x = .pointer (some ⟨g, 0, none⟩)) (cs : Array Value) (hg : w.heap[g]? = some (.cells cs 62)) (hc : cs.size = 5) (h : wpList Try.prog ops Q rest (a.put o.dst (.agg cs)) w) : wpList Try.prog ops Q (o :: rest) a w :=
  wpList_load_row hgd 62 x ho g hx 62 cs (0, 0) _ hg Try.underlying62 rfl (by rw [hc]; exact size_w6) h
theorem toks_le2 (B : List Nat) (b : Nat) : ∀ (f i : Nat), (toks B b f i).length ≤ f := by
  intro f
  induction f with
  | zero => intro i; simp [toks]
  | succ f ih =>
    intro i
    unfold toks
    split
    · split
      · have := ih (i + (matchF B i b).1); simp only [List.length_cons]; omega
      · have := ih (i + 1); simp only [List.length_cons]; omega
    · simp
theorem toks_le (B : List Nat) (At b : Nat) : (tokens B At b).length ≤ b - At := toks_le2 B b _ At
theorem fix_three (last : Nat) (l : List Tok) : 3 ≤ (fixB last l).length := by
  unfold fixB
  simp only [List.length_append, bitsOf_length]; omega
theorem stored_three (last P : Nat) (bs : List Nat) : 3 ≤ (storedB last P bs).length := by rw [stored_len]; omega
set_option maxRecDepth 100000 in
set_option maxHeartbeats 4000000 in
theorem block_any (va vl : Value) (B : List Nat) (L : List Bool) (At T b last : Nat) (ov : Bool) (w : World) (hB : Nums .u8 256 w va B) (hL : Sq w vl L) (hAt : At ≤ b) (hb9 : b ≤ B.length) (hlen : b - At ≤ 4096) (hlast : last < 2) (hL6 : L.length ≤ 600000) (hB6 : B.length ≤ 100000) :
    Calls Try.prog 55 #[.agg #[va, .int .i64 (At : Int), vl, .int .i64 (T : Int), .bool ov], .int .i64 (b : Int), .int .i64 (last : Int)] w fun e w' => ∃ v', e = .returned (.agg #[va, .int .i64 (b : Int), v', .int .i64 (T : Int), .bool ov]) ∧ (Sq w' v' (blkB B At b last L) ∧ ∀ k, v'.ownBlock = some k → vl.ownBlock = some k ∨ w.heap.size ≤ k) ∧ Below w.heap.size w w' := by
  obtain ⟨a0, c0, rfl, h1, h2, h3⟩ := hB.shape
  obtain ⟨a2, c2, rfl, h4, h5⟩ := hL.sq.open_
  obtain ⟨N, hN⟩ : ∃ N, N = B.length := ⟨_, rfl⟩
  obtain ⟨M, hM⟩ : ∃ M, M = L.length := ⟨_, rfl⟩
  rw [← hN] at hB h1 hb9 ⊢
  rw [← hM] at hL ⊢
  obtain ⟨a6, c6, hsl⟩ : ∃ a6 c6, sliced a0 At b c0 1 = .slice a6 (b - At) c6 := ⟨_, _, rfl⟩
  have HSL := Lib.hid hsl
  have hpt : (B.take b).drop At = DefN.part B At b := by unfold DefN.part; rw [List.drop_take]
  have HPT := Lib.hid (fun (w1 : World) (hb1 : Below w.heap.size w w1) => (show Nums .u8 256 w1 (.slice a6 (b - At) c6) (DefN.part B At b) from by rw [← hsl, ← hpt]; exact (nums_cut (hB.below hb1 (Nat.le_refl _)) At b hAt hb9).1))
  have HPL := Lib.hid (show (DefN.part B At b).length ≤ 4096 from by rw [part_len B At b (by rw [← hN]; exact hb9)]; exact hlen)
  have HTL := Lib.hid (toks_le B At b)
  have HTO := Lib.hid (tokens_ok B hB.bound At b (by rw [← hN]; exact hb9))
  have HN := Lib.hid hN
  have HM := Lib.hid hM
  have HV := Lib.hid hB
  have HSQ := Lib.hid hL
  have HST3 := Lib.hid (show 3 ≤ (L ++ storedB last L.length (DefN.part B At b)).length from by rw [List.length_append]; have := stored_three last L.length (DefN.part B At b); omega)
  have HFX3 := Lib.hid (show 3 ≤ (L ++ fixB last (tokens B At b)).length from by rw [List.length_append]; have := fix_three last (tokens B At b); omega)
  have hblk : blkB B At b last L = if (L ++ storedB last L.length (DefN.part B At b)).length < (L ++ fixB last (tokens B At b)).length then L ++ storedB last L.length (DefN.part B At b) else L ++ fixB last (tokens B At b) := by
    unfold blkB
    simp only [List.length_append, Nat.add_lt_add_iff_left]
    split <;> rfl
  obtain ⟨K1, hK1⟩ : ∃ z, z = L ++ storedB last L.length (DefN.part B At b) := ⟨_, rfl⟩
  obtain ⟨K2, hK2⟩ : ∃ z, z = L ++ fixB last (tokens B At b) := ⟨_, rfl⟩
  rw [← hK1, ← hK2] at hblk
  rw [← hK1] at HST3
  rw [← hK2] at HFX3
  have HK1 := Lib.hid hK1
  have HK2 := Lib.hid hK2
  have HBLK := Lib.hid hblk
  have h3a : b ≤ c0 := by omega
  have hM6 : M ≤ 600000 := by rw [hM]; exact hL6
  have hN6 : N ≤ 100000 := by rw [hN]; exact hB6
  clear hB hL hN hM hsl hpt hblk hK1 hK2 h3 h4 h5 hL6 hB6
  obtain ⟨W, hW⟩ : ∃ W, W = (w.alloc (.cells #[.slice a0 N c0, .int .i64 (At : Int), .slice a2 M c2, .int .i64 (T : Int), .bool ov] 62)).alloc (.cells #[.slice none 0 0, .int .i64 0, .slice none 0 0, .int .i64 0, .bool false] 62) := ⟨_, rfl⟩
  have hbW : Below w.heap.size w W := by rw [hW]; exact ((Below.refl w.heap.size w).alloc (Nat.le_refl _) _).alloc (by simp) _
  have hr1 : W.heap[w.heap.size]? = some (.cells #[.slice a0 N c0, .int .i64 (At : Int), .slice a2 M c2, .int .i64 (T : Int), .bool ov] 62) := by rw [hW, heap_alloc_old _ _ (by simp)]; exact heap_alloc_new _ _
  have hr2 : W.heap[w.heap.size + 1]? = some (.cells #[.slice none 0 0, .int .i64 0, .slice none 0 0, .int .i64 0, .bool false] 62) := by
    rw [hW, show w.heap.size + 1 = (w.alloc (.cells #[.slice a0 N c0, .int .i64 (At : Int), .slice a2 M c2, .int .i64 (T : Int), .bool ov] 62)).heap.size from by simp]; exact heap_alloc_new _ _
  have hn1 : ∀ k, (Value.slice a2 M c2).ownBlock = some k → k < w.heap.size := fun k hk => HSQ.out.lt k hk
  go_enter Try.func55, Try.ntmps55
  go_upto_region 1 with (fail)
  rw [← hW]
  obtain ⟨gr, hgr⟩ : ∃ g, g = w.heap.size + 1 := ⟨_, rfl⟩
  rw [← hgr] at hr2 ⊢
  obtain ⟨gb, hgb⟩ : ∃ g, g = w.heap.size := ⟨_, rfl⟩
  have hgbr : gb < W.heap.size ∧ gr < W.heap.size ∧ ¬ gb = gr ∧ w.heap.size ≤ gb ∧ w.heap.size ≤ gr := by
    have := Base.lt_of_heap hr2; have := Base.lt_of_heap hr1; omega
  rw [← hgb] at hr1 ⊢
  rw [← hgb] at hn1
  have HR := Lib.hid hr1
  have HR2 := Lib.hid hr2
  have HBW := Lib.hid hbW
  have HN1 := Lib.hid hn1
  clear hW hgb hgr hr1 hr2 hbW hn1
  refine wp_region_k3 (n := 2) 43 (k1 W.heap.size K1 (T : Int) (.pointer (some ⟨gb, 2, none⟩)) (.agg #[.slice a2 M c2, .int .i64 (T : Int)]) (.pointer (some ⟨gb, 0, none⟩)) (.slice a0 N c0) (.pointer (some ⟨gb, 1, none⟩)) (.int .i64 (At : Int)) (.int .i64 (b : Int)) (.slice a6 (b - At) c6) (.int .i64 (last : Int)) (.slice a2 M c2)) ⟨11, 7, 10, 18, 9, 60, #[]⟩ (by kernel_rfl) rfl (by kernel_rfl) (k1_mono _ _ _ _ _ _ _ _ _ _ _ _ _) (k1_stab _ _ _ HST3.out _ _ _ _ _ _ _ _ _ _ _) (fun _ _ h => h) (pW_row _ _ _ _) ?hsj ?hst ?_
  case hsj =>
    intro o ho
    simp only [List.getElem?_toArray, List.getElem?_cons_succ, List.getElem?_cons_zero, Option.some.injEq] at ho
    subst ho
    exact ⟨⟨60, rfl, by kernel_rfl⟩, rfl⟩
  case hst =>
    intro A hA F
    have HA_ := Lib.hid hA
    have HA2 := hA
    simp only [putsL, Act.put, List.setIfInBounds_toArray, List.set_cons_succ, List.set_cons_zero, Nat.reduceAdd, outs3, k1, List.getD_cons_succ, List.getD_cons_zero, K3.out] at HA2
    have HA3 := Lib.hid HA2
    clear hA HA2
    refine ⟨.inr ?s0, .inr ?s1, .inr ?s2, .inr ?s3, .inr ?s4, .inr ?s5, .inr ?s6, .inr ?s7, .inr ?s8, .inr ?s9, .inr ?s10, .inl rfl, trivial⟩
    case s0 =>
      refine st_valA HA_.out F rfl (d := 9) (v := (.pointer (some ⟨gb, 2, none⟩))) rfl (by decide) (fun _ _ h => nomatch h) (look3 (by kernel_rfl)) (fun _ => rfl) ?_
      intro W1 hW1
      rw [← HA3.out]
      go_big_quiet_op
      exact rfl
    case s1 =>
      refine st_valA HA_.out F rfl (d := 10) (v := (.agg #[.slice a2 M c2, .int .i64 (T : Int)])) rfl (by decide) (fun _ _ h => nomatch h) (look3 (by kernel_rfl)) (fun _ => rfl) ?_
      intro W1 hW1
      rw [← HA3.out]
      have z2 : ∀ d os, (grow (redrawn W1 d) os).cell? ⟨gb, 2, none⟩ = some (.slice a2 M c2) := fun d os => cell_regrown (cell_of_row _ _ 2 _ _ _ ((hW1.block gb (Base.lt_of_heap HR.out)).trans HR.out)) d os
      have z3 : ∀ d os, (grow (redrawn W1 d) os).cell? ⟨gb, 3, none⟩ = some (.int .i64 (T : Int)) := fun d os => cell_regrown (cell_of_row _ _ 3 _ _ _ ((hW1.block gb (Base.lt_of_heap HR.out)).trans HR.out)) d os
      go_big_quiet_op
      exact rfl
    case s2 =>
      refine st_valA HA_.out F rfl (d := 11) (v := (.pointer (some ⟨gb, 0, none⟩))) rfl (by decide) (fun _ _ h => nomatch h) (look3 (by kernel_rfl)) (fun _ => rfl) ?_
      intro W1 hW1
      rw [← HA3.out]
      go_big_quiet_op
      exact rfl
    case s3 =>
      refine st_valA HA_.out F rfl (d := 12) (v := (.slice a0 N c0)) rfl (by decide) (fun _ _ h => nomatch h) (look3 (by kernel_rfl)) (fun _ => rfl) ?_
      intro W1 hW1
      rw [← HA3.out]
      have z0 : ∀ d os, (grow (redrawn W1 d) os).cell? ⟨gb, 0, none⟩ = some (.slice a0 N c0) := fun d os => cell_regrown (cell_of_row _ _ 0 _ _ _ ((hW1.block gb (Base.lt_of_heap HR.out)).trans HR.out)) d os
      go_big_quiet_op
      exact rfl
    case s4 =>
      refine st_valA HA_.out F rfl (d := 13) (v := (.pointer (some ⟨gb, 1, none⟩))) rfl (by decide) (fun _ _ h => nomatch h) (look3 (by kernel_rfl)) (fun _ => rfl) ?_
      intro W1 hW1
      rw [← HA3.out]
      go_big_quiet_op
      exact rfl
    case s5 =>
      refine st_valA HA_.out F rfl (d := 14) (v := (.int .i64 (At : Int))) rfl (by decide) (fun _ _ h => nomatch h) (look3 (by kernel_rfl)) (fun _ => rfl) ?_
      intro W1 hW1
      rw [← HA3.out]
      have z1 : ∀ d os, (grow (redrawn W1 d) os).cell? ⟨gb, 1, none⟩ = some (.int .i64 (At : Int)) := fun d os => cell_regrown (cell_of_row _ _ 1 _ _ _ ((hW1.block gb (Base.lt_of_heap HR.out)).trans HR.out)) d os
      go_big_quiet_op
      exact rfl
    case s6 =>
      refine st_valA HA_.out F rfl (d := 15) (v := (.int .i64 (b : Int))) rfl (by decide) (fun _ _ h => nomatch h) (look3 (by kernel_rfl)) (fun _ => rfl) ?_
      intro W1 hW1
      rw [← HA3.out]
      go_big_quiet_op
      exact rfl
    case s7 =>
      intro b9 w1 hb hd hk
      have e0 : b9.eval (.tmp 12) = .slice a0 N c0 := hd 12 (by decide) 3 rfl
      have e1 : b9.eval (.tmp 14) = .int .i64 (At : Int) := hd 14 (by decide) 5 rfl
      have e2 : b9.eval (.tmp 15) = .int .i64 (b : Int) := hd 15 (by decide) 6 rfl
      rw [slice_run rfl u8s a0 N c0 e0 At b e1 e2 hAt h3a w1, HSL.out]
      exact ⟨rfl, Below.refl _ _⟩
    case s8 =>
      refine st_valA HA_.out F rfl (d := 17) (v := (.int .i64 (last : Int))) rfl (by decide) (fun _ _ h => nomatch h) (look3 (by kernel_rfl)) (fun _ => rfl) ?_
      intro W1 hW1
      rw [← HA3.out]
      go_big_quiet_op
      exact rfl
    case s9 =>
      intro b9 w1 hb hd hk
      have e0 : b9.eval (.tmp 10) = .agg #[.slice a2 M c2, .int .i64 (T : Int)] := hd 10 (by decide) 1 rfl
      have e1 : b9.eval (.tmp 16) = .slice a6 (b - At) c6 := hd 16 (by decide) 7 rfl
      have e2 : b9.eval (.tmp 17) = .int .i64 (last : Int) := hd 17 (by decide) 8 rfl
      have hbb := HBW.out.trans (hb.mono HBW.out.size)
      rw [call_run (f := 65) (fn := Try.f65) rfl rfl Try.func65 rfl rfl w1]
      simp only [List.map_toArray, List.map_nil, List.map_cons, e0, e1, e2]
      show Calls Try.prog 65 #[.agg #[.slice a2 M c2, .int .i64 (T : Int)], .slice a6 (b - At) c6, .int .i64 (last : Int)] w1 _
      refine (stored_any _ L (T : Int) w1 (HSQ.out.below hbb (Nat.le_refl _)) _ (DefN.part B At b) (HPT.out w1 hbb) last hlast HPL.out (by rw [← HM.out]; exact hM6)).mono ?_
      rintro e w9 ⟨v9, rfl, ⟨q1, q2⟩, q3⟩
      exact ⟨_, rfl, ⟨v9, rfl, by rw [HK1.out]; exact q1, fun k hk => (q2 k hk).imp id (fun h => Nat.le_trans hb.size h)⟩, q3⟩
    case s10 =>
      intro b9 w1 hb hd hk
      rw [alloc_run rfl (alloc_w w1)]
      exact ⟨⟨w1.heap.size, _, rfl, hb.size, heap_alloc_new _ _, rfl⟩, ext_alloc _ _⟩
  intro V W1 hb hV hs
  obtain ⟨g7, rw9, hg1, hg2, hg3⟩ := hs (by decide)
  obtain ⟨v7, e9, hq7, ho7⟩ : pW W.heap.size (.slice a2 M c2) K1 (T : Int) W1 (V 9) := hV 9 (by decide) (by decide)
  dsimp only at hg1 hg2 hg3
  obtain rfl : rw9 = #[v7, .int .i64 (T : Int)] := by have h := hg2.symm.trans e9; simpa using h
  have e0 : V 0 = (.pointer (some ⟨gb, 2, none⟩)) := hV 0 (by decide) (by decide)
  have e1 : V 1 = (.agg #[.slice a2 M c2, .int .i64 (T : Int)]) := hV 1 (by decide) (by decide)
  have e2 : V 2 = (.pointer (some ⟨gb, 0, none⟩)) := hV 2 (by decide) (by decide)
  have e3 : V 3 = (.slice a0 N c0) := hV 3 (by decide) (by decide)
  have e4 : V 4 = (.pointer (some ⟨gb, 1, none⟩)) := hV 4 (by decide) (by decide)
  have e5 : V 5 = (.int .i64 (At : Int)) := hV 5 (by decide) (by decide)
  have e6 : V 6 = (.int .i64 (b : Int)) := hV 6 (by decide) (by decide)
  have e7 : V 7 = (.slice a6 (b - At) c6) := hV 7 (by decide) (by decide)
  have e8 : V 8 = (.int .i64 (last : Int)) := hV 8 (by decide) (by decide)
  clear hV hs hg2
  simp only [putsL, Act.put, List.setIfInBounds_toArray, List.set_cons_succ, List.set_cons_zero, Nat.reduceAdd, hg1, e0, e1, e2, e3, e4, e5, e6, e7, e8, e9, ptr]
  clear hg1 e0 e1 e2 e3 e4 e5 e6 e7 e8 e9
  have HG7 := Lib.hid hg3
  have HQ7 := Lib.hid hq7
  have HO7 := Lib.hid ho7
  have HB1 := Lib.hid (HBW.out.trans (hb.mono HBW.out.size))
  have HRa := Lib.hid ((hb.block gb hgbr.1).trans HR.out)
  have HRb := Lib.hid ((hb.block gr hgbr.2.1).trans HR2.out)
  have hs1 := hb.size
  clear hg3 hq7 ho7 hb HR HR2
  go_upto_region 2 with (fail)
  refine wp_region_k3 (n := 2) 43 (k2 W1.heap.size (tokens B At b) K2 (T : Int) (.pointer (some ⟨gb, 2, none⟩)) (.agg #[.slice a2 M c2, .int .i64 (T : Int)]) (.pointer (some ⟨gb, 0, none⟩)) (.slice a0 N c0) (.pointer (some ⟨gb, 1, none⟩)) (.int .i64 (At : Int)) (.int .i64 (b : Int)) (.int .i64 (last : Int)) (.slice a2 M c2)) ⟨11, 8, 10, 28, 9, 60, #[]⟩ (by kernel_rfl) rfl (by kernel_rfl) (k2_mono _ _ _ _ _ _ _ _ _ _ _ _ _) (k2_stab _ _ _ _ HFX3.out _ _ _ _ _ _ _ _ _ _) (fun _ _ h => h) (pW_row _ _ _ _) ?hsj ?hst ?_
  case hsj =>
    intro o ho
    simp only [List.getElem?_toArray, List.getElem?_cons_succ, List.getElem?_cons_zero, Option.some.injEq] at ho
    subst ho
    exact ⟨⟨60, rfl, by kernel_rfl⟩, rfl⟩
  case hst =>
    intro A hA F
    have HA_ := Lib.hid hA
    have HA2 := hA
    simp only [putsL, Act.put, List.setIfInBounds_toArray, List.set_cons_succ, List.set_cons_zero, Nat.reduceAdd, outs3, k2, List.getD_cons_succ, List.getD_cons_zero, K3.out] at HA2
    have HA3 := Lib.hid HA2
    clear hA HA2
    refine ⟨.inr ?s0, .inr ?s1, .inr ?s2, .inr ?s3, .inr ?s4, .inr ?s5, .inr ?s6, .inr ?s7, .inr ?s8, .inr ?s9, .inr ?s10, .inl rfl, trivial⟩
    case s0 =>
      refine st_valA HA_.out F rfl (d := 19) (v := (.pointer (some ⟨gb, 2, none⟩))) rfl (by decide) (fun _ _ h => nomatch h) (look3 (by kernel_rfl)) (fun _ => rfl) ?_
      intro W1 hW1
      rw [← HA3.out]
      go_big_quiet_op
      exact rfl
    case s1 =>
      refine st_valA HA_.out F rfl (d := 20) (v := (.agg #[.slice a2 M c2, .int .i64 (T : Int)])) rfl (by decide) (fun _ _ h => nomatch h) (look3 (by kernel_rfl)) (fun _ => rfl) ?_
      intro W1 hW1
      rw [← HA3.out]
      have z2 : ∀ d os, (grow (redrawn W1 d) os).cell? ⟨gb, 2, none⟩ = some (.slice a2 M c2) := fun d os => cell_regrown (cell_of_row _ _ 2 _ _ _ ((hW1.block gb (Base.lt_of_heap HRa.out)).trans HRa.out)) d os
      have z3 : ∀ d os, (grow (redrawn W1 d) os).cell? ⟨gb, 3, none⟩ = some (.int .i64 (T : Int)) := fun d os => cell_regrown (cell_of_row _ _ 3 _ _ _ ((hW1.block gb (Base.lt_of_heap HRa.out)).trans HRa.out)) d os
      go_big_quiet_op
      exact rfl
    case s2 =>
      refine st_valA HA_.out F rfl (d := 21) (v := (.pointer (some ⟨gb, 0, none⟩))) rfl (by decide) (fun _ _ h => nomatch h) (look3 (by kernel_rfl)) (fun _ => rfl) ?_
      intro W1 hW1
      rw [← HA3.out]
      go_big_quiet_op
      exact rfl
    case s3 =>
      refine st_valA HA_.out F rfl (d := 22) (v := (.slice a0 N c0)) rfl (by decide) (fun _ _ h => nomatch h) (look3 (by kernel_rfl)) (fun _ => rfl) ?_
      intro W1 hW1
      rw [← HA3.out]
      have z0 : ∀ d os, (grow (redrawn W1 d) os).cell? ⟨gb, 0, none⟩ = some (.slice a0 N c0) := fun d os => cell_regrown (cell_of_row _ _ 0 _ _ _ ((hW1.block gb (Base.lt_of_heap HRa.out)).trans HRa.out)) d os
      go_big_quiet_op
      exact rfl
    case s4 =>
      refine st_valA HA_.out F rfl (d := 23) (v := (.pointer (some ⟨gb, 1, none⟩))) rfl (by decide) (fun _ _ h => nomatch h) (look3 (by kernel_rfl)) (fun _ => rfl) ?_
      intro W1 hW1
      rw [← HA3.out]
      go_big_quiet_op
      exact rfl
    case s5 =>
      refine st_valA HA_.out F rfl (d := 24) (v := (.int .i64 (At : Int))) rfl (by decide) (fun _ _ h => nomatch h) (look3 (by kernel_rfl)) (fun _ => rfl) ?_
      intro W1 hW1
      rw [← HA3.out]
      have z1 : ∀ d os, (grow (redrawn W1 d) os).cell? ⟨gb, 1, none⟩ = some (.int .i64 (At : Int)) := fun d os => cell_regrown (cell_of_row _ _ 1 _ _ _ ((hW1.block gb (Base.lt_of_heap HRa.out)).trans HRa.out)) d os
      go_big_quiet_op
      exact rfl
    case s6 =>
      refine st_valA HA_.out F rfl (d := 25) (v := (.int .i64 (b : Int))) rfl (by decide) (fun _ _ h => nomatch h) (look3 (by kernel_rfl)) (fun _ => rfl) ?_
      intro W1 hW1
      rw [← HA3.out]
      go_big_quiet_op
      exact rfl
    case s7 =>
      intro b9 w1 hb hd hk
      have e0 : b9.eval (.tmp 22) = .slice a0 N c0 := hd 22 (by decide) 3 rfl
      have e1 : b9.eval (.tmp 24) = .int .i64 (At : Int) := hd 24 (by decide) 5 rfl
      have e2 : b9.eval (.tmp 25) = .int .i64 (b : Int) := hd 25 (by decide) 6 rfl
      have hbb := HB1.out.trans (hb.mono HB1.out.size)
      rw [call_run (f := 67) (fn := Try.f67) rfl rfl Try.func67 rfl rfl w1]
      simp only [List.map_toArray, List.map_nil, List.map_cons, e0, e1, e2]
      show Calls Try.prog 67 #[.slice a0 N c0, .int .i64 (At : Int), .int .i64 (b : Int)] w1 _
      refine (tokens_any _ B w1 (HV.out.below hbb (Nat.le_refl _)) At b (by rw [← HN.out]; exact hb9) hAt (by rw [← HN.out]; exact hN6)).mono ?_
      rintro e w9 ⟨v9, rfl, q1, q2⟩
      exact ⟨v9, rfl, RecsOwn.mono q1 hb.size, q2⟩
    case s8 =>
      refine st_valA HA_.out F rfl (d := 27) (v := (.int .i64 (last : Int))) rfl (by decide) (fun _ _ h => nomatch h) (look3 (by kernel_rfl)) (fun _ => rfl) ?_
      intro W1 hW1
      rw [← HA3.out]
      go_big_quiet_op
      exact rfl
    case s9 =>
      intro b9 w1 hb hd hk
      have e0 : b9.eval (.tmp 20) = .agg #[.slice a2 M c2, .int .i64 (T : Int)] := hd 20 (by decide) 1 rfl
      obtain ⟨vt, evt⟩ : ∃ vt, vt = b9.eval (.tmp 26) := ⟨_, rfl⟩
      have e1 : pT W1.heap.size (tokens B At b) w1 (b9.eval (.tmp 26)) := hd 26 (by decide) 7 rfl
      rw [← evt] at e1
      have e2 : b9.eval (.tmp 27) = .int .i64 (last : Int) := hd 27 (by decide) 8 rfl
      have hbb := HB1.out.trans (hb.mono HB1.out.size)
      rw [call_run (f := 66) (fn := Try.f66) rfl rfl Try.func66 rfl rfl w1]
      simp only [List.map_toArray, List.map_nil, List.map_cons, e0, ← evt, e2]
      show Calls Try.prog 66 #[.agg #[.slice a2 M c2, .int .i64 (T : Int)], vt, .int .i64 (last : Int)] w1 _
      refine (fixedB_any _ L (T : Int) w1 (HSQ.out.below hbb (Nat.le_refl _)) _ (tokens B At b) (RecsOwn.recs encT_len e1) HTO.out last hlast (Nat.le_trans HTL.out hlen) (by rw [← HM.out]; exact hM6)).mono ?_
      rintro e w9 ⟨v9, rfl, ⟨q1, q2⟩, q3⟩
      exact ⟨_, rfl, ⟨v9, rfl, by rw [HK2.out]; exact q1, fun k hk => (q2 k hk).imp id (fun h => Nat.le_trans hb.size h)⟩, q3⟩
    case s10 =>
      intro b9 w1 hb hd hk
      rw [alloc_run rfl (alloc_w w1)]
      exact ⟨⟨w1.heap.size, _, rfl, hb.size, heap_alloc_new _ _, rfl⟩, ext_alloc _ _⟩
  intro V W2 hb hV hs
  obtain ⟨g8, rw9, hg1, hg2, hg3⟩ := hs (by decide)
  obtain ⟨v8, e9, hq8, ho8⟩ : pW W1.heap.size (.slice a2 M c2) K2 (T : Int) W2 (V 9) := hV 9 (by decide) (by decide)
  dsimp only at hg1 hg2 hg3
  obtain rfl : rw9 = #[v8, .int .i64 (T : Int)] := by have h := hg2.symm.trans e9; simpa using h
  have e0 : V 0 = (.pointer (some ⟨gb, 2, none⟩)) := hV 0 (by decide) (by decide)
  have e1 : V 1 = (.agg #[.slice a2 M c2, .int .i64 (T : Int)]) := hV 1 (by decide) (by decide)
  have e2 : V 2 = (.pointer (some ⟨gb, 0, none⟩)) := hV 2 (by decide) (by decide)
  have e3 : V 3 = (.slice a0 N c0) := hV 3 (by decide) (by decide)
  have e4 : V 4 = (.pointer (some ⟨gb, 1, none⟩)) := hV 4 (by decide) (by decide)
  have e5 : V 5 = (.int .i64 (At : Int)) := hV 5 (by decide) (by decide)
  have e6 : V 6 = (.int .i64 (b : Int)) := hV 6 (by decide) (by decide)
  have e8 : V 8 = (.int .i64 (last : Int)) := hV 8 (by decide) (by decide)
  clear hV hs hg2
  simp only [putsL, Act.put, List.setIfInBounds_toArray, List.set_cons_succ, List.set_cons_zero, Nat.reduceAdd, hg1, e0, e1, e2, e3, e4, e5, e6, e8, e9, ptr]
  clear hg1 e0 e1 e2 e3 e4 e5 e6 e8 e9
  generalize V 7 = q27
  have HG8 := Lib.hid hg3
  have HQ8 := Lib.hid hq8
  have HO8 := Lib.hid ho8
  have HB2 := Lib.hid (HB1.out.trans (hb.mono HB1.out.size))
  have HRc := Lib.hid ((hb.block gb (Base.lt_of_heap HRa.out)).trans HRa.out)
  have HRd := Lib.hid ((hb.block gr (Base.lt_of_heap HRb.out)).trans HRb.out)
  have HG9 := Lib.hid ((hb.block g7 (Base.lt_of_heap HG7.out)).trans HG7.out)
  have HQ9 := Lib.hid (HQ7.out.below hb (Nat.le_refl _))
  have hs2 := hb.size
  clear hg3 hq8 ho8 hb HRa HRb HG7 HQ7
  obtain ⟨a7, c7, rfl, -, -⟩ := HQ9.out.sq.open_
  obtain ⟨a8, c8, rfl, -, -⟩ := HQ8.out.sq.open_
  obtain ⟨n7, hn7⟩ : ∃ n, n = K1.length := ⟨_, rfl⟩
  obtain ⟨n8, hn8⟩ : ∃ n, n = K2.length := ⟨_, rfl⟩
  rw [← hn7] at HG9 HQ9 HO7 ⊢
  rw [← hn8] at HG8 HQ8 HO8 ⊢
  rw [← hn7, ← hn8] at HBLK
  clear hn7 hn8
  have n1 : ¬ g8 = gb := fun e => by have h := HG8.out; rw [e, HRc.out] at h; simp at h
  have n2 : ¬ g7 = gb := fun e => by have h := HG9.out; rw [e, HRc.out] at h; simp at h
  have ho7 : ∀ k, (Value.slice a7 n7 c7).ownBlock = some k → ¬ k = gb ∧ ¬ k = gr ∧ ((Value.slice a2 M c2).ownBlock = some k ∨ w.heap.size ≤ k) := fun k hk => by
    rcases HO7.out k hk with h | h
    · have := HN1.out k h; have := HSQ.out.lt k h; exact ⟨by omega, by omega, .inl h⟩
    · exact ⟨by omega, by omega, .inr (by omega)⟩
  have ho8 : ∀ k, (Value.slice a8 n8 c8).ownBlock = some k → ¬ k = gb ∧ ¬ k = gr ∧ ((Value.slice a2 M c2).ownBlock = some k ∨ w.heap.size ≤ k) := fun k hk => by
    rcases HO8.out k hk with h | h
    · have := HN1.out k h; have := HSQ.out.lt k h; exact ⟨by omega, by omega, .inl h⟩
    · exact ⟨by omega, by omega, .inr (by omega)⟩
  have HO7b := Lib.hid ho7
  have HO8b := Lib.hid ho8
  have c80 := cell_of_row _ _ 0 _ _ _ HG8.out
  have c81 := cell_of_row _ _ 1 _ _ _ HG8.out
  have f2 := frozen_of_row _ _ 2 _ _ HRc.out
  have f3 := frozen_of_row _ _ 3 _ _ HRc.out
  have y2 := cell_of_row _ _ 2 _ _ _ HRc.out
  have y3 := cell_of_row _ _ 3 _ _ _ HRc.out
  simp only [List.getElem?_toArray, List.getElem?_cons_succ, List.getElem?_cons_zero] at c80 c81 y2 y3
  clear ho7 ho8 HO7 HO8
  go_upto_region 4 with (fail)
  have hk3 := ((Keeps.refl (fun k => k = gb) W2).setCell gb 2 (.slice a8 n8 c8) (.inl rfl)).setCell gb 3 (.int .i64 (T : Int)) (.inl rfl)
  have hr3 := heap_setCell_same _ gb 3 _ _ (.int .i64 (T : Int)) (heap_setCell_same W2 gb 2 _ _ (.slice a8 n8 c8) HRc.out)
  obtain ⟨W3, hW3⟩ : ∃ ww, ww = (W2.setCell ⟨gb, 2, none⟩ (.slice a8 n8 c8)).setCell ⟨gb, 3, none⟩ (.int .i64 (T : Int)) := ⟨_, rfl⟩
  rw [← hW3] at hk3 hr3 ⊢
  have HK3 := Lib.hid hk3
  have HR3 := Lib.hid (show W3.heap[gb]? = some (.cells #[.slice a0 N c0, .int .i64 (At : Int), .slice a8 n8 c8, .int .i64 (T : Int), .bool ov] 62) from hr3)
  clear hW3 hk3 hr3 c80 c81 f2 f3 y2 y3
  have HG7c := Lib.hid ((HK3.out.block g7 (Base.lt_of_heap HG9.out) n2).trans HG9.out)
  have HG8c := Lib.hid ((HK3.out.block g8 (Base.lt_of_heap HG8.out) n1).trans HG8.out)
  have c70 := cell_of_row _ _ 0 _ _ _ HG7c.out
  have c71 := cell_of_row _ _ 1 _ _ _ HG7c.out
  have c80 := cell_of_row _ _ 0 _ _ _ HG8c.out
  have f1 := frozen_of_row _ _ 1 _ _ HR3.out
  have f2 := frozen_of_row _ _ 2 _ _ HR3.out
  have f3 := frozen_of_row _ _ 3 _ _ HR3.out
  have y1 := cell_of_row _ _ 1 _ _ _ HR3.out
  have y2 := cell_of_row _ _ 2 _ _ _ HR3.out
  have y3 := cell_of_row _ _ 3 _ _ _ HR3.out
  simp only [List.getElem?_toArray, List.getElem?_cons_succ, List.getElem?_cons_zero] at c70 c71 c80 y1 y2 y3
  have hsz2 := HB2.out.size
  by_cases hlt : n7 < n8
  · have d1 : decide (n7 < n8) = true := decide_eq_true hlt
    have hbk := HBLK.out
    rw [if_pos hlt] at hbk
    have HBK := Lib.hid hbk
    clear hbk
    go_upto_region 6 with (fail)
    have hk4 := (HK3.out.setCell gb 2 (.slice a7 n7 c7) (.inl rfl)).setCell gb 3 (.int .i64 (T : Int)) (.inl rfl)
    have hr4 := heap_setCell_same _ gb 3 _ _ (.int .i64 (T : Int)) (heap_setCell_same W3 gb 2 _ _ (.slice a7 n7 c7) HR3.out)
    obtain ⟨W4, hW4⟩ : ∃ ww, ww = (W3.setCell ⟨gb, 2, none⟩ (.slice a7 n7 c7)).setCell ⟨gb, 3, none⟩ (.int .i64 (T : Int)) := ⟨_, rfl⟩
    rw [← hW4] at hk4 hr4 ⊢
    have HK4 := Lib.hid hk4
    have HR4 := Lib.hid (show W4.heap[gb]? = some (.cells #[.slice a0 N c0, .int .i64 (At : Int), .slice a7 n7 c7, .int .i64 (T : Int), .bool ov] 62) from hr4)
    clear hW4 hk4 hr4 c70 c71 c80 f1 f2 f3 y1 y2 y3
    have f1 := frozen_of_row _ _ 1 _ _ HR4.out
    have y1 := cell_of_row _ _ 1 _ _ _ HR4.out
    simp only [List.getElem?_toArray, List.getElem?_cons_succ, List.getElem?_cons_zero] at y1
    go_upto_region 7 with (fail)
    have hk5 := HK4.out.setCell gb 1 (.int .i64 (b : Int)) (.inl rfl)
    have hr5 := heap_setCell_same W4 gb 1 _ _ (.int .i64 (b : Int)) HR4.out
    obtain ⟨W5, hW5⟩ : ∃ ww, ww = W4.setCell ⟨gb, 1, none⟩ (.int .i64 (b : Int)) := ⟨_, rfl⟩
    rw [← hW5] at hk5 hr5 ⊢
    have HK5 := Lib.hid hk5
    have HR5 := Lib.hid (show W5.heap[gb]? = some (.cells #[.slice a0 N c0, .int .i64 (b : Int), .slice a7 n7 c7, .int .i64 (T : Int), .bool ov] 62) from hr5)
    have HRr := Lib.hid ((hk5.block gr (Base.lt_of_heap HRd.out) (fun e => hgbr.2.2.1 e.symm)).trans HRd.out)
    clear hW5 hk5 hr5 f1 y1
    go_wp2_with (first
      | (with_reducible refine load_w6 rfl (.tmp 3) rfl gb rfl _ HR5.out rfl ?_)
      | (with_reducible refine store_w6 rfl (.tmp 6) (.tmp 42) rfl rfl gr _ _ _ _ _ _ _ _ _ rfl rfl _ HRr.out rfl ?_))
    refine bodyPost_ret (results_cell_row rfl _ _ gr 62 _ _ _ rfl (setRow_heap _ _ _ _ _ _ HRr.out) Try.underlying62 rfl (by kernel_rfl)) rfl ?_
    have hk6 : Keeps (fun k => k = gb ∨ k = gr) W2 (W5.setRow gr #[.slice a0 N c0, .int .i64 (b : Int), .slice a7 n7 c7, .int .i64 (T : Int), .bool ov]) := (HK5.out.mono (fun k e => .inl e)).setRow gr _ (.inl (.inr rfl))
    refine ⟨.slice a7 n7 c7, rfl, ⟨?_, fun k hk => (HO7b.out k hk).2.2⟩, HB2.out.trans (hk6.below _ hsz2 (fun k e => by rcases e with e | e <;> omega))⟩
    rw [HBK.out]
    exact HQ9.out.frame hk6 (fun k hk e => by rcases e with e | e; exact (HO7b.out k hk).1 e; exact (HO7b.out k hk).2.1 e)
  · have d1 : decide (n7 < n8) = false := decide_eq_false hlt
    have hbk := HBLK.out
    rw [if_neg hlt] at hbk
    have HBK := Lib.hid hbk
    have HK4 := HK3
    have HR4 := HR3
    clear hbk c71 f2 f3 y2 y3
    go_upto_region 6 with (fail)
    clear c70 c80
    go_upto_region 7 with (fail)
    have hk5 := HK4.out.setCell gb 1 (.int .i64 (b : Int)) (.inl rfl)
    have hr5 := heap_setCell_same W3 gb 1 _ _ (.int .i64 (b : Int)) HR4.out
    obtain ⟨W5, hW5⟩ : ∃ ww, ww = W3.setCell ⟨gb, 1, none⟩ (.int .i64 (b : Int)) := ⟨_, rfl⟩
    rw [← hW5] at hk5 hr5 ⊢
    have HK5 := Lib.hid hk5
    have HR5 := Lib.hid (show W5.heap[gb]? = some (.cells #[.slice a0 N c0, .int .i64 (b : Int), .slice a8 n8 c8, .int .i64 (T : Int), .bool ov] 62) from hr5)
    have HRr := Lib.hid ((hk5.block gr (Base.lt_of_heap HRd.out) (fun e => hgbr.2.2.1 e.symm)).trans HRd.out)
    clear hW5 hk5 hr5 f1 y1
    go_wp2_with (first
      | (with_reducible refine load_w6 rfl (.tmp 3) rfl gb rfl _ HR5.out rfl ?_)
      | (with_reducible refine store_w6 rfl (.tmp 6) (.tmp 42) rfl rfl gr _ _ _ _ _ _ _ _ _ rfl rfl _ HRr.out rfl ?_))
    refine bodyPost_ret (results_cell_row rfl _ _ gr 62 _ _ _ rfl (setRow_heap _ _ _ _ _ _ HRr.out) Try.underlying62 rfl (by kernel_rfl)) rfl ?_
    have hk6 : Keeps (fun k => k = gb ∨ k = gr) W2 (W5.setRow gr #[.slice a0 N c0, .int .i64 (b : Int), .slice a8 n8 c8, .int .i64 (T : Int), .bool ov]) := (HK5.out.mono (fun k e => .inl e)).setRow gr _ (.inl (.inr rfl))
    refine ⟨.slice a8 n8 c8, rfl, ⟨?_, fun k hk => (HO8b.out k hk).2.2⟩, HB2.out.trans (hk6.below _ hsz2 (fun k e => by rcases e with e | e <;> omega))⟩
    rw [HBK.out]
    exact HQ8.out.frame hk6 (fun k hk e => by rcases e with e | e; exact (HO8b.out k hk).1 e; exact (HO8b.out k hk).2.1 e)

end Go.Proofs.Ytighlefajekloaa.DefEg
