/- Appends to a row of bytes: to one's own, or to one without room behind it; of a string's bytes, the row itself still to be read. No program is named here. -/
import Derived.Test.YtighlefajekloaaDefDb
import Derived.Test.YtighlefajekloaaNumSl
import Derived.Lib.AppendStr
set_option linter.unusedVariables false
set_option linter.unusedSimpArgs false
namespace Go.Proofs.Ytighlefajekloaa.NumAp
open Go.RowKit Base NumSl DefDa DefDb
variable {P : Program}
/-- a row of one's own, or one without room behind it -/
def Ap (k : IntKind) (N E base : Nat) (w : World) (v : Value) (l : List Nat) : Prop := Own k N E base w v l ∨ ((∃ ad n, v = .slice ad n n) ∧ Nums k N w v l ∧ ∀ b, v.ownBlock = some b → base ≤ b)
theorem Ap.nums {k : IntKind} {N E base : Nat} {w : World} {v : Value} {l : List Nat} (h : Ap k N E base w v l) : Nums k N w v l := by
  rcases h with h | h
  · exact h.nums
  · exact h.2.1
theorem Ap.low {k : IntKind} {N E base : Nat} {w : World} {v : Value} {l : List Nat} (h : Ap k N E base w v l) : ∀ b, v.ownBlock = some b → base ≤ b := by
  rcases h with h | h
  · exact fun b hb => (h.lt b hb).1
  · exact h.2.2
theorem Ap.below {k : IntKind} {N E base : Nat} {w w' : World} {v : Value} {l : List Nat} (h : Ap k N E base w v l) (hb : Below w.heap.size w w') : Ap k N E base w' v l := by
  rcases h with h | h
  · exact .inl (h.below hb (Nat.le_refl _))
  · exact .inr ⟨h.1, h.2.1.below hb (Nat.le_refl _), h.2.2⟩
theorem wpList_append_ap2 {w : World} {ops : Array Oper} {rest : List Oper} {o : Oper} {a : Act} {Q : Exit → Act → World → Prop} (hgd : o.guard = none) (s x : Operand) (T E : TypeId)
    (ho : o.op = .call { callee := .builtin .append, args := #[s, x], argTypes := #[T, T] }) (k : IntKind) (N bytes base : Nat) (hT : NumSlice P T E k bytes)
    (v : Value) (l : List Nat) (hs : a.eval s = v) (hap : Ap k N E base w v l) (u : Value) (m : List Nat) (hm : m ≠ []) (hx : a.eval x = u) (hu : Nums k N w u m)
    (hb : (l.length + m.length) * bytes ≤ 140737488355328) (hl : l.length + m.length ≤ 140737488355328) (hbase : base ≤ w.heap.size)
    (h : ∀ v' w', Own k N E base w' v' (l ++ m) → Keeps (fun k => v.ownBlock = some k) w w' → (∀ b, v'.ownBlock = some b → v.ownBlock = some b ∨ w.heap.size ≤ b) → wpList P ops Q rest (a.put o.dst v') w') : wpList P ops Q (o :: rest) a w := by
  rcases hap with hown | ⟨⟨ad, n, rfl⟩, hv, -⟩
  · exact wpList_append_nums_at hgd s x T E ho k N bytes base hT v l hs hown u m hx hu hb hl hbase fun v' w' h1 h2 h3 => h v' w' h1 ((Keeps.refl _ w).grown h2 (fun k hk => .inl hk)) (fun b hb => by rcases h3 with e | e; exact .inl (e ▸ hb); exact .inr (e b hb))
  · obtain ⟨i, hi, hz, h1, h2⟩ := hT.info
    obtain ⟨ad2, cap, rfl, hc1, hc2, hnone⟩ := hu.shape
    obtain ⟨ad3, cap3, e3, hd1, hd2, hdnone⟩ := hv.shape
    simp only [Value.slice.injEq] at e3
    obtain ⟨rfl, rfl, -⟩ := e3
    have hml : 0 < m.length := by cases m with
      | nil => exact absurd rfl hm
      | cons => simp
    cases ad2 with
    | none => have := hnone rfl; omega
    | some ad2 =>
      refine wpList_append_grows w hgd s x T ho E i (.int k 0) 1 bytes hT.und hi hz h1 h2 rfl (by omega) ad l.length l.length (numCells k l) hs (fun e => ⟨(hdnone e).1, (hdnone e).1⟩) (by rw [numCells_length]; omega)
        (by
          intro b hb' j y hj
          have hjl : j < l.length := by
            rcases Nat.lt_or_ge j l.length with h | h
            · exact h
            · rw [List.getElem?_eq_none (by rw [numCells_length]; exact h)] at hj; simp at hj
          obtain ⟨b1, off, cap', e, _, hc⟩ := hv.cells (by intro h0; subst h0; simp at hjl)
          subst hb'
          simp only [Value.slice.injEq, Option.some.injEq] at e
          obtain ⟨rfl, _, _⟩ := e
          rw [numCells_at k l j hjl] at hj
          have := hc j hjl
          rw [add_none, this]; exact hj) ad2 m.length cap (numCells k m) hx (by rw [numCells_length]; omega)
        (by
          intro j y hj
          have hjl : j < m.length := by
            rcases Nat.lt_or_ge j m.length with h | h
            · exact h
            · rw [List.getElem?_eq_none (by rw [numCells_length]; exact h)] at hj; simp at hj
          obtain ⟨b, off, cap', e, _, hc⟩ := hu.cells (by intro h0; subst h0; simp at hjl)
          simp only [Value.slice.injEq, Option.some.injEq] at e
          obtain ⟨rfl, _, _⟩ := e
          rw [numCells_at k m j hjl] at hj
          have := hc j hjl
          rw [add_none, this]; exact hj) (numCells_one k m) (by omega) (by unfold maxLen; omega) hb ?_
      intro v' w' ho' hg'
      have hO : Own k N E w.heap.size w' v' (l ++ m) := ⟨by rw [List.length_append, numCells_append]; exact ho', fun y hy => by rcases List.mem_append.1 hy with hy | hy; exact hv.bound y hy; exact hu.bound y hy⟩
      exact h v' w' (hO.mono hbase) ((Keeps.refl _ w).grown hg' (fun k hk => by cases hk)) (fun b hb => .inr (hO.lt b hb).1)
theorem wpList_append_ap {w : World} {ops : Array Oper} {rest : List Oper} {o : Oper} {a : Act} {Q : Exit → Act → World → Prop} (hgd : o.guard = none) (s x : Operand) (T E : TypeId)
    (ho : o.op = .call { callee := .builtin .append, args := #[s, x], argTypes := #[T, T] }) (k : IntKind) (N bytes base : Nat) (hT : NumSlice P T E k bytes)
    (v : Value) (l : List Nat) (hs : a.eval s = v) (hap : Ap k N E base w v l) (u : Value) (m : List Nat) (hm : m ≠ []) (hx : a.eval x = u) (hu : Nums k N w u m)
    (hb : (l.length + m.length) * bytes ≤ 140737488355328) (hl : l.length + m.length ≤ 140737488355328) (hbase : base ≤ w.heap.size)
    (h : ∀ v' w', Own k N E base w' v' (l ++ m) → Keeps (fun k => v.ownBlock = some k) w w' → wpList P ops Q rest (a.put o.dst v') w') : wpList P ops Q (o :: rest) a w :=
  wpList_append_ap2 hgd s x T E ho k N bytes base hT v l hs hap u m hm hx hu hb hl hbase fun v' w' h1 h2 _ => h v' w' h1 h2
theorem strCells_bts (s : ByteArray) : Lib.strCells s = numCells .u8 (bts s) := by
  unfold Lib.strCells numCells bts
  rw [List.map_map]; rfl
/-- a string's bytes, behind a row of one's own: that row still reads as it did -/
theorem wpList_append_str2 {w : World} {ops : Array Oper} {rest : List Oper} {o : Oper} {a : Act} {Q : Exit → Act → World → Prop} (hgd : o.guard = none) (sl x : Operand) (T E U : TypeId)
    (ho : o.op = .call { callee := .builtin .append, args := #[sl, x], argTypes := #[T, U] }) (base : Nat) (hT : NumSlice P T E .u8 1) (hU : P.underlying U = some .string)
    (v : Value) (l : List Nat) (hs : a.eval sl = v) (hown : Own .u8 256 E base w v l) (hne : l ≠ []) (s : ByteArray) (hx : a.eval x = .string s) (hl : l.length + s.size ≤ 140737488355328) (hbase : base ≤ w.heap.size)
    (h : ∀ v' w', Own .u8 256 E base w' v' (l ++ bts s) → Nums .u8 256 w' v l → Keeps (fun k => v.ownBlock = some k) w w' → (∀ b, v'.ownBlock = some b → v.ownBlock = some b ∨ w.heap.size ≤ b) → wpList P ops Q rest (a.put o.dst v') w') : wpList P ops Q (o :: rest) a w := by
  obtain ⟨i, hi, hz, h1, h2⟩ := hT.info
  have hbnd : ∀ y ∈ l ++ bts s, y < 256 := by
    intro y hy
    rcases List.mem_append.1 hy with hy | hy
    · exact hown.bound y hy
    · unfold bts at hy
      rw [List.mem_map] at hy
      obtain ⟨z, -, rfl⟩ := hy
      exact z.toNat_lt
  have hll := numCells_length .u8 l
  rcases hown.row.2 with ⟨rfl, h0⟩ | ⟨g, cap, cur, rfl, hbg, hg, hnc, hcm, hcs, htake⟩
  · exact absurd (List.eq_nil_of_length_eq_zero h0) hne
  · have holds : ∀ j u, (numCells .u8 l)[j]? = some u → w.cell? ((⟨g, 0, none⟩ : Addr).add j) = some u := hown.row.cells (g := g) rfl
    have hlen : (numCells .u8 l ++ Lib.strCells s).length = (l.length + s.size) * 1 := by rw [List.length_append, hll, Lib.strCells_length, Nat.mul_one]
    refine wpList_plain hgd fun K hK => ?_
    unfold Oper.wp execOp
    by_cases hroom : l.length + s.size ≤ cap
    · have hcs' : cur.size = cap := by simpa using hcs
      have hr := Lib.run_append_room_string (P := P) w T U o.type E i hT.und hU hi h1 g l.length cap cur hg s hroom (by omega)
      have ht' : cur.toList.take l.length = numCells .u8 l := by simpa [hll] using htake
      simp only [ho, resolve, invoke, builtin, Sem.run_bind, Sem.run_pure, Result.andThen_ok, List.map_toArray, List.map_cons, List.map_nil, hs, hx, hr]
      have hk : Keeps (fun k => (Value.slice (some ⟨g, 0, none⟩) l.length cap).ownBlock = some k) w (w.setRow g (cur.toList.take l.length ++ Lib.strCells s ++ cur.toList.drop (l.length + s.size)).toArray) := (Keeps.refl _ w).setRow g _ (.inl rfl)
      have hrow := setRow_heap w g cur (cur.toList.take l.length ++ Lib.strCells s ++ cur.toList.drop (l.length + s.size)).toArray E _ hg
      have hO : Own .u8 256 E base (w.setRow g (cur.toList.take l.length ++ Lib.strCells s ++ cur.toList.drop (l.length + s.size)).toArray) (.slice (some ⟨g, 0, none⟩) (l.length + s.size) cap) (l ++ bts s) := by
        refine ⟨?_, hbnd⟩
        have e1 : (l ++ bts s).length = l.length + s.size := by rw [List.length_append, bts_len]
        rw [e1, numCells_append, ← strCells_bts]
        refine ⟨hlen, .inr ⟨g, cap, _, rfl, hbg, hrow, hroom, hcm, ?_, ?_⟩⟩
        · simp only [List.size_toArray, List.length_append, List.length_take, List.length_drop, Array.length_toList, Lib.strCells_length]
          omega
        · rw [ht', ← hlen]
          exact List.take_left
      refine hK _ _ (h _ _ hO ?_ hk (fun b hb => .inl hb))
      refine ⟨⟨_, cap, rfl, hnc, hcm, fun e => by simp at e⟩, hown.bound, fun _ => ⟨g, 0, cap, rfl, Base.lt_of_heap hrow, fun j hj => ?_⟩⟩
      rw [Nat.zero_add, cell_of_row _ g j _ _ _ hrow, ht']
      simp only [List.getElem?_toArray]
      rw [List.append_assoc, List.getElem?_append_left (by rw [hll]; exact hj)]
      exact numCells_at .u8 l j hj
    · have hr := Lib.run_append_grow_string (P := P) w T U o.type E i (.int .u8 0) hT.und hU hi hz ⟨g, 0, none⟩ l.length cap (numCells .u8 l) (by rw [h1, hll]; omega) holds s (by omega) (by omega) (by rw [h2]; exact growslice_fits (by omega) (by omega))
      simp only [ho, resolve, invoke, builtin, Sem.run_bind, Sem.run_pure, Result.andThen_ok, List.map_toArray, List.map_cons, List.map_nil, hs, hx, hr]
      have hb : Below w.heap.size w (w.drew.alloc (.cells ((numCells .u8 l).toArray ++ (Lib.strCells s).toArray ++ Builtin.zeroCells (Value.int .u8 0).cells (grownCap w (l.length + s.size) cap E - (l.length + s.size))) E)) := ⟨rfl, rfl, rfl, by simp, fun k hk => heap_alloc_old w.drew _ hk⟩
      have hge := grownCap_ge w (l.length + s.size) cap E
      have hcm2 : grownCap w (l.length + s.size) cap E ≤ maxLen := grownCap_le_maxLen w (l.length + s.size) cap E (by unfold maxLen; omega)
      refine hK _ _ (h _ _ ⟨?_, hbnd⟩ (hown.nums.below hb (Nat.le_refl _)) (Keeps.of_ext hb _) (fun b hb => .inr (by simp only [Value.ownBlock, Option.some.injEq] at hb; omega)))
      have e1 : (l ++ bts s).length = l.length + s.size := by rw [List.length_append, bts_len]
      rw [e1, numCells_append, ← strCells_bts]
      refine ⟨hlen, .inr ⟨w.heap.size, _, _, rfl, hbase, heap_alloc_new w.drew _, hge, hcm2, ?_, ?_⟩⟩
      · have hz1 : (Value.int IntKind.u8 0).cells.size = 1 := rfl
        simp only [Array.size_append, List.size_toArray, size_zeroCells, hz1, hll, Lib.strCells_length]
        omega
      · simp only [Array.toList_append, List.append_assoc]
        rw [← List.append_assoc, ← hlen]
        exact List.take_left
theorem wpList_append_str {w : World} {ops : Array Oper} {rest : List Oper} {o : Oper} {a : Act} {Q : Exit → Act → World → Prop} (hgd : o.guard = none) (sl x : Operand) (T E U : TypeId)
    (ho : o.op = .call { callee := .builtin .append, args := #[sl, x], argTypes := #[T, U] }) (base : Nat) (hT : NumSlice P T E .u8 1) (hU : P.underlying U = some .string)
    (v : Value) (l : List Nat) (hs : a.eval sl = v) (hown : Own .u8 256 E base w v l) (hne : l ≠ []) (s : ByteArray) (hx : a.eval x = .string s) (hl : l.length + s.size ≤ 140737488355328) (hbase : base ≤ w.heap.size)
    (h : ∀ v' w', Own .u8 256 E base w' v' (l ++ bts s) → Nums .u8 256 w' v l → Keeps (fun k => v.ownBlock = some k) w w' → wpList P ops Q rest (a.put o.dst v') w') : wpList P ops Q (o :: rest) a w :=
  wpList_append_str2 hgd sl x T E U ho base hT hU v l hs hown hne s hx hl hbase fun v' w' h1 h2 h3 _ => h v' w' h1 h2 h3
end Go.Proofs.Ytighlefajekloaa.NumAp
