/- Making meshes: literals and makes in a drawn region. -/
import Derived.Test.YtdmmjmdnljhooaaMeshU
import Derived.Test.YtdmmjmdnljhooaaQr
import Derived.Test.YtdmmjmdnljhooaaMeshX
set_option linter.unusedVariables false
set_option linter.unusedSimpArgs false
namespace Go.Proofs.Ytdmmjmdnljhooaa.MeshY
open Go.RowKit Go.Sort FixM Base Num FixW Qb Qt Qa Qf Qr VecW VecV VecU LightQ LightC MeshM Rec MeshA MeshB MeshC MeshD MeshE MeshP MeshEq MeshL MeshS MeshT MeshF MeshG MeshJ MeshU MeshX Low

/-- what stands in a slot -/
inductive Kd where
  | val (v : Value)
  | r3 (l : List V3)
  | r4 (l : List B4)
  | me (m : Msh)
  | li (l : List Msh)
def Listed (w : World) (v : Value) (l : List Msh) : Prop := ∃ g, v = .slice (some ⟨g, 0, none⟩) l.length l.length ∧ ∀ i (h : i < l.length), ∃ s0 s1 s2, w.cell? ⟨g, i * 3, none⟩ = some s0 ∧ w.cell? ⟨g, i * 3 + 1, none⟩ = some s1 ∧ w.cell? ⟨g, i * 3 + 2, none⟩ = some s2 ∧ g < w.heap.size ∧ IsMesh w (.agg #[s0, s1, s2]) l[i]
theorem Listed.below {w w' : World} {v : Value} {l : List Msh} (h : Listed w v l) (hb : Below w.heap.size w w') : Listed w' v l := by
  obtain ⟨g, e, h⟩ := h
  refine ⟨g, e, fun i hi => ?_⟩
  obtain ⟨s0, s1, s2, c0, c1, c2, hg, hm⟩ := h i hi
  exact ⟨s0, s1, s2, (hb.cell (p := ⟨g, i * 3, none⟩) hg).trans c0, (hb.cell (p := ⟨g, i * 3 + 1, none⟩) hg).trans c1, (hb.cell (p := ⟨g, i * 3 + 2, none⟩) hg).trans c2, Nat.lt_of_lt_of_le hg hb.size, hm.below hb⟩
def Kd.sat : Kd → World → Value → Prop
  | .val u, _, v => v = u
  | .r3 l, w, v => Recs 3 enc3 w v l
  | .r4 l, w, v => Recs 4 enc4 w v l
  | .me m, w, v => IsMesh w v m
  | .li l, w, v => Listed w v l
theorem Kd.mono (K : Kd) (v : Value) (w1 w2 : World) (h : K.sat w1 v) (hb : Below w1.heap.size w1 w2) : K.sat w2 v := by
  cases K
  · exact h
  · exact Recs.below h hb (Nat.le_refl _)
  · exact Recs.below h hb (Nat.le_refl _)
  · exact IsMesh.below h hb
  · exact Listed.below h hb
def phi (ks : List Kd) (k : Nat) (w : World) (v : Value) : Prop := (ks.getD k (.val undef)).sat w v
theorem phi_mono (ks : List Kd) (k : Nat) (v : Value) (w1 w2 : World) (h : phi ks k w1 v) (hb : Below w1.heap.size w1 w2) : phi ks k w2 v := Kd.mono _ v w1 w2 h hb
theorem ev_const (b : Act) (v : Value) : b.eval (.const v) = v := rfl
theorem build_run {P : Program} {e : Operand → Value} {o : Oper} {t : TypeId} {parts : Array (Nat × Operand)} (ho : o.op = .build t parts) {r : Array Value} (h : P.built t (parts.map fun (i, x) => (i, e x)).toList = some r) (w : World) : (execOp e o).run P w = .ok (.value (.agg r)) w := by
  unfold execOp
  simp only [ho, Sem.run_bind, run_build w t _ r h, Result.andThen_ok, Sem.run_pure]
theorem bs_run {P : Program} {e : Operand → Value} {o : Oper} {T : TypeId} {n : Nat} {parts : Array (Nat × Operand)} (ho : o.op = .buildSlice T n parts) {u : Value} {w w' : World} (h : (Instr.buildSlice T n (parts.map fun (i, x) => (i, e x))).run P w = .ok u w') : (execOp e o).run P w = .ok (.value u) w' := by
  unfold execOp
  simp only [ho, Sem.run_bind, h, Result.andThen_ok, Sem.run_pure]
theorem make_run {P : Program} {e : Operand → Value} {o : Oper} {T : TypeId} {x y : Operand} (ho : o.op = .makeSlice T x y) {u : Value} {w w' : World} (h : (Instr.makeSlice T (e x) (e y)).run P w = .ok u w') : (execOp e o).run P w = .ok (.value u) w' := by
  unfold execOp
  simp only [ho, Sem.run_bind, h, Result.andThen_ok, Sem.run_pure]
theorem assign_run {P : Program} {e : Operand → Value} {o : Oper} {x : Operand} (ho : o.op = .assign x) (w : World) : (execOp e o).run P w = .ok (.value (e x)) w := by
  unfold execOp
  simp only [ho, Sem.run_pure]
theorem made_at (z : Array Value) (n i : Nat) (hi : i < n) : (Go.madeCells z n)[i]? = some (z[i % z.size]!) := by simp [Go.madeCells, hi]
theorem recs_made {α : Type} {c : Nat} {enc : α → List Value} (hlen : ∀ x, (enc x).length = c) (hc : 0 < c) (E : Nat) (w : World) (x : α) (z : Array Value) (hz : z.toList = enc x) (n : Nat) (hn : n ≤ maxLen) : Recs c enc (w.alloc (.cells (Go.madeCells z (n * c)) E)) (.slice (some ⟨w.heap.size, 0, none⟩) n n) (List.replicate n x) where
  shape := ⟨_, n, by rw [List.length_replicate], by rw [List.length_replicate]; exact Nat.le_refl _, hn, fun e => by simp at e⟩
  cells := fun _ => ⟨w.heap.size, 0, n, by rw [List.length_replicate], by simp, fun i hi k y hy => by
    rw [List.length_replicate] at hi
    rw [List.getElem_replicate] at hy
    have hk : k < c := by
      rcases Nat.lt_or_ge k c with h | h
      · exact h
      · rw [List.getElem?_eq_none (by rw [hlen]; exact h)] at hy; simp at hy
    have hs : z.size = c := by rw [← Array.length_toList, hz, hlen]
    have hik : i * c + k < n * c := by
      have : (i + 1) * c ≤ n * c := Nat.mul_le_mul_right _ hi
      rw [Nat.add_mul] at this; omega
    rw [cell_of_row _ w.heap.size _ _ E (0, 0) (heap_alloc_new _ _), Nat.zero_add, made_at _ _ _ hik, hs, Nat.mul_comm i c, Nat.mul_add_mod, Nat.mod_eq_of_lt hk]
    rw [← hz, Array.getElem?_toList] at hy
    rw [← hy, getElem!_def, hy]⟩
theorem make_recs {P : Program} {α : Type} {T E : TypeId} {c : Nat} {enc : α → List Value} {z : Value} {bytes : Nat} (hT : RecSlice P T E c enc z bytes) (x : α) (hz : z.cells.toList = enc x) (n : Nat) (hn : n ≤ 5000) (hcb : c ≤ 10 ∧ bytes ≤ 1000) (w : World) :
    ∃ w', (Instr.makeSlice T (.int .i64 (n : Int)) (.int .i64 (n : Int))).run P w = .ok (.slice (some ⟨w.heap.size, 0, none⟩) n n) w' ∧ Recs c enc w' (.slice (some ⟨w.heap.size, 0, none⟩) n n) (List.replicate n x) ∧ Below w.heap.size w w' ∧ ∃ row, w'.heap[w.heap.size]? = some (.cells row E) := by
  obtain ⟨i, hi, hiz, hs, hb⟩ := hT.info
  have h1 : (n : Int).toNat * i.size ≤ 16777216 := by
    rw [hs, Int.toNat_natCast]
    have : n * c ≤ 5000 * 10 := Nat.mul_le_mul hn hcb.1
    omega
  have h2 : (i.bytes : Int) * (n : Int) ≤ 281474976710656 := by
    rw [hb]
    have : bytes * n ≤ 1000 * 5000 := Nat.mul_le_mul hcb.2 hn
    omega
  have := Go.run_makeSlice (P := P) w T E i z hT.und hi hiz .i64 .i64 (n : Int) (n : Int) (by omega) (by omega) h1 h2 (by omega)
  rw [Int.toNat_natCast, hs] at this
  exact ⟨_, this, recs_made hT.len hT.pos E w x z.cells hz n (by unfold maxLen; omega), ext_alloc _ _, _, heap_alloc_new _ _⟩
section
variable {P : Program} {ops : Array Oper} {ks : List Kd} {W : World} {a : Act} {k : Nat} {o : Oper}
theorem st_const {r : Array Value} (t : TypeId) (parts : Array (Nat × Operand)) (ho : o.op = .build t parts) (hk : ks.getD k (.val undef) = .val (.agg r)) (h : ∀ b : Act, P.built t (parts.map fun (i, x) => (i, b.eval x)).toList = some r) : StepOK P ops (phi ks) W a k o := by
  intro b w _ _ _
  rw [build_run ho (h b) w]
  exact ⟨by unfold phi; rw [hk]; rfl, Below.refl _ _⟩
end
def farL : List Msh := [⟨[⟨0, 0, 4503599627370497⟩], [], []⟩, ⟨[⟨0, -4503599627370497, 0⟩], [], []⟩, ⟨[], [], [⟨⟨0, 0, 0⟩, 4503599627370497⟩]⟩, ⟨[], [], [⟨⟨9223372036854775807, 0, 0⟩, 1⟩]⟩, ⟨[], [], [⟨⟨0, 0, 0⟩, -1⟩]⟩, ⟨[], [⟨0, 0, 0⟩], []⟩, ⟨List.replicate 1 ⟨0, 0, 0⟩, [⟨0, 0, -1⟩], []⟩, ⟨List.replicate 4097 ⟨0, 0, 0⟩, [], []⟩, ⟨List.replicate 1 ⟨0, 0, 0⟩, List.replicate 4097 ⟨0, 0, 0⟩, []⟩, ⟨List.replicate 1 ⟨0, 0, 0⟩, List.replicate 4096 ⟨0, 0, 0⟩, [⟨⟨0, 0, 0⟩, 1⟩]⟩]
def kinds : List Kd := [.val (.agg #[.int .i64 0, .int .i64 0, .int .i64 4503599627370497]), .r3 [⟨0, 0, 4503599627370497⟩], .me ⟨[⟨0, 0, 4503599627370497⟩], [], []⟩, .val (.agg #[.int .i64 0, .int .i64 (-4503599627370497), .int .i64 0]), .r3 [⟨0, -4503599627370497, 0⟩], .me ⟨[⟨0, -4503599627370497, 0⟩], [], []⟩, .val (.agg #[.int .i64 0, .int .i64 0, .int .i64 0, .int .i64 4503599627370497]), .r4 [⟨⟨0, 0, 0⟩, 4503599627370497⟩], .me ⟨[], [], [⟨⟨0, 0, 0⟩, 4503599627370497⟩]⟩, .val (.agg #[.int .i64 9223372036854775807, .int .i64 0, .int .i64 0]), .val (.agg #[.int .i64 9223372036854775807, .int .i64 0, .int .i64 0, .int .i64 1]), .r4 [⟨⟨9223372036854775807, 0, 0⟩, 1⟩], .me ⟨[], [], [⟨⟨9223372036854775807, 0, 0⟩, 1⟩]⟩, .val (.agg #[.int .i64 0, .int .i64 0, .int .i64 0, .int .i64 (-1)]), .r4 [⟨⟨0, 0, 0⟩, -1⟩], .me ⟨[], [], [⟨⟨0, 0, 0⟩, -1⟩]⟩, .val (.agg #[.int .i64 0, .int .i64 0, .int .i64 0]), .r3 [⟨0, 0, 0⟩], .me ⟨[], [⟨0, 0, 0⟩], []⟩, .r3 (List.replicate 1 ⟨0, 0, 0⟩), .val (.agg #[.int .i64 0, .int .i64 0, .int .i64 (-1)]), .r3 [⟨0, 0, -1⟩], .me ⟨List.replicate 1 ⟨0, 0, 0⟩, [⟨0, 0, -1⟩], []⟩, .r3 (List.replicate 4097 ⟨0, 0, 0⟩), .me ⟨List.replicate 4097 ⟨0, 0, 0⟩, [], []⟩, .r3 (List.replicate 1 ⟨0, 0, 0⟩), .r3 (List.replicate 4097 ⟨0, 0, 0⟩), .me ⟨List.replicate 1 ⟨0, 0, 0⟩, List.replicate 4097 ⟨0, 0, 0⟩, []⟩, .r3 (List.replicate 1 ⟨0, 0, 0⟩), .r3 (List.replicate 4096 ⟨0, 0, 0⟩), .val (.agg #[.int .i64 0, .int .i64 0, .int .i64 0, .int .i64 1]), .r4 [⟨⟨0, 0, 0⟩, 1⟩], .me ⟨List.replicate 1 ⟨0, 0, 0⟩, List.replicate 4096 ⟨0, 0, 0⟩, [⟨⟨0, 0, 0⟩, 1⟩]⟩, .li farL, .li farL]

theorem too_14 {m : Msh} (h : tooF m) : checkF m ≠ 0 := by unfold checkF; rw [if_pos h]; decide
theorem far_14 : ∀ m ∈ farL, checkF m ≠ 0 := by
  intro m hm
  simp only [farL, List.mem_cons, List.not_mem_nil, or_false] at hm
  rcases hm with rfl | rfl | rfl | rfl | rfl | rfl | rfl | rfl | rfl | rfl
  · decide
  · decide
  · decide
  · decide
  · decide
  · decide
  · decide
  · exact too_14 (.inl (by rw [List.length_replicate]; decide))
  · exact too_14 (.inr (by rw [List.length_replicate]; decide))
  · exact too_14 (.inr (by rw [List.length_replicate]; decide))
def fullM : Msh := ⟨List.replicate 4096 ⟨0, 0, 0⟩, List.replicate 4096 ⟨0, 0, 0⟩, []⟩
theorem full_0 : checkF fullM = 0 := by
  have h0 : nearV ⟨0, 0, 0⟩ = true := by decide
  have h1 : hasF 4096 ⟨0, 0, 0⟩ = true := by decide
  have ht : ¬ tooF fullM := by
    unfold tooF fullM
    simp only [List.length_replicate, List.length_nil]
    omega
  have hr : rightF fullM = true := by
    unfold rightF
    simp only [Bool.and_eq_true, List.all_eq_true]
    refine ⟨⟨fun x hx => ?_, fun x hx => ?_⟩, fun x hx => by cases hx⟩
    · rw [List.eq_of_mem_replicate (show x ∈ List.replicate 4096 (⟨0, 0, 0⟩ : V3) from hx)]; exact h0
    · rw [List.eq_of_mem_replicate (show x ∈ List.replicate 4096 (⟨0, 0, 0⟩ : V3) from hx), show fullM.ps.length = 4096 from List.length_replicate ..]; exact h1
  unfold checkF
  rw [if_neg ht, if_pos hr]
def farM : Msh := ⟨[⟨4503599627370496, -4503599627370496, 0⟩], [], [⟨⟨0, 0, 0⟩, 4503599627370496⟩]⟩
theorem farM_0 : checkF farM = 0 := by decide
def Bk (E : Nat) (l : List V3) (w : World) (v : Value) : Prop := Recs 3 enc3 w v l ∧ ∃ g row, v = .slice (some ⟨g, 0, none⟩) l.length l.length ∧ w.heap[g]? = some (.cells row E)
theorem Bk.below {E : Nat} {l : List V3} {w w' : World} {v : Value} (h : Bk E l w v) (hb : Below w.heap.size w w') : Bk E l w' v := by
  obtain ⟨h1, g, row, e, h2⟩ := h
  exact ⟨h1.below hb (Nat.le_refl _), g, row, e, vec_step h2 hb⟩
def phi9 (B : Nat) : Nat → World → Value → Prop
  | 0 => Bk 23 (List.replicate 4096 ⟨0, 0, 0⟩)
  | 1 => Bk 31 (List.replicate 4096 ⟨0, 0, 0⟩)
  | 2 => fun w v => ∃ v0 v1, v = .agg #[v0, v1, nil] ∧ Bk 23 (List.replicate 4096 ⟨0, 0, 0⟩) w v0 ∧ Bk 31 (List.replicate 4096 ⟨0, 0, 0⟩) w v1
  | 3 => fun w v => ∃ g, v = ptr g ∧ B ≤ g ∧ w.heap[g]? = some (.cells #[nil, nil, nil] 30)
  | _ => fun _ _ => True
theorem phi9_mono (B k : Nat) (v : Value) (w1 w2 : World) (h : phi9 B k w1 v) (hb : Below w1.heap.size w1 w2) : phi9 B k w2 v := by
  match k, h with
  | 0, h => exact Bk.below h hb
  | 1, h => exact Bk.below h hb
  | 2, h => obtain ⟨v0, v1, e, h0, h1⟩ := h; exact ⟨v0, v1, e, h0.below hb, h1.below hb⟩
  | 3, h => obtain ⟨g, e, hB, h1⟩ := h; exact ⟨g, e, hB, vec_step h1 hb⟩
  | _ + 4, _ => trivial
theorem alloc_mesh (w : World) : (Instr.alloc 30 true (.tuple #[])).run Try.prog w = .ok (.pointer (some ⟨w.heap.size, 0, none⟩)) (w.alloc (.cells #[nil, nil, nil] 30)) := by kernel_rfl
theorem alloc_run {P : Program} {e : Operand → Value} {o : Oper} {ty : TypeId} (ho : o.op = .alloc ty) {u : Value} {w w' : World} (h : (Instr.alloc ty true (.tuple #[])).run P w = .ok u w') : (execOp e o).run P w = .ok (.value u) w' := by
  unfold execOp
  simp only [ho, Sem.run_bind, h, Result.andThen_ok, Sem.run_pure]
def ZB : Value := .agg #[.int .i64 0, .int .i64 0, .int .i64 0, .int .i64 0, .int .i64 0, .int .i64 0]
theorem ok_s3 : (smallM 3).ok := by
  refine ⟨?_, ?_, ?_⟩
  · intro p hp
    simp only [smallM, sPs, List.mem_cons, List.not_mem_nil, or_false] at hp
    rcases hp with rfl | rfl | rfl <;> (simp only [V3.ok, In]; decide)
  · intro p hp
    simp only [smallM, sTs, List.mem_cons, List.not_mem_nil, or_false] at hp
    rcases hp with rfl
    simp only [V3.ok, In]
    decide
  · intro p hp
    simp only [smallM, sBs, List.mem_cons, List.not_mem_nil, or_false] at hp
    rcases hp with rfl
    simp only [V3.ok, In]
    decide
theorem box_s30 (v : Value) (w : World) (h : IsMesh w v (smallM 3)) : Calls Try.prog 8 #[v, .int .i64 0] w (VTo (.agg #[.int .i64 0, .int .i64 0, .int .i64 0, .int .i64 0, .int .i64 0, .int .i64 0]) w) := box_any v (smallM 3) w h ok_s3 (by decide) 0 (by simp only [In]; decide)
theorem box_s22 (v : Value) (w : World) (h : IsMesh w v (smallM 2)) : Calls Try.prog 8 #[v, .int .i64 2] w (VTo (.agg #[.int .i64 0, .int .i64 0, .int .i64 0, .int .i64 0, .int .i64 0, .int .i64 0]) w) := box_any v (smallM 2) w h ok_s2 (by decide) 2 (by simp only [In]; decide)
theorem box_s2n (v : Value) (w : World) (h : IsMesh w v (smallM 2)) : Calls Try.prog 8 #[v, .int .i64 (-1)] w (VTo (.agg #[.int .i64 0, .int .i64 0, .int .i64 0, .int .i64 0, .int .i64 0, .int .i64 0]) w) := box_any v (smallM 2) w h ok_s2 (by decide) (-1) (by simp only [In]; decide)
theorem box_most (v : Value) (w : World) (h : IsMesh w v (ballM [⟨⟨9223372036854775807, 0, 0⟩, 5⟩])) : Calls Try.prog 8 #[v, .int .i64 0] w (VTo (.agg #[.int .i64 9223372036854775802, .int .i64 (-5), .int .i64 (-5), .int .i64 9223372036854775807, .int .i64 5, .int .i64 5]) w) := box_any v _ w h ⟨by simp [ballM], by simp [ballM], by simp [ballM, V3.ok, In]⟩ (by decide) 0 (by simp only [In]; decide)
theorem rd_code (B : List Nat) (v : Value) (c : Int) (h : codeF B = c) (w : World) (hv : Nums .u8 256 w v B) (hB : B.length ≤ 1000000) : Calls Try.prog 10 #[v] w (fun e w' => ∃ a0 n0 c0 a1 n1 c1 a2 n2 c2, e = .returned (.tuple #[.agg #[.slice a0 n0 c0, .slice a1 n1 c1, .slice a2 n2 c2], .int .i64 c]) ∧ Below w.heap.size w w') :=
  (MeshN.mread_any w v B hv hB).mono fun e w' hh => by
    obtain ⟨x, rfl, hm, hb⟩ := hh
    obtain ⟨a0, c0, a1, c1, a2, c2, rfl, -⟩ := hm.open_
    exact ⟨a0, _, c0, a1, _, c1, a2, _, c2, by rw [h], hb⟩
theorem fld_hi (a b c d e f : Int) (w : World) : (Instr.field 39 (.agg #[.int .i64 a, .int .i64 b, .int .i64 c, .int .i64 d, .int .i64 e, .int .i64 f]) 1).run Try.prog w = .ok (.agg #[.int .i64 d, .int .i64 e, .int .i64 f]) w := by kernel_rfl
theorem fld_x (d e f : Int) (w : World) : (Instr.field 23 (.agg #[.int .i64 d, .int .i64 e, .int .i64 f]) 0).run Try.prog w = .ok (.int .i64 d) w := by kernel_rfl
theorem nums_lit (w : World) (l : List Nat) (row : Array Value) (hr : row.toList = l.map (fun (x : Nat) => Value.int .u8 (x : Int))) (hb : ∀ x ∈ l, x < 256) (hm : l.length ≤ maxLen) : Nums .u8 256 (w.alloc (.cells row 5)) (.slice (some ⟨w.heap.size, 0, none⟩) l.length l.length) l where
  shape := ⟨_, l.length, rfl, Nat.le_refl _, hm, fun e => by simp at e⟩
  bound := hb
  cells := fun _ => ⟨w.heap.size, 0, l.length, rfl, by simp, fun i hi => by
    rw [cell_of_row _ w.heap.size _ _ 5 (0, 0) (heap_alloc_new _ _), Nat.zero_add, ← Array.getElem?_toList, hr]
    simp [hi]⟩
def sL : List Nat := bytesF (smallM 2)
theorem sL_len : sL.length = 128 := by decide +kernel
theorem bytes_s2 (v : Value) (w : World) (h : IsMesh w v (smallM 2)) : Calls Try.prog 6 #[v] w (fun e w' => ∃ g c, e = .returned (.tuple #[.slice (some ⟨g, 0, none⟩) 128 c, .int .i64 0]) ∧ 128 ≤ c ∧ Own .u8 256 5 w.heap.size w' (.slice (some ⟨g, 0, none⟩) 128 c) sL ∧ Below w.heap.size w w') :=
  (bytes_any v (smallM 2) w h).mono fun e w' hh => by
    obtain ⟨x, rfl, ho, hb⟩ := hh
    have e2 : outF (smallM 2) = sL := if_pos (show checkF (smallM 2) = 0 by decide)
    rw [e2] at ho
    obtain ⟨g, c, rfl, hc, -⟩ := ho.at_ (by rw [sL_len]; decide)
    rw [sL_len] at hc ho ⊢
    exact ⟨g, c, rfl, hc, ho, hb⟩
theorem code_nil : codeF [] = 12 := by decide +kernel
theorem code_11 : codeF (sL.take 11) = 12 := by decide +kernel
theorem code_127 : codeF (sL.take 127) = 12 := by decide +kernel
theorem code_129 : codeF (sL ++ [0]) = 10 := by decide +kernel
theorem code_g : codeF [0, 0, 16, 1, 0, 0, 0, 0, 0, 0, 0, 0] = 3 := by decide +kernel
theorem code_h : codeF [0, 0, 0, 0, 255, 255, 255, 255, 0, 0, 0, 0] = 3 := by decide +kernel
theorem code_i : codeF (sL.set 12 1) = 14 := by decide +kernel
theorem sL_12 (h : 12 < sL.length) : sL[12] = 0 := by
  have h2 : sL[12]? = some 0 := by decide +kernel
  rw [List.getElem?_eq_getElem h] at h2
  exact Option.some.inj h2

set_option maxRecDepth 100000 in
set_option maxHeartbeats 16000000 in
theorem numbers_any (w : World) : Calls Try.prog 3 #[] w (AwTo w) := by
  go_enter Try.func3, Try.ntmps3
  go_upto_region 2 with (fail)
  have r0 := recs_row len3 23 w [(⟨4503599627370496, -4503599627370496, 0⟩ : V3)] #[.int .i64 4503599627370496, .int .i64 (-4503599627370496), .int .i64 0] rfl (by decide)
  have r1 := recs_row len4 26 (w.alloc (.cells #[.int .i64 4503599627370496, .int .i64 (-4503599627370496), .int .i64 0] 23)) [(⟨⟨0, 0, 0⟩, 4503599627370496⟩ : B4)] #[.int .i64 0, .int .i64 0, .int .i64 0, .int .i64 4503599627370496] rfl (by decide)
  rw [MeshQ.al_size] at r1
  have hm1 : IsMesh (((w.alloc (.cells #[.int .i64 4503599627370496, .int .i64 (-4503599627370496), .int .i64 0] 23)).alloc (.cells #[.int .i64 0, .int .i64 0, .int .i64 0, .int .i64 4503599627370496] 26)).alloc (.cells #[.slice (some ⟨w.heap.size, 0, none⟩) 1 1, nil, .slice (some ⟨w.heap.size + 1, 0, none⟩) 1 1] 30)) (.agg #[.slice (some ⟨w.heap.size, 0, none⟩) 1 1, nil, .slice (some ⟨w.heap.size + 1, 0, none⟩) 1 1]) farM := ⟨⟨_, _, _, rfl, (r0.below (ext_alloc _ _) (Nat.le_refl _)).below (ext_alloc _ _) (Nat.le_refl _), Recs.nil _, r1.below (ext_alloc _ _) (Nat.le_refl _)⟩⟩
  have hf1 := MeshQ.al3 w (.cells #[.int .i64 4503599627370496, .int .i64 (-4503599627370496), .int .i64 0] 23) (.cells #[.int .i64 0, .int .i64 0, .int .i64 0, .int .i64 4503599627370496] 26) (.cells #[.slice (some ⟨w.heap.size, 0, none⟩) 1 1, nil, .slice (some ⟨w.heap.size + 1, 0, none⟩) 1 1] 30)
  have hb1 := MeshQ.al3_b w (.cells #[.int .i64 4503599627370496, .int .i64 (-4503599627370496), .int .i64 0] 23) (.cells #[.int .i64 0, .int .i64 0, .int .i64 0, .int .i64 4503599627370496] 26) (.cells #[.slice (some ⟨w.heap.size, 0, none⟩) 1 1, nil, .slice (some ⟨w.heap.size + 1, 0, none⟩) 1 1] 30)
  clear r0 r1
  obtain ⟨W1, hW1⟩ : ∃ W, W = ((w.alloc (.cells #[.int .i64 4503599627370496, .int .i64 (-4503599627370496), .int .i64 0] 23)).alloc (.cells #[.int .i64 0, .int .i64 0, .int .i64 0, .int .i64 4503599627370496] 26)).alloc (.cells #[.slice (some ⟨w.heap.size, 0, none⟩) 1 1, nil, .slice (some ⟨w.heap.size + 1, 0, none⟩) 1 1] 30) := ⟨_, rfl⟩
  rw [← hW1] at hm1 hf1 hb1 ⊢
  clear hW1
  have HM1 := Lib.hid hm1
  have HF1 := Lib.hid hf1
  have HB1 := Lib.hid hb1
  clear hm1 hf1 hb1
  refine wp_region_rel 215 (phi kinds) (by kernel_rfl) rfl (by kernel_rfl) (phi_mono kinds) ?hst ?_
  case hst =>
    refine ⟨?s0, ?s1, ?s2, ?s3, ?s4, ?s5, ?s6, ?s7, ?s8, ?s9, ?s10, ?s11, ?s12, ?s13, ?s14, ?s15, ?s16, ?s17, ?s18, ?s19, ?s20, ?s21, ?s22, ?s23, ?s24, ?s25, ?s26, ?s27, ?s28, ?s29, ?s30, ?s31, ?s32, ?s33, ?s34, trivial⟩
    case s0 =>
      exact st_const _ _ rfl rfl (fun b => by kernel_rfl)
    case s1 =>
      intro b w hb hd _
      have e0 := hd 29 (by decide) 0 rfl
      change b.eval (.tmp 29) = .agg #[.int .i64 0, .int .i64 0, .int .i64 4503599627370497] at e0
      rw [bs_run rfl (u := .slice (some ⟨w.heap.size, 0, none⟩) 1 1) (w' := w.alloc (.cells #[.int .i64 0, .int .i64 0, .int .i64 4503599627370497] 23)) (by simp only [List.map_toArray, List.map_cons, List.map_nil, e0, ev_const]; kernel_rfl)]
      exact ⟨recs_row len3 23 w [(⟨0, 0, 4503599627370497⟩ : V3)] #[.int .i64 0, .int .i64 0, .int .i64 4503599627370497] rfl (by decide), ext_alloc _ _⟩
    case s2 =>
      intro b w hb hd _
      have hp := hd 30 (by decide) 1 rfl
      obtain ⟨xap, xcp, ep, -⟩ := hp.shape
      rw [ep] at hp
      rw [build_run rfl (r := #[.slice xap _ xcp, .slice none 0 0, .slice none 0 0]) (by simp only [List.map_toArray, List.map_cons, List.map_nil, ep, ev_const]; kernel_rfl) w]
      exact ⟨⟨⟨_, _, _, rfl, hp, Recs.nil w, Recs.nil w⟩⟩, Below.refl _ _⟩
    case s3 =>
      exact st_const _ _ rfl rfl (fun b => by kernel_rfl)
    case s4 =>
      intro b w hb hd _
      have e0 := hd 32 (by decide) 3 rfl
      change b.eval (.tmp 32) = .agg #[.int .i64 0, .int .i64 (-4503599627370497), .int .i64 0] at e0
      rw [bs_run rfl (u := .slice (some ⟨w.heap.size, 0, none⟩) 1 1) (w' := w.alloc (.cells #[.int .i64 0, .int .i64 (-4503599627370497), .int .i64 0] 23)) (by simp only [List.map_toArray, List.map_cons, List.map_nil, e0, ev_const]; kernel_rfl)]
      exact ⟨recs_row len3 23 w [(⟨0, -4503599627370497, 0⟩ : V3)] #[.int .i64 0, .int .i64 (-4503599627370497), .int .i64 0] rfl (by decide), ext_alloc _ _⟩
    case s5 =>
      intro b w hb hd _
      have hp := hd 33 (by decide) 4 rfl
      obtain ⟨xap, xcp, ep, -⟩ := hp.shape
      rw [ep] at hp
      rw [build_run rfl (r := #[.slice xap _ xcp, .slice none 0 0, .slice none 0 0]) (by simp only [List.map_toArray, List.map_cons, List.map_nil, ep, ev_const]; kernel_rfl) w]
      exact ⟨⟨⟨_, _, _, rfl, hp, Recs.nil w, Recs.nil w⟩⟩, Below.refl _ _⟩
    case s6 =>
      exact st_const _ _ rfl rfl (fun b => by kernel_rfl)
    case s7 =>
      intro b w hb hd _
      have e0 := hd 35 (by decide) 6 rfl
      change b.eval (.tmp 35) = .agg #[.int .i64 0, .int .i64 0, .int .i64 0, .int .i64 4503599627370497] at e0
      rw [bs_run rfl (u := .slice (some ⟨w.heap.size, 0, none⟩) 1 1) (w' := w.alloc (.cells #[.int .i64 0, .int .i64 0, .int .i64 0, .int .i64 4503599627370497] 26)) (by simp only [List.map_toArray, List.map_cons, List.map_nil, e0, ev_const]; kernel_rfl)]
      exact ⟨recs_row len4 26 w [(⟨⟨0, 0, 0⟩, 4503599627370497⟩ : B4)] #[.int .i64 0, .int .i64 0, .int .i64 0, .int .i64 4503599627370497] rfl (by decide), ext_alloc _ _⟩
    case s8 =>
      intro b w hb hd _
      have hb := hd 36 (by decide) 7 rfl
      obtain ⟨xab, xcb, eb, -⟩ := hb.shape
      rw [eb] at hb
      rw [build_run rfl (r := #[.slice none 0 0, .slice none 0 0, .slice xab _ xcb]) (by simp only [List.map_toArray, List.map_cons, List.map_nil, eb, ev_const]; kernel_rfl) w]
      exact ⟨⟨⟨_, _, _, rfl, Recs.nil w, Recs.nil w, hb⟩⟩, Below.refl _ _⟩
    case s9 =>
      exact st_const _ _ rfl rfl (fun b => by kernel_rfl)
    case s10 =>
      intro b w hb hd _
      have e0 := hd 38 (by decide) 9 rfl
      change b.eval (.tmp 38) = .agg #[.int .i64 9223372036854775807, .int .i64 0, .int .i64 0] at e0
      rw [build_run rfl (r := #[.int .i64 9223372036854775807, .int .i64 0, .int .i64 0, .int .i64 1]) (by simp only [List.map_toArray, List.map_cons, List.map_nil, e0, ev_const]; kernel_rfl) w]
      exact ⟨rfl, Below.refl _ _⟩
    case s11 =>
      intro b w hb hd _
      have e0 := hd 39 (by decide) 10 rfl
      change b.eval (.tmp 39) = .agg #[.int .i64 9223372036854775807, .int .i64 0, .int .i64 0, .int .i64 1] at e0
      rw [bs_run rfl (u := .slice (some ⟨w.heap.size, 0, none⟩) 1 1) (w' := w.alloc (.cells #[.int .i64 9223372036854775807, .int .i64 0, .int .i64 0, .int .i64 1] 26)) (by simp only [List.map_toArray, List.map_cons, List.map_nil, e0, ev_const]; kernel_rfl)]
      exact ⟨recs_row len4 26 w [(⟨⟨9223372036854775807, 0, 0⟩, 1⟩ : B4)] #[.int .i64 9223372036854775807, .int .i64 0, .int .i64 0, .int .i64 1] rfl (by decide), ext_alloc _ _⟩
    case s12 =>
      intro b w hb hd _
      have hb := hd 40 (by decide) 11 rfl
      obtain ⟨xab, xcb, eb, -⟩ := hb.shape
      rw [eb] at hb
      rw [build_run rfl (r := #[.slice none 0 0, .slice none 0 0, .slice xab _ xcb]) (by simp only [List.map_toArray, List.map_cons, List.map_nil, eb, ev_const]; kernel_rfl) w]
      exact ⟨⟨⟨_, _, _, rfl, Recs.nil w, Recs.nil w, hb⟩⟩, Below.refl _ _⟩
    case s13 =>
      exact st_const _ _ rfl rfl (fun b => by kernel_rfl)
    case s14 =>
      intro b w hb hd _
      have e0 := hd 42 (by decide) 13 rfl
      change b.eval (.tmp 42) = .agg #[.int .i64 0, .int .i64 0, .int .i64 0, .int .i64 (-1)] at e0
      rw [bs_run rfl (u := .slice (some ⟨w.heap.size, 0, none⟩) 1 1) (w' := w.alloc (.cells #[.int .i64 0, .int .i64 0, .int .i64 0, .int .i64 (-1)] 26)) (by simp only [List.map_toArray, List.map_cons, List.map_nil, e0, ev_const]; kernel_rfl)]
      exact ⟨recs_row len4 26 w [(⟨⟨0, 0, 0⟩, -1⟩ : B4)] #[.int .i64 0, .int .i64 0, .int .i64 0, .int .i64 (-1)] rfl (by decide), ext_alloc _ _⟩
    case s15 =>
      intro b w hb hd _
      have hb := hd 43 (by decide) 14 rfl
      obtain ⟨xab, xcb, eb, -⟩ := hb.shape
      rw [eb] at hb
      rw [build_run rfl (r := #[.slice none 0 0, .slice none 0 0, .slice xab _ xcb]) (by simp only [List.map_toArray, List.map_cons, List.map_nil, eb, ev_const]; kernel_rfl) w]
      exact ⟨⟨⟨_, _, _, rfl, Recs.nil w, Recs.nil w, hb⟩⟩, Below.refl _ _⟩
    case s16 =>
      exact st_const _ _ rfl rfl (fun b => by kernel_rfl)
    case s17 =>
      intro b w hb hd _
      have e0 := hd 45 (by decide) 16 rfl
      change b.eval (.tmp 45) = .agg #[.int .i64 0, .int .i64 0, .int .i64 0] at e0
      rw [bs_run rfl (u := .slice (some ⟨w.heap.size, 0, none⟩) 1 1) (w' := w.alloc (.cells #[.int .i64 0, .int .i64 0, .int .i64 0] 31)) (by simp only [List.map_toArray, List.map_cons, List.map_nil, e0, ev_const]; kernel_rfl)]
      exact ⟨recs_row len3 31 w [(⟨0, 0, 0⟩ : V3)] #[.int .i64 0, .int .i64 0, .int .i64 0] rfl (by decide), ext_alloc _ _⟩
    case s18 =>
      intro b w hb hd _
      have ht := hd 46 (by decide) 17 rfl
      obtain ⟨xat, xct, et, -⟩ := ht.shape
      rw [et] at ht
      rw [build_run rfl (r := #[.slice none 0 0, .slice xat _ xct, .slice none 0 0]) (by simp only [List.map_toArray, List.map_cons, List.map_nil, et, ev_const]; kernel_rfl) w]
      exact ⟨⟨⟨_, _, _, rfl, Recs.nil w, ht, Recs.nil w⟩⟩, Below.refl _ _⟩
    case s19 =>
      intro b w hb hd _
      obtain ⟨w', h1, h2, h3, -⟩ := make_recs vecs_slice (⟨0, 0, 0⟩ : V3) rfl 1 (by decide) (by decide) w
      rw [make_run rfl h1]
      exact ⟨h2, h3⟩
    case s20 =>
      exact st_const _ _ rfl rfl (fun b => by kernel_rfl)
    case s21 =>
      intro b w hb hd _
      have e0 := hd 49 (by decide) 20 rfl
      change b.eval (.tmp 49) = .agg #[.int .i64 0, .int .i64 0, .int .i64 (-1)] at e0
      rw [bs_run rfl (u := .slice (some ⟨w.heap.size, 0, none⟩) 1 1) (w' := w.alloc (.cells #[.int .i64 0, .int .i64 0, .int .i64 (-1)] 31)) (by simp only [List.map_toArray, List.map_cons, List.map_nil, e0, ev_const]; kernel_rfl)]
      exact ⟨recs_row len3 31 w [(⟨0, 0, -1⟩ : V3)] #[.int .i64 0, .int .i64 0, .int .i64 (-1)] rfl (by decide), ext_alloc _ _⟩
    case s22 =>
      intro b w hb hd _
      have hp := hd 48 (by decide) 19 rfl
      obtain ⟨xap, xcp, ep, -⟩ := hp.shape
      rw [ep] at hp
      have ht := hd 50 (by decide) 21 rfl
      obtain ⟨xat, xct, et, -⟩ := ht.shape
      rw [et] at ht
      rw [build_run rfl (r := #[.slice xap _ xcp, .slice xat _ xct, .slice none 0 0]) (by simp only [List.map_toArray, List.map_cons, List.map_nil, ep, et, ev_const]; kernel_rfl) w]
      exact ⟨⟨⟨_, _, _, rfl, hp, ht, Recs.nil w⟩⟩, Below.refl _ _⟩
    case s23 =>
      intro b w hb hd _
      obtain ⟨w', h1, h2, h3, -⟩ := make_recs vecs_slice (⟨0, 0, 0⟩ : V3) rfl 4097 (by decide) (by decide) w
      rw [make_run rfl h1]
      exact ⟨h2, h3⟩
    case s24 =>
      intro b w hb hd _
      have hp := hd 52 (by decide) 23 rfl
      obtain ⟨xap, xcp, ep, -⟩ := hp.shape
      rw [ep] at hp
      rw [build_run rfl (r := #[.slice xap _ xcp, .slice none 0 0, .slice none 0 0]) (by simp only [List.map_toArray, List.map_cons, List.map_nil, ep, ev_const]; kernel_rfl) w]
      exact ⟨⟨⟨_, _, _, rfl, hp, Recs.nil w, Recs.nil w⟩⟩, Below.refl _ _⟩
    case s25 =>
      intro b w hb hd _
      obtain ⟨w', h1, h2, h3, -⟩ := make_recs vecs_slice (⟨0, 0, 0⟩ : V3) rfl 1 (by decide) (by decide) w
      rw [make_run rfl h1]
      exact ⟨h2, h3⟩
    case s26 =>
      intro b w hb hd _
      obtain ⟨w', h1, h2, h3, -⟩ := make_recs tris_slice (⟨0, 0, 0⟩ : V3) rfl 4097 (by decide) (by decide) w
      rw [make_run rfl h1]
      exact ⟨h2, h3⟩
    case s27 =>
      intro b w hb hd _
      have hp := hd 54 (by decide) 25 rfl
      obtain ⟨xap, xcp, ep, -⟩ := hp.shape
      rw [ep] at hp
      have ht := hd 55 (by decide) 26 rfl
      obtain ⟨xat, xct, et, -⟩ := ht.shape
      rw [et] at ht
      rw [build_run rfl (r := #[.slice xap _ xcp, .slice xat _ xct, .slice none 0 0]) (by simp only [List.map_toArray, List.map_cons, List.map_nil, ep, et, ev_const]; kernel_rfl) w]
      exact ⟨⟨⟨_, _, _, rfl, hp, ht, Recs.nil w⟩⟩, Below.refl _ _⟩
    case s28 =>
      intro b w hb hd _
      obtain ⟨w', h1, h2, h3, -⟩ := make_recs vecs_slice (⟨0, 0, 0⟩ : V3) rfl 1 (by decide) (by decide) w
      rw [make_run rfl h1]
      exact ⟨h2, h3⟩
    case s29 =>
      intro b w hb hd _
      obtain ⟨w', h1, h2, h3, -⟩ := make_recs tris_slice (⟨0, 0, 0⟩ : V3) rfl 4096 (by decide) (by decide) w
      rw [make_run rfl h1]
      exact ⟨h2, h3⟩
    case s30 =>
      exact st_const _ _ rfl rfl (fun b => by kernel_rfl)
    case s31 =>
      intro b w hb hd _
      have e0 := hd 59 (by decide) 30 rfl
      change b.eval (.tmp 59) = .agg #[.int .i64 0, .int .i64 0, .int .i64 0, .int .i64 1] at e0
      rw [bs_run rfl (u := .slice (some ⟨w.heap.size, 0, none⟩) 1 1) (w' := w.alloc (.cells #[.int .i64 0, .int .i64 0, .int .i64 0, .int .i64 1] 26)) (by simp only [List.map_toArray, List.map_cons, List.map_nil, e0, ev_const]; kernel_rfl)]
      exact ⟨recs_row len4 26 w [(⟨⟨0, 0, 0⟩, 1⟩ : B4)] #[.int .i64 0, .int .i64 0, .int .i64 0, .int .i64 1] rfl (by decide), ext_alloc _ _⟩
    case s32 =>
      intro b w hb hd _
      have hp := hd 57 (by decide) 28 rfl
      obtain ⟨xap, xcp, ep, -⟩ := hp.shape
      rw [ep] at hp
      have ht := hd 58 (by decide) 29 rfl
      obtain ⟨xat, xct, et, -⟩ := ht.shape
      rw [et] at ht
      have hb := hd 60 (by decide) 31 rfl
      obtain ⟨xab, xcb, eb, -⟩ := hb.shape
      rw [eb] at hb
      rw [build_run rfl (r := #[.slice xap _ xcp, .slice xat _ xct, .slice xab _ xcb]) (by simp only [List.map_toArray, List.map_cons, List.map_nil, ep, et, eb, ev_const]; kernel_rfl) w]
      exact ⟨⟨⟨_, _, _, rfl, hp, ht, hb⟩⟩, Below.refl _ _⟩
    case s33 =>
      intro b w hb hd _
      have m0 := hd 31 (by decide) 2 rfl
      change IsMesh w (b.eval (.tmp 31)) ⟨[⟨0, 0, 4503599627370497⟩], [], []⟩ at m0
      obtain ⟨x00, x01, x02, e0, -⟩ := m0.ex
      rw [e0] at m0
      have m1 := hd 34 (by decide) 5 rfl
      change IsMesh w (b.eval (.tmp 34)) ⟨[⟨0, -4503599627370497, 0⟩], [], []⟩ at m1
      obtain ⟨x10, x11, x12, e1, -⟩ := m1.ex
      rw [e1] at m1
      have m2 := hd 37 (by decide) 8 rfl
      change IsMesh w (b.eval (.tmp 37)) ⟨[], [], [⟨⟨0, 0, 0⟩, 4503599627370497⟩]⟩ at m2
      obtain ⟨x20, x21, x22, e2, -⟩ := m2.ex
      rw [e2] at m2
      have m3 := hd 41 (by decide) 12 rfl
      change IsMesh w (b.eval (.tmp 41)) ⟨[], [], [⟨⟨9223372036854775807, 0, 0⟩, 1⟩]⟩ at m3
      obtain ⟨x30, x31, x32, e3, -⟩ := m3.ex
      rw [e3] at m3
      have m4 := hd 44 (by decide) 15 rfl
      change IsMesh w (b.eval (.tmp 44)) ⟨[], [], [⟨⟨0, 0, 0⟩, -1⟩]⟩ at m4
      obtain ⟨x40, x41, x42, e4, -⟩ := m4.ex
      rw [e4] at m4
      have m5 := hd 47 (by decide) 18 rfl
      change IsMesh w (b.eval (.tmp 47)) ⟨[], [⟨0, 0, 0⟩], []⟩ at m5
      obtain ⟨x50, x51, x52, e5, -⟩ := m5.ex
      rw [e5] at m5
      have m6 := hd 51 (by decide) 22 rfl
      change IsMesh w (b.eval (.tmp 51)) ⟨List.replicate 1 ⟨0, 0, 0⟩, [⟨0, 0, -1⟩], []⟩ at m6
      obtain ⟨x60, x61, x62, e6, -⟩ := m6.ex
      rw [e6] at m6
      have m7 := hd 53 (by decide) 24 rfl
      change IsMesh w (b.eval (.tmp 53)) ⟨List.replicate 4097 ⟨0, 0, 0⟩, [], []⟩ at m7
      obtain ⟨x70, x71, x72, e7, -⟩ := m7.ex
      rw [e7] at m7
      have m8 := hd 56 (by decide) 27 rfl
      change IsMesh w (b.eval (.tmp 56)) ⟨List.replicate 1 ⟨0, 0, 0⟩, List.replicate 4097 ⟨0, 0, 0⟩, []⟩ at m8
      obtain ⟨x80, x81, x82, e8, -⟩ := m8.ex
      rw [e8] at m8
      have m9 := hd 61 (by decide) 32 rfl
      change IsMesh w (b.eval (.tmp 61)) ⟨List.replicate 1 ⟨0, 0, 0⟩, List.replicate 4096 ⟨0, 0, 0⟩, [⟨⟨0, 0, 0⟩, 1⟩]⟩ at m9
      obtain ⟨x90, x91, x92, e9, -⟩ := m9.ex
      rw [e9] at m9
      rw [bs_run rfl (u := .slice (some ⟨w.heap.size, 0, none⟩) 10 10) (w' := w.alloc (.cells #[x00, x01, x02, x10, x11, x12, x20, x21, x22, x30, x31, x32, x40, x41, x42, x50, x51, x52, x60, x61, x62, x70, x71, x72, x80, x81, x82, x90, x91, x92] 30)) (by simp only [List.map_toArray, List.map_cons, List.map_nil, e0, e1, e2, e3, e4, e5, e6, e7, e8, e9, ev_const]; kernel_rfl)]
      have hn := heap_alloc_new w (.cells #[x00, x01, x02, x10, x11, x12, x20, x21, x22, x30, x31, x32, x40, x41, x42, x50, x51, x52, x60, x61, x62, x70, x71, x72, x80, x81, x82, x90, x91, x92] 30)
      have hx := ext_alloc w (.cells #[x00, x01, x02, x10, x11, x12, x20, x21, x22, x30, x31, x32, x40, x41, x42, x50, x51, x52, x60, x61, x62, x70, x71, x72, x80, x81, x82, x90, x91, x92] 30)
      have hlt := Base.lt_of_heap hn
      refine ⟨⟨w.heap.size, rfl, fun i hi => ?_⟩, hx⟩
      have hi2 : i < 10 := hi
      rcases (show i = 0 ∨ i = 1 ∨ i = 2 ∨ i = 3 ∨ i = 4 ∨ i = 5 ∨ i = 6 ∨ i = 7 ∨ i = 8 ∨ i = 9 by omega) with rfl | rfl | rfl | rfl | rfl | rfl | rfl | rfl | rfl | rfl
      · exact ⟨_, _, _, cell_row hn 0 _ rfl, cell_row hn 1 _ rfl, cell_row hn 2 _ rfl, hlt, m0.below hx⟩
      · exact ⟨_, _, _, cell_row hn 3 _ rfl, cell_row hn 4 _ rfl, cell_row hn 5 _ rfl, hlt, m1.below hx⟩
      · exact ⟨_, _, _, cell_row hn 6 _ rfl, cell_row hn 7 _ rfl, cell_row hn 8 _ rfl, hlt, m2.below hx⟩
      · exact ⟨_, _, _, cell_row hn 9 _ rfl, cell_row hn 10 _ rfl, cell_row hn 11 _ rfl, hlt, m3.below hx⟩
      · exact ⟨_, _, _, cell_row hn 12 _ rfl, cell_row hn 13 _ rfl, cell_row hn 14 _ rfl, hlt, m4.below hx⟩
      · exact ⟨_, _, _, cell_row hn 15 _ rfl, cell_row hn 16 _ rfl, cell_row hn 17 _ rfl, hlt, m5.below hx⟩
      · exact ⟨_, _, _, cell_row hn 18 _ rfl, cell_row hn 19 _ rfl, cell_row hn 20 _ rfl, hlt, m6.below hx⟩
      · exact ⟨_, _, _, cell_row hn 21 _ rfl, cell_row hn 22 _ rfl, cell_row hn 23 _ rfl, hlt, m7.below hx⟩
      · exact ⟨_, _, _, cell_row hn 24 _ rfl, cell_row hn 25 _ rfl, cell_row hn 26 _ rfl, hlt, m8.below hx⟩
      · exact ⟨_, _, _, cell_row hn 27 _ rfl, cell_row hn 28 _ rfl, cell_row hn 29 _ rfl, hlt, m9.below hx⟩
    case s34 =>
      intro b w hb hd _
      have e0 := hd 62 (by decide) 33 rfl
      rw [assign_run rfl w]
      exact ⟨e0, Below.refl _ _⟩
  intro V w2 hb hV
  have h34 : Listed w2 (V 34) farL := hV 34 (by decide)
  clear hV
  obtain ⟨g, hv, hL⟩ := h34
  simp only [putsL, Act.put, List.setIfInBounds_toArray, List.set_cons_succ, List.set_cons_zero, Nat.reduceAdd, hv]
  have HM2 := Lib.hid (HM1.out.below hb)
  have HF2 := Lib.hid (vec_step HF1.out hb)
  have HB2 := Lib.hid (HB1.out.trans (hb.mono HB1.out.size))
  have HLI := Lib.hid hL
  clear hb hL hv HM1 HF1 HB1
  rw [show farL.length = 10 from rfl]
  go_wp2_with fail
  go_loopg [3] 10 (fun r n9 wr => ∃ i : Nat, i + r = 10 ∧ n9 = .int .i64 (i : Int) ∧ Hid (Below w2.heap.size w2 wr))
  case atStart => exact ⟨0, by omega, rfl, Lib.hid (Below.refl _ _)⟩
  case round =>
    obtain ⟨i, hir, rfl, hin⟩ := hrel
    by_cases hi : i < 10
    · obtain ⟨s0, s1, s2, c0, c1, c2, hgl, hmi⟩ := HLI.out i hi
      have d3 : decide (i < 10) = true := decide_eq_true hi
      have d2 : decide ((i : Int) < 10) = true := decide_eq_true (by omega)
      have wi : IntKind.i64.wrap ((i : Int) + 1) = (i : Int) + 1 := by rw [wrap_in (by omega) (by omega)]
      have k0 := (hin.out.cell (p := ⟨g, i * 3, none⟩) hgl).trans c0
      have k1 := (hin.out.cell (p := ⟨g, i * 3 + 1, none⟩) hgl).trans c1
      have k2 := (hin.out.cell (p := ⟨g, i * 3 + 2, none⟩) hgl).trans c2
      have hne : checkF farL[i] ≠ 0 := far_14 _ (List.getElem_mem _)
      generalize farL[i] = mi at hmi hne
      have HMI := Lib.hid (hmi.below hin.out)
      have HNE := Lib.hid hne
      have HRR := Lib.hid hir
      clear c0 c1 c2 hmi hne hir
      go_wp2_with fail
      refine (bytes_14 _ mi _ HMI.out HNE.out).mono ?_
      rintro e x1 ⟨ax, cx, rfl, hb⟩
      have HX1 := Lib.hid (hin.out.trans (hb.mono hin.out.size))
      have HMJ := Lib.hid (HMI.out.below hb)
      have j0 := (hb.cell (p := ⟨g, i * 3, none⟩) (Nat.lt_of_lt_of_le hgl hin.out.size)).trans k0
      have j1 := (hb.cell (p := ⟨g, i * 3 + 1, none⟩) (Nat.lt_of_lt_of_le hgl hin.out.size)).trans k1
      have j2 := (hb.cell (p := ⟨g, i * 3 + 2, none⟩) (Nat.lt_of_lt_of_le hgl hin.out.size)).trans k2
      clear hb k0 k1 k2 HMI
      go_wp2_with fail
      clear j0 j1 j2
      refine (check_v _ mi _ 14 HMJ.out (MeshW.check_14 HNE.out).1).mono ?_
      rintro e x2 ⟨rfl, hb⟩
      have HX2 := Lib.hid (HX1.out.trans (hb.mono HX1.out.size))
      clear hb HX1 HMJ
      go_wp2_with fail
      go_roundg (10 - (i + 1))
      case measure => have := HRR.out; omega
      case rel => exact ⟨i + 1, by have := HRR.out; omega, by go_num, HX2⟩
    · have d3 : decide (i < 10) = false := decide_eq_false hi
      have d2 : decide ((i : Int) < 10) = false := decide_eq_false (by omega)
      have HM3 := Lib.hid (HM2.out.below hin.out)
      have HF3 := Lib.hid (vec_step HF2.out hin.out)
      have HB3 := Lib.hid (HB2.out.trans (hin.out.mono HB2.out.size))
      clear hi hir hin HM2 HF2 HB2 HLI
      go_wp2_with fail
      clear d2 d3
      go_upto_region 9 with (fail)
      refine wp_region_rel_tail 215 4 (phi9 wr.heap.size) (by kernel_rfl) rfl (by kernel_rfl) (phi9_mono _) ?hs9 ?_
      case hs9 =>
        refine ⟨?q0, ?q1, ?q2, ?q3, trivial⟩
        case q0 =>
          intro b w hb hd _
          obtain ⟨w', h1, h2, h3, row, h4⟩ := make_recs vecs_slice (⟨0, 0, 0⟩ : V3) rfl 4096 (by decide) (by decide) w
          rw [make_run rfl h1]
          exact ⟨⟨h2, _, row, by rw [List.length_replicate], h4⟩, h3⟩
        case q1 =>
          intro b w hb hd _
          obtain ⟨w', h1, h2, h3, row, h4⟩ := make_recs tris_slice (⟨0, 0, 0⟩ : V3) rfl 4096 (by decide) (by decide) w
          rw [make_run rfl h1]
          exact ⟨⟨h2, _, row, by rw [List.length_replicate], h4⟩, h3⟩
        case q2 =>
          intro b w hb hd _
          have e0 : Bk 23 (List.replicate 4096 ⟨0, 0, 0⟩) w (b.eval (.tmp 92)) := hd 92 (by decide) 0 rfl
          have e1 : Bk 31 (List.replicate 4096 ⟨0, 0, 0⟩) w (b.eval (.tmp 93)) := hd 93 (by decide) 1 rfl
          obtain ⟨p0, ga, ra, ea, ha⟩ := e0
          obtain ⟨p1, gb, rb, eb, hbb⟩ := e1
          rw [ea] at p0
          rw [eb] at p1
          rw [build_run rfl (r := #[.slice (some ⟨ga, 0, none⟩) _ _, .slice (some ⟨gb, 0, none⟩) _ _, .slice none 0 0]) (by simp only [List.map_toArray, List.map_cons, List.map_nil, ea, eb, ev_const]; kernel_rfl) w]
          exact ⟨⟨_, _, rfl, ⟨p0, ga, ra, rfl, ha⟩, ⟨p1, gb, rb, rfl, hbb⟩⟩, Below.refl _ _⟩
        case q3 =>
          intro b w hb hd _
          rw [alloc_run rfl (alloc_mesh w)]
          exact ⟨⟨w.heap.size, rfl, hb.size, heap_alloc_new _ _⟩, ext_alloc _ _⟩
      intro V w4 hb hV
      have hV2 : phi9 wr.heap.size 2 w4 (V 2) := hV 2 (by decide)
      have hV3 : phi9 wr.heap.size 3 w4 (V 3) := hV 3 (by decide)
      clear hV
      obtain ⟨v0, v1, ev2, ⟨p0, ga, ra, ea, ha⟩, p1, gb, rb, eb, hbb⟩ := hV2
      obtain ⟨g6, ev3, h6, hg6⟩ := hV3
      subst ea eb
      rw [show (List.replicate 4096 (⟨0, 0, 0⟩ : V3)).length = 4096 from List.length_replicate ..] at ev2 p0 p1
      have na : ga ≠ g6 := by rintro rfl; rw [hg6] at ha; simp at ha
      have nb : gb ≠ g6 := by rintro rfl; rw [hg6] at hbb; simp at hbb
      simp only [putsL, Act.put, List.setIfInBounds_toArray, List.set_cons_succ, List.set_cons_zero, Nat.reduceAdd, List.drop_succ_cons, List.drop_zero, List.take_succ_cons, List.take_zero, ev2, ev3, ptr]
      refine store_mesh rfl (.tmp 6) (.tmp 94) rfl rfl g6 (.slice (some ⟨ga, 0, none⟩) 4096 4096) (.slice (some ⟨gb, 0, none⟩) 4096 4096) nil rfl rfl _ hg6 rfl ⟨rfl, rfl, rfl⟩ ?_
      have hk := (Keeps.refl (fun j => j = g6) w4).setRow g6 #[.slice (some ⟨ga, 0, none⟩) 4096 4096, .slice (some ⟨gb, 0, none⟩) 4096 4096, nil] (.inl rfl)
      have hz : IsMesh (w4.setRow g6 #[.slice (some ⟨ga, 0, none⟩) 4096 4096, .slice (some ⟨gb, 0, none⟩) 4096 4096, nil]) (.agg #[.slice (some ⟨ga, 0, none⟩) 4096 4096, .slice (some ⟨gb, 0, none⟩) 4096 4096, nil]) fullM := ⟨⟨_, _, _, rfl, p0.frame hk (fun b hb e => by simp only [Value.ownBlock, Option.some.injEq] at hb; omega), p1.frame hk (fun b hb e => by simp only [Value.ownBlock, Option.some.injEq] at hb; omega), Recs.nil _⟩⟩
      have hg5 := setRow_heap w4 g6 _ #[.slice (some ⟨ga, 0, none⟩) 4096 4096, .slice (some ⟨gb, 0, none⟩) 4096 4096, nil] _ _ hg6
      have hb5 := below_setRow hb h6 #[.slice (some ⟨ga, 0, none⟩) 4096 4096, .slice (some ⟨gb, 0, none⟩) 4096 4096, nil]
      obtain ⟨W5, hW5⟩ : ∃ W, W = w4.setRow g6 #[.slice (some ⟨ga, 0, none⟩) 4096 4096, .slice (some ⟨gb, 0, none⟩) 4096 4096, nil] := ⟨_, rfl⟩
      rw [← hW5] at hz hg5 hb5 ⊢
      clear hW5 hk p0 p1 ha hbb hg6 ev2 ev3 na nb hb
      have HM4 := Lib.hid (HM3.out.below hb5)
      have HF4 := Lib.hid (vec_step HF3.out hb5)
      have HB4 := Lib.hid (HB3.out.trans (hb5.mono HB3.out.size))
      have HG4 := Lib.hid hg5
      have HZ4 := Lib.hid hz
      clear HM3 HF3 HB3 hg5 hz hb5 h6
      have SB := same_box
      have SM := Lib.hid small_any
      have AW := Lib.hid awake_any
      have F1 := fld_hi
      have F2 := fld_x
      have k0 := cell_row HF4.out 0 _ rfl
      have k1 := cell_row HF4.out 1 _ rfl
      have k2 := cell_row HF4.out 2 _ rfl
      go_wp2_with fail
      clear k0 k1 k2
      refine (check_v _ farM _ 0 HM4.out farM_0).mono ?_
      rintro e y6 ⟨rfl, hb⟩
      have HM5 := Lib.hid (HM4.out.below hb)
      have HF5 := Lib.hid (vec_step HF4.out hb)
      have HB5 := Lib.hid (HB4.out.trans (hb.mono HB4.out.size))
      have HG5 := Lib.hid (vec_step HG4.out hb)
      have HZ5 := Lib.hid (HZ4.out.below hb)
      clear HM4 HF4 HB4 HG4 HZ4 hb 
      clear HM5 HF5
      have k0 := cell_row HG5.out 0 _ rfl
      have k1 := cell_row HG5.out 1 _ rfl
      have k2 := cell_row HG5.out 2 _ rfl
      go_wp2_with fail
      clear k0 k1 k2
      refine (check_v _ fullM _ 0 HZ5.out full_0).mono ?_
      rintro e y7 ⟨rfl, hb⟩
      have HB6 := Lib.hid (HB5.out.trans (hb.mono HB5.out.size))
      have HG6 := Lib.hid (vec_step HG5.out hb)
      have HZ6 := Lib.hid (HZ5.out.below hb)
      clear HB5 HG5 HZ5 hb 
      clear HZ6 HG6
      go_wp2_with fail
      refine (SM.out _ _).mono ?_
      rintro e y8 ⟨v9, rfl, hm9, hb⟩
      have HN9 := Lib.hid hm9
      clear hm9
      have HB7 := Lib.hid (HB6.out.trans (hb.mono HB6.out.size))
      clear HB6 hb 
      go_wp2_with fail
      refine (box_s30 _ _ HN9.out).mono ?_
      rintro e y9 ⟨rfl, hb⟩
      have HB8 := Lib.hid (HB7.out.trans (hb.mono HB7.out.size))
      clear HB7 hb HN9
      go_wp2_with fail
      refine (SM.out _ _).mono ?_
      rintro e y10 ⟨v9, rfl, hm9, hb⟩
      have HN9 := Lib.hid hm9
      clear hm9
      have HB9 := Lib.hid (HB8.out.trans (hb.mono HB8.out.size))
      clear HB8 hb 
      go_wp2_with fail
      refine (box_s22 _ _ HN9.out).mono ?_
      rintro e y11 ⟨rfl, hb⟩
      have HB10 := Lib.hid (HB9.out.trans (hb.mono HB9.out.size))
      clear HB9 hb HN9
      go_wp2_with fail
      refine (SM.out _ _).mono ?_
      rintro e y12 ⟨v9, rfl, hm9, hb⟩
      have HN9 := Lib.hid hm9
      clear hm9
      have HB11 := Lib.hid (HB10.out.trans (hb.mono HB10.out.size))
      clear HB10 hb 
      go_wp2_with fail
      refine (box_s2n _ _ HN9.out).mono ?_
      rintro e y13 ⟨rfl, hb⟩
      have HB12 := Lib.hid (HB11.out.trans (hb.mono HB11.out.size))
      clear HB11 hb HN9
      go_wp2_with fail
      have R0 := recs_row len4 26 y13 [(⟨⟨9223372036854775807, 0, 0⟩, 5⟩ : B4)] #[.int .i64 9223372036854775807, .int .i64 0, .int .i64 0, .int .i64 5] rfl (by decide)
      have hx := ext_alloc y13 (.cells #[.int .i64 9223372036854775807, .int .i64 0, .int .i64 0, .int .i64 5] 26)
      have HB13 := Lib.hid (HB12.out.trans (hx.mono HB12.out.size))
      clear HB12 hx 
      refine (box_most _ _ (ball_mesh R0)).mono ?_
      clear R0
      rintro e y14 ⟨rfl, hb⟩
      have HB14 := Lib.hid (HB13.out.trans (hb.mono HB13.out.size))
      clear HB13 hb 
      go_wp2_with fail
      refine (SM.out _ _).mono ?_
      rintro e y15 ⟨v9, rfl, hm9, hb⟩
      have HN9 := Lib.hid hm9
      clear hm9
      have HB15 := Lib.hid (HB14.out.trans (hb.mono HB14.out.size))
      clear HB14 hb 
      go_wp2_with fail
      refine (bytes_s2 _ _ HN9.out).mono ?_
      rintro e y16 ⟨gx, cx, rfl, hcx, ho, hb⟩
      have HGX := Lib.hid (Nat.le_trans HB15.out.size (ho.lt gx rfl).1)
      have HB16 := Lib.hid (HB15.out.trans (hb.mono HB15.out.size))
      clear HB15 hb HN9
      have HO16 := Lib.hid ho
      clear ho
      have c1 : 11 ≤ cx := by omega
      have c2 : 127 ≤ cx := by omega
      have e1 : decide (11 ≤ cx) = true := decide_eq_true c1
      have e2 : decide (127 ≤ cx) = true := decide_eq_true c2
      have e3 : decide ((11 : Int) ≤ (cx : Int)) = true := decide_eq_true (by omega)
      have e4 : decide ((127 : Int) ≤ (cx : Int)) = true := decide_eq_true (by omega)
      go_wp2_with fail
      refine (rd_code [] _ _ code_nil _ (Nums.nil _ _ _) (by decide)).mono ?_
      rintro e y17 ⟨a0, n0, c0, a1, n1, c1_, a2, n2, c2_, rfl, hb⟩
      have HB17 := Lib.hid (HB16.out.trans (hb.mono HB16.out.size))
      have HO17 := Lib.hid (HO16.out.below hb (Nat.le_refl _))
      clear HB16 HO16 hb 
      go_upto_region 13 with (fail)
      have hx := ext_alloc y17 (.cells #[.slice a0 n0 c0, .slice a1 n1 c1_, .slice a2 n2 c2_] 30)
      obtain ⟨Zy17, hZ⟩ : ∃ W, W = y17.alloc (.cells #[.slice a0 n0 c0, .slice a1 n1 c1_, .slice a2 n2 c2_] 30) := ⟨_, rfl⟩
      rw [← hZ] at hx ⊢
      clear hZ
      skip
      have HB18 := Lib.hid (HB17.out.trans (hx.mono HB17.out.size))
      have HO18 := Lib.hid (HO17.out.below hx (Nat.le_refl _))
      clear HB17 HO17 hx 
      go_wp2_with fail
      refine (rd_code _ _ _ code_11 _ ((HO18.out.nums.take 11 (by decide) (by rw [sL_len]) (by simp))) (by rw [List.length_take, sL_len]; decide)).mono ?_
      rintro e y18 ⟨a0, n0, c0, a1, n1, c1_, a2, n2, c2_, rfl, hb⟩
      have HB19 := Lib.hid (HB18.out.trans (hb.mono HB18.out.size))
      have HO19 := Lib.hid (HO18.out.below hb (Nat.le_refl _))
      clear HB18 HO18 hb 
      go_upto_region 14 with (fail)
      have hx := ext_alloc y18 (.cells #[.slice a0 n0 c0, .slice a1 n1 c1_, .slice a2 n2 c2_] 30)
      obtain ⟨Zy18, hZ⟩ : ∃ W, W = y18.alloc (.cells #[.slice a0 n0 c0, .slice a1 n1 c1_, .slice a2 n2 c2_] 30) := ⟨_, rfl⟩
      rw [← hZ] at hx ⊢
      clear hZ
      skip
      have HB20 := Lib.hid (HB19.out.trans (hx.mono HB19.out.size))
      have HO20 := Lib.hid (HO19.out.below hx (Nat.le_refl _))
      clear HB19 HO19 hx 
      go_wp2_with fail
      refine (rd_code _ _ _ code_127 _ ((HO20.out.nums.take 127 (by decide) (by rw [sL_len]) (by simp))) (by rw [List.length_take, sL_len]; decide)).mono ?_
      rintro e y19 ⟨a0, n0, c0, a1, n1, c1_, a2, n2, c2_, rfl, hb⟩
      have HB21 := Lib.hid (HB20.out.trans (hb.mono HB20.out.size))
      have HO21 := Lib.hid (HO20.out.below hb (Nat.le_refl _))
      clear HB20 HO20 hb 
      go_upto_region 15 with (fail)
      have hx := ext_alloc y19 (.cells #[.slice a0 n0 c0, .slice a1 n1 c1_, .slice a2 n2 c2_] 30)
      obtain ⟨Zy19, hZ⟩ : ∃ W, W = y19.alloc (.cells #[.slice a0 n0 c0, .slice a1 n1 c1_, .slice a2 n2 c2_] 30) := ⟨_, rfl⟩
      rw [← hZ] at hx ⊢
      clear hZ
      skip
      have HB22 := Lib.hid (HB21.out.trans (hx.mono HB21.out.size))
      have HO22 := Lib.hid (HO21.out.below hx (Nat.le_refl _))
      clear HB21 HO21 hx 
      go_wp2_with fail
      refine (copyBytes_any _ sL _ HO22.out.nums (by rw [sL_len]; decide)).mono ?_
      rintro e q1 ⟨vc, rfl, hoc, hbc⟩
      obtain ⟨gc, cc, rfl, -⟩ := hoc.at_ (by rw [sL_len]; decide)
      have hx := ext_alloc q1 (.cells #[.int .u8 0] 5)
      have HN := Lib.hid (nums_lit q1 [0] #[.int .u8 0] rfl (by decide) (by unfold maxLen; decide))
      have HOC := Lib.hid (hoc.below hx (Nat.le_refl _))
      have HBC := Lib.hid (hbc.trans (hx.mono hbc.size))
      have HLE := Lib.hid (show (sL.length + [0].length) * 1 ≤ 140737488355328 by rw [sL_len]; decide)
      have HLE2 := Lib.hid (show sL.length + [0].length ≤ 140737488355328 by rw [sL_len]; decide)
      clear hoc hbc hx
      go_wp2_with (at_builtin; refine wpList_append_nums rfl (.tmp 157) (.tmp 158) 33 5 rfl .u8 256 1 Zy19.heap.size Low.u8s _ sL rfl HOC.out _ [0] rfl HN.out HLE.out HLE2.out HBC.out.size ?_; intro va wa hown hgr; have HAP := Lib.hid (And.intro hown hgr); clear hown hgr)
      have hb := below_grown HBC.out HOC.out HAP.out.2 (Nat.le_refl _) HBC.out.size
      have HB23 := Lib.hid (HB22.out.trans (hb.mono HB22.out.size))
      have HO23 := Lib.hid (HO22.out.below hb (Nat.le_refl _))
      clear HB22 HO22 hb 
      refine (rd_code _ _ _ code_129 _ (HAP.out.1.nums) (by rw [List.length_append, sL_len]; decide)).mono ?_
      rintro e y20 ⟨a0, n0, c0, a1, n1, c1_, a2, n2, c2_, rfl, hb⟩
      have HB24 := Lib.hid (HB23.out.trans (hb.mono HB23.out.size))
      have HO24 := Lib.hid (HO23.out.below hb (Nat.le_refl _))
      clear HB23 HO23 hb 
      go_upto_region 16 with (fail)
      have hx := ext_alloc y20 (.cells #[.slice a0 n0 c0, .slice a1 n1 c1_, .slice a2 n2 c2_] 30)
      obtain ⟨Zy20, hZ⟩ : ∃ W, W = y20.alloc (.cells #[.slice a0 n0 c0, .slice a1 n1 c1_, .slice a2 n2 c2_] 30) := ⟨_, rfl⟩
      rw [← hZ] at hx ⊢
      clear hZ
      skip
      have HB25 := Lib.hid (HB24.out.trans (hx.mono HB24.out.size))
      have HO25 := Lib.hid (HO24.out.below hx (Nat.le_refl _))
      clear HB24 HO24 hx 
      go_wp2_with fail
      have hx := ext_alloc Zy20 (.cells #[.int .u8 0, .int .u8 0, .int .u8 16, .int .u8 1, .int .u8 0, .int .u8 0, .int .u8 0, .int .u8 0, .int .u8 0, .int .u8 0, .int .u8 0, .int .u8 0] 5)
      have HNL := Lib.hid (nums_lit Zy20 [0, 0, 16, 1, 0, 0, 0, 0, 0, 0, 0, 0] #[.int .u8 0, .int .u8 0, .int .u8 16, .int .u8 1, .int .u8 0, .int .u8 0, .int .u8 0, .int .u8 0, .int .u8 0, .int .u8 0, .int .u8 0, .int .u8 0] rfl (by decide) (by unfold maxLen; decide))
      have HB26 := Lib.hid (HB25.out.trans (hx.mono HB25.out.size))
      have HO26 := Lib.hid (HO25.out.below hx (Nat.le_refl _))
      clear HB25 HO25 hx 
      refine (rd_code _ _ _ code_g _ (HNL.out) (by decide)).mono ?_
      rintro e y21 ⟨a0, n0, c0, a1, n1, c1_, a2, n2, c2_, rfl, hb⟩
      have HB27 := Lib.hid (HB26.out.trans (hb.mono HB26.out.size))
      have HO27 := Lib.hid (HO26.out.below hb (Nat.le_refl _))
      clear HB26 HO26 hb 
      go_upto_region 17 with (fail)
      have hx := ext_alloc y21 (.cells #[.slice a0 n0 c0, .slice a1 n1 c1_, .slice a2 n2 c2_] 30)
      obtain ⟨Zy21, hZ⟩ : ∃ W, W = y21.alloc (.cells #[.slice a0 n0 c0, .slice a1 n1 c1_, .slice a2 n2 c2_] 30) := ⟨_, rfl⟩
      rw [← hZ] at hx ⊢
      clear hZ
      skip
      have HB28 := Lib.hid (HB27.out.trans (hx.mono HB27.out.size))
      have HO28 := Lib.hid (HO27.out.below hx (Nat.le_refl _))
      clear HB27 HO27 hx 
      go_wp2_with fail
      have hx := ext_alloc Zy21 (.cells #[.int .u8 0, .int .u8 0, .int .u8 0, .int .u8 0, .int .u8 255, .int .u8 255, .int .u8 255, .int .u8 255, .int .u8 0, .int .u8 0, .int .u8 0, .int .u8 0] 5)
      have HNL := Lib.hid (nums_lit Zy21 [0, 0, 0, 0, 255, 255, 255, 255, 0, 0, 0, 0] #[.int .u8 0, .int .u8 0, .int .u8 0, .int .u8 0, .int .u8 255, .int .u8 255, .int .u8 255, .int .u8 255, .int .u8 0, .int .u8 0, .int .u8 0, .int .u8 0] rfl (by decide) (by unfold maxLen; decide))
      have HB29 := Lib.hid (HB28.out.trans (hx.mono HB28.out.size))
      have HO29 := Lib.hid (HO28.out.below hx (Nat.le_refl _))
      clear HB28 HO28 hx 
      refine (rd_code _ _ _ code_h _ (HNL.out) (by decide)).mono ?_
      rintro e y22 ⟨a0, n0, c0, a1, n1, c1_, a2, n2, c2_, rfl, hb⟩
      have HB30 := Lib.hid (HB29.out.trans (hb.mono HB29.out.size))
      have HO30 := Lib.hid (HO29.out.below hb (Nat.le_refl _))
      clear HB29 HO29 hb 
      go_upto_region 18 with (fail)
      have hx := ext_alloc y22 (.cells #[.slice a0 n0 c0, .slice a1 n1 c1_, .slice a2 n2 c2_] 30)
      obtain ⟨Zy22, hZ⟩ : ∃ W, W = y22.alloc (.cells #[.slice a0 n0 c0, .slice a1 n1 c1_, .slice a2 n2 c2_] 30) := ⟨_, rfl⟩
      rw [← hZ] at hx ⊢
      clear hZ
      skip
      have HB31 := Lib.hid (HB30.out.trans (hx.mono HB30.out.size))
      have HO31 := Lib.hid (HO30.out.below hx (Nat.le_refl _))
      clear HB30 HO30 hx 
      obtain ⟨g_, c_, ee, -, -, hlt, hcell, hfr, hset⟩ := HO31.out.at_ (by rw [sL_len]; decide)
      simp only [Value.slice.injEq, Option.some.injEq, Addr.mk.injEq, and_true, true_and] at ee
      obtain ⟨rfl, -, -⟩ := ee
      have q12 := hcell 12 (by rw [sL_len]; decide)
      rw [sL_12] at q12
      have f12 := hfr 12
      have ho2 := hset 12 1 (by decide)
      rw [show ((1 : Nat) : Int) = 1 from rfl] at ho2
      have HO2 := Lib.hid ho2
      clear ho2
      have HB2 := Lib.hid (setCell_below HB31.out HGX.out (.int .u8 1) (j := 12))
      clear hcell hfr hset hlt
      clear HB31 HO31
      go_upto_region 19 with (fail)
      clear q12 f12
      obtain ⟨W8, hW8⟩ : ∃ W, W = Zy22.setCell ⟨gx, 12, none⟩ (.int .u8 1) := ⟨_, rfl⟩
      rw [← hW8] at HO2 HB2 ⊢
      clear hW8
      go_wp2_with fail
      refine (rd_code _ _ _ code_i _ HO2.out.nums (by rw [List.length_set, sL_len]; decide)).mono ?_
      rintro e y90 ⟨a0, n0, c0, a1, n1, c1_, a2, n2, c2_, rfl, hb⟩
      have HB3 := Lib.hid (HB2.out.trans (hb.mono HB2.out.size))
      clear hb HO2 HB2
      go_upto_region 20 with (fail)
      have HX9 := Lib.hid (ext_alloc y90 (.cells #[.slice a0 n0 c0, .slice a1 n1 c1_, .slice a2 n2 c2_] 30))
      go_wp2_with fail
      refine (AW.out _).mono ?_
      rintro e y91 ⟨rfl, hb⟩
      have HFIN := Lib.hid ((HB3.out.trans (HX9.out.mono HB3.out.size)).trans (hb.mono (Nat.le_trans HB3.out.size HX9.out.size)))
      clear hb
      go_wp2_with fail
      go_ret
      exact ⟨rfl, HFIN.out⟩

end Go.Proofs.Ytdmmjmdnljhooaa.MeshY
