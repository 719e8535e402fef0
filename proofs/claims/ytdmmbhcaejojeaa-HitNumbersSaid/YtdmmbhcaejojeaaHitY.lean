/- The walk of law13's awake. -/
import Derived.Test.YtdmmbhcaejojeaaHitW
import Derived.Test.YtdmmbhcaejojeaaQu
set_option linter.unusedVariables false
set_option linter.unusedSimpArgs false
namespace Go.Proofs.Ytdmmbhcaejojeaa.HitY
open Go.RowKit Go.Sort FixM Base Num FixW Qb Qt Qa Qf Qg Qr Qs Qz VecW VecV VecU LightQ LightC MeshM Rec MeshA MeshB MeshC MeshD MeshE MeshP MeshEq HitM HitT HitB HitX HitN HitC HitS HitV HitW
inductive K2 where
  | val (v : Value)
  | bm
  | sl
  | pt
  | al (B : Nat)
def K2.sat : K2 → World → Value → Prop
  | .val u, _, v => v = u
  | .bm, w, v => Bm w v
  | .sl, w, v => ∃ g, v = .slice (some ⟨g, 0, none⟩) 1 1 ∧ w.heap[g]? = some (.cells #[.int .i64 0, .int .i64 0, .int .i64 0, .int .i64 4294967296] 39)
  | .pt, w, v => ∃ g, v = .pointer (some ⟨g, 0, none⟩) ∧ w.heap[g]? = some (.cells #[.int .i64 0, .int .i64 0, .int .i64 0, .int .i64 4294967296] 39)
  | .al B, w, v => ∃ g cur, v = ptr g ∧ B ≤ g ∧ w.heap[g]? = some (.cells cur 33) ∧ cur.size = 4
def K2.out : K2 → Value
  | .val u => u
  | _ => undef
def phi2 (ks : List K2) (k : Nat) (w : World) (v : Value) : Prop := (ks.getD k (.val undef)).sat w v
def outs (ks : List K2) (k : Nat) : Value := (ks.getD k (.val undef)).out
def K2.isVal : K2 → Bool
  | .val _ => true
  | _ => false
def lookB (ks : List K2) (ops : Array Oper) (N : Nat) (o : Oper) : Bool := (o.looksAt ops).all fun s => upto ops.size fun k' => dstOf ops k' != some s || ((ks.getD k' (.val undef)).isVal && decide (s < N))
theorem look_of {ks : List K2} {ops : Array Oper} {N : Nat} {o : Oper} (h : lookB ks ops N o = true) : ∀ s ∈ o.looksAt ops, (∃ k', dstOf ops k' = some s ∧ s < N ∧ ∀ w v, phi2 ks k' w v → v = outs ks k') ∨ ∀ k', dstOf ops k' ≠ some s := by
  intro s hs
  by_cases he : ∃ k', dstOf ops k' = some s
  · obtain ⟨k', hk'⟩ := he
    unfold lookB at h
    have := upto_spec (List.all_eq_true.1 h s hs) k' (dstOf_lt hk')
    rw [hk'] at this
    simp only [bne_self_eq_false, Bool.false_or, Bool.and_eq_true, decide_eq_true_eq] at this
    refine .inl ⟨k', rfl.trans hk', this.2, fun w v hv => ?_⟩
    unfold phi2 at hv
    unfold outs
    have h1 := this.1
    revert h1 hv
    generalize ks.getD k' (.val undef) = K
    intro hv h1
    cases K <;> first | exact hv | (simp [K2.isVal] at h1)
  · exact .inr fun k' hk' => he ⟨k', hk'⟩
theorem fld_run {e : Operand → Value} {o : Oper} {x : Operand} (ho : o.op = .field 44 x 2) (g : Nat) (hv : e x = .agg #[.slice none 0 0, .slice none 0 0, .slice (some ⟨g, 0, none⟩) 1 1]) (w : World) : (execOp e o).run Try.prog w = .ok (.value (.slice (some ⟨g, 0, none⟩) 1 1)) w := by
  unfold execOp
  simp only [ho, hv]
  kernel_rfl
theorem idx_run {e : Operand → Value} {o : Oper} {x y : Operand} (ho : o.op = .indexAddr 42 x y) (g : Nat) (hx : e x = .slice (some ⟨g, 0, none⟩) 1 1) (hy : e y = .int .i64 0) (w : World) : (execOp e o).run Try.prog w = .ok (.value (.pointer (some ⟨g, 0, none⟩))) w := by
  unfold execOp
  simp only [ho, hx, hy]
  kernel_rfl
theorem ld_run {e : Operand → Value} {o : Oper} {x : Operand} (ho : o.op = .load 39 x) (g : Nat) (hx : e x = .pointer (some ⟨g, 0, none⟩)) {w : World} (hg : w.heap[g]? = some (.cells #[.int .i64 0, .int .i64 0, .int .i64 0, .int .i64 4294967296] 39)) : (execOp e o).run Try.prog w = .ok (.value (.agg #[.int .i64 0, .int .i64 0, .int .i64 0, .int .i64 4294967296])) w := by
  unfold execOp
  simp only [ho, hx, Instr.loadAt, Instr.sureAddr, Sem.run_bind, Sem.run_pure, Result.andThen_ok, run_loadVar_row w g 39 39 #[.int .i64 0, .int .i64 0, .int .i64 0, .int .i64 4294967296] (0, 0) _ hg Try.underlying39 rfl (by kernel_rfl)]
theorem phi2_mono (ks : List K2) (k : Nat) (v : Value) (w1 w2 : World) (h : phi2 ks k w1 v) (hb : Below w1.heap.size w1 w2) : phi2 ks k w2 v := by
  unfold phi2 at *
  generalize ks.getD k (.val undef) = K at *
  cases K
  · exact h
  · exact Bm.below h hb
  · obtain ⟨g, e, hg⟩ := h; exact ⟨g, e, vec_step hg hb⟩
  · obtain ⟨g, e, hg⟩ := h; exact ⟨g, e, vec_step hg hb⟩
  · obtain ⟨g, cur, e, hB, hg, hc⟩ := h; exact ⟨g, cur, e, hB, vec_step hg hb, hc⟩
theorem ne_of {w : World} {b g : Nat} {cur : Array Value} (hb : w.heap[b]? = some (.cells #[.int .i64 0, .int .i64 0, .int .i64 0, .int .i64 4294967296] 39)) (hg : w.heap[g]? = some (.cells cur 33)) : b ≠ g := by
  rintro rfl
  rw [hg] at hb
  simp at hb
theorem phi2_stab (ks : List K2) (row : Array Value) (hr : row.size = 4) (B k : Nat) (v : Value) (w : World) (g : Nat) (cur : Array Value) (h : phi2 ks k w v) (hg : w.heap[g]? = some (.cells cur 33)) : phi2 ks k (w.setRow g row) v := by
  unfold phi2 at *
  generalize ks.getD k (.val undef) = K at *
  cases K
  · exact h
  · exact Bm.row h hg (by decide)
  · obtain ⟨b, e, hb⟩ := h; exact ⟨b, e, (setRow_other _ _ _ _ (ne_of hb hg)).trans hb⟩
  · obtain ⟨b, e, hb⟩ := h; exact ⟨b, e, (setRow_other _ _ _ _ (ne_of hb hg)).trans hb⟩
  · obtain ⟨b, c2, e, hB, hb, hc⟩ := h
    by_cases e2 : b = g
    · subst e2
      exact ⟨b, row, e, hB, setRow_heap _ _ _ _ _ _ hg, hr⟩
    · exact ⟨b, c2, e, hB, (setRow_other _ _ _ _ e2).trans hb, hc⟩
def rA : Ry := ⟨⟨0, 0, -21474836480⟩, ⟨0, 0, 4294967296⟩⟩
def rB : Ry := ⟨⟨21474836480, 0, -21474836480⟩, ⟨0, 0, 4294967296⟩⟩
def bU : Bx := ⟨⟨-4294967296, -4294967296, -4294967296⟩, ⟨4294967296, 4294967296, 4294967296⟩⟩
def b0 : B4 := ⟨⟨0, 0, 0⟩, 4294967296⟩
def pA : V3 := ⟨-4294967296, -4294967296, 0⟩
def pB : V3 := ⟨4294967296, -4294967296, 0⟩
def pC : V3 := ⟨0, 4294967296, 0⟩
theorem okA : rA.ok := by simp only [Ry.ok, rA, V3.ok, In]; decide
theorem okB : rB.ok := by simp only [Ry.ok, rB, V3.ok, In]; decide
theorem okU : HitM.Bx.ok bU := by simp only [HitM.Bx.ok, bU, V3.ok, In]; decide
theorem okp : pA.ok ∧ pB.ok ∧ pC.ok := by simp only [pA, pB, pC, V3.ok, In]; decide
theorem in0 (x : Int) (h1 : -9223372036854775808 ≤ x) (h2 : x ≤ 9223372036854775807) : In x := ⟨h1, h2⟩
theorem eBoxA : boxH rA bU = some 17179869184 := by kernel_rfl
theorem eBoxB : boxH rB bU = none := by kernel_rfl
theorem eBalA : ballH rA b0 = some (17179869184, 25769803776) := by kernel_rfl
theorem eBalB : ballH rB b0 = none := by kernel_rfl
theorem eTriA : triH rA pA pB pC = some ⟨21474836480, 0, 1073741824, 2147483648⟩ := by kernel_rfl
theorem eTriB : triH rB pA pB pC = none := by kernel_rfl
theorem eShA : shapeF ballM 0 rA 21474836480 = some ⟨25769803776, 0, 0, 0⟩ := by kernel_rfl
theorem eScA : scanF ballM rA 0 = ⟨17179869184, 0, 0, 0⟩ := by kernel_rfl
theorem eNoA : normalF ballM ⟨17179869184, 0, 0, 0⟩ rA = ⟨0, 0, -4294967296⟩ := by kernel_rfl
theorem cBoxA (w : World) : Calls Try.prog 10 #[.agg #[.int .i64 0, .int .i64 0, .int .i64 (-21474836480), .int .i64 0, .int .i64 0, .int .i64 4294967296], .agg #[.int .i64 (-4294967296), .int .i64 (-4294967296), .int .i64 (-4294967296), .int .i64 4294967296, .int .i64 4294967296, .int .i64 4294967296]] w (VTo (.tuple #[.int .i64 17179869184, .bool true]) w) := by
  have h := hbox_any rA bU okA okU w
  rw [eBoxA] at h
  exact h
theorem cBoxB (w : World) : Calls Try.prog 10 #[.agg #[.int .i64 21474836480, .int .i64 0, .int .i64 (-21474836480), .int .i64 0, .int .i64 0, .int .i64 4294967296], .agg #[.int .i64 (-4294967296), .int .i64 (-4294967296), .int .i64 (-4294967296), .int .i64 4294967296, .int .i64 4294967296, .int .i64 4294967296]] w (VTo (.tuple #[.int .i64 0, .bool false]) w) := by
  have h := hbox_any rB bU okB okU w
  rw [eBoxB] at h
  exact h
theorem cBalA (w : World) : Calls Try.prog 12 #[.agg #[.int .i64 0, .int .i64 0, .int .i64 (-21474836480), .int .i64 0, .int .i64 0, .int .i64 4294967296], .agg #[.int .i64 0, .int .i64 0, .int .i64 0, .int .i64 4294967296]] w (VTo (.tuple #[.int .i64 17179869184, .int .i64 25769803776, .bool true]) w) := by
  have h := ball_any rA b0 okA (by simp only [b0, V3.ok, In]; decide) (by simp only [b0, In]; decide) w
  rw [eBalA] at h
  exact h
theorem cBalB (w : World) : Calls Try.prog 12 #[.agg #[.int .i64 21474836480, .int .i64 0, .int .i64 (-21474836480), .int .i64 0, .int .i64 0, .int .i64 4294967296], .agg #[.int .i64 0, .int .i64 0, .int .i64 0, .int .i64 4294967296]] w (VTo (.tuple #[.int .i64 0, .int .i64 0, .bool false]) w) := by
  have h := ball_any rB b0 okB (by simp only [b0, V3.ok, In]; decide) (by simp only [b0, In]; decide) w
  rw [eBalB] at h
  exact h
theorem cTriA (w : World) : Calls Try.prog 11 #[.agg #[.int .i64 0, .int .i64 0, .int .i64 (-21474836480), .int .i64 0, .int .i64 0, .int .i64 4294967296], .agg #[.int .i64 (-4294967296), .int .i64 (-4294967296), .int .i64 0], .agg #[.int .i64 4294967296, .int .i64 (-4294967296), .int .i64 0], .agg #[.int .i64 0, .int .i64 4294967296, .int .i64 0]] w (VTo (.tuple #[.agg #[.int .i64 21474836480, .int .i64 0, .int .i64 1073741824, .int .i64 2147483648], .bool true]) w) := by
  have h := tri_any rA pA pB pC okA okp.1 okp.2.1 okp.2.2 w
  rw [eTriA] at h
  exact h
theorem cTriB (w : World) : Calls Try.prog 11 #[.agg #[.int .i64 21474836480, .int .i64 0, .int .i64 (-21474836480), .int .i64 0, .int .i64 0, .int .i64 4294967296], .agg #[.int .i64 (-4294967296), .int .i64 (-4294967296), .int .i64 0], .agg #[.int .i64 4294967296, .int .i64 (-4294967296), .int .i64 0], .agg #[.int .i64 0, .int .i64 4294967296, .int .i64 0]] w (VTo (.tuple #[.agg #[.int .i64 0, .int .i64 0, .int .i64 0, .int .i64 0], .bool false]) w) := by
  have h := tri_any rB pA pB pC okB okp.1 okp.2.1 okp.2.2 w
  rw [eTriB] at h
  exact h
theorem cShA (v : Value) (w : World) (hv : Bm w v) : Calls Try.prog 15 #[v, .int .i64 0, .agg #[.int .i64 0, .int .i64 0, .int .i64 (-21474836480), .int .i64 0, .int .i64 0, .int .i64 4294967296], .int .i64 21474836480] w (VTo (.tuple #[.agg #[.int .i64 25769803776, .int .i64 0, .int .i64 0, .int .i64 0], .bool true]) w) := by
  have h := shape_any v ballM w hv.mesh ok_ballM (by decide) 0 (in0 _ (by decide) (by decide)) rA okA 21474836480
  rw [eShA] at h
  exact h
theorem cScA (v : Value) (w : World) (hv : Bm w v) : Calls Try.prog 14 #[v, .agg #[.int .i64 0, .int .i64 0, .int .i64 (-21474836480), .int .i64 0, .int .i64 0, .int .i64 4294967296], .int .i64 0] w (VTo (.agg #[.int .i64 17179869184, .int .i64 0, .int .i64 0, .int .i64 0]) w) := by
  have h := scan_any v ballM w hv.mesh ok_ballM (by decide) rA okA 0
  rw [eScA] at h
  exact h
theorem cNoA (v : Value) (w : World) (hv : Bm w v) : Calls Try.prog 16 #[v, .agg #[.int .i64 17179869184, .int .i64 0, .int .i64 0, .int .i64 0], .agg #[.int .i64 0, .int .i64 0, .int .i64 (-21474836480), .int .i64 0, .int .i64 0, .int .i64 4294967296]] w (VTo (.agg #[.int .i64 0, .int .i64 0, .int .i64 (-4294967296)]) w) := by
  have h := normal_any v ballM w hv.mesh ok_ballM (by decide) ⟨17179869184, 0, 0, 0⟩ (in0 _ (by decide) (by decide)) (in0 _ (by decide) (by decide)) rA okA
  rw [eNoA] at h
  exact h

end Go.Proofs.Ytdmmbhcaejojeaa.HitY
