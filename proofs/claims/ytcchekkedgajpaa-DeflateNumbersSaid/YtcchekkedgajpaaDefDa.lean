/- Package deflate: Whole. -/
import Derived.Test.YtcchekkedgajpaaDefCb
import Derived.Deep.Upon
set_option linter.unusedVariables false
set_option linter.unusedSimpArgs false
namespace Go.Proofs.Ytcchekkedgajpaa.DefDa
open Go.RowKit Go.Sort BitsM Base Low BitsW BitsX BitsS MapA DefM DefN DefO DefS DefT DefR DefU DefV DefW DefX DefY DefZ DefBa DefBb DefBc DefCa DefCb Qb Qt Qp Qy Rec
/-- append to a row without room behind it: in a new row, unless nothing is appended -/
theorem wpList_append_full {P : Program} {w : World} {ops : Array Oper} {rest : List Oper} {o : Oper} {a : Act} {Q : Exit → Act → World → Prop} (hgd : o.guard = none) (s x : Operand) (T E : TypeId)
    (ho : o.op = .call { callee := .builtin .append, args := #[s, x], argTypes := #[T, T] }) (k : IntKind) (N bytes : Nat) (hT : NumSlice P T E k bytes)
    (ad : Option Addr) (n : Nat) (l : List Nat) (hs : a.eval s = .slice ad n n) (hv : Nums k N w (.slice ad n n) l) (u : Value) (m : List Nat) (hx : a.eval x = u) (hu : Nums k N w u m)
    (hb : (l.length + m.length) * bytes ≤ 140737488355328) (hl : l.length + m.length ≤ 140737488355328)
    (h : ∀ v' w', Nums k N w' v' (l ++ m) → w.grownBy w' none → (∃ a n c, v' = .slice a n c) → wpList P ops Q rest (a.put o.dst v') w') : wpList P ops Q (o :: rest) a w := by
  obtain ⟨i, hi, hz, h1, h2⟩ := hT.info
  obtain ⟨ad2, cap, rfl, hc1, hc2, hnone⟩ := hu.shape
  obtain ⟨ad3, cap3, e3, hd1, hd2, hdnone⟩ := hv.shape
  simp only [Value.slice.injEq] at e3
  obtain ⟨rfl, rfl, -⟩ := e3
  have src : ∀ b', ad2 = some b' → ∀ j (y : Value), (numCells k m)[j]? = some y → w.cell? (b'.add j) = some y := by
    intro b' hb' j y hj
    have hjl : j < m.length := by
      rcases Nat.lt_or_ge j m.length with h | h
      · exact h
      · rw [List.getElem?_eq_none (by rw [numCells_length]; exact h)] at hj; simp at hj
    obtain ⟨b, off, cap', e, _, hc⟩ := hu.cells (by intro h0; subst h0; simp at hjl)
    subst hb'
    simp only [Value.slice.injEq, Option.some.injEq] at e
    obtain ⟨rfl, _, _⟩ := e
    rw [numCells_at k m j hjl] at hj
    have := hc j hjl
    rw [show ((⟨b, off, none⟩ : Addr).add j) = ⟨b, off + j, none⟩ from by unfold Addr.add; split <;> simp_all]
    rw [this]; exact hj
  by_cases hm : m = []
  · subst hm
    refine wpList_plain hgd fun K hK => ?_
    have hsrc : Src P i.size T (.slice ad2 0 cap) 0 [] w := by
      cases ad2 with
      | none => exact Src.ofNil w hT.und cap
      | some b => exact Src.ofSlice w hT.und b 0 cap [] (by simp) (fun j y hj => by simp at hj) (by simp)
    have hrun := run_append_nothing (P := P) w T T o.type E i hT.und hi ad l.length l.length (Nat.le_refl _) _ hsrc
    unfold Oper.wp
    simp only [List.length_nil] at hx
    simp [execOp, ho, resolve, invoke, builtin, hs, hx, hrun, Result.andThen]
    exact hK _ _ (h _ w (by simpa using hv) ⟨rfl, rfl, rfl, Nat.le_refl _, fun _ _ _ => rfl⟩ ⟨_, _, _, rfl⟩)
  · have hml : 0 < m.length := by cases m with
      | nil => exact absurd rfl hm
      | cons => simp
    cases ad2 with
    | none => have := hnone rfl; omega
    | some ad2 =>
      refine wpList_append_grows w hgd s x T ho E i (.int k 0) 1 bytes hT.und hi hz h1 h2 rfl (by omega) ad l.length l.length (numCells k l) hs (fun e => ⟨(hdnone e).1, (hdnone e).1⟩) (by rw [numCells_length]; omega)
        (by
          intro b hb' j y hj
          have hjl : j < l.length := by
            rcases Nat.lt_or_ge j l.length with h | h
            · exact h
            · rw [List.getElem?_eq_none (by rw [numCells_length]; exact h)] at hj; simp at hj
          obtain ⟨b1, off, cap', e, _, hc⟩ := hv.cells (by intro h0; subst h0; simp at hjl)
          subst hb'
          simp only [Value.slice.injEq, Option.some.injEq] at e
          obtain ⟨rfl, _, _⟩ := e
          rw [numCells_at k l j hjl] at hj
          have := hc j hjl
          rw [show ((⟨b1, off, none⟩ : Addr).add j) = ⟨b1, off + j, none⟩ from by unfold Addr.add; split <;> simp_all]
          rw [this]; exact hj) ad2 m.length cap (numCells k m) hx (by rw [numCells_length]; omega) (src ad2 rfl) (numCells_one k m) (by omega) (by unfold maxLen; omega) hb ?_
      intro v' w' ho' hg'
      have hO : Own k N E w.heap.size w' v' (l ++ m) := ⟨by rw [List.length_append, numCells_append]; exact ho', fun y hy => by rcases List.mem_append.1 hy with hy | hy; exact hv.bound y hy; exact hu.bound y hy⟩
      exact h v' w' hO.nums hg' hO.slice_
theorem bitsW_nil : (bitsW []).length / 8 = 0 := by decide +kernel
set_option maxRecDepth 100000 in
set_option maxHeartbeats 1000000 in
theorem whole_any (w : World) (u : Value) (B : List Nat) (hu : Nums .u8 256 w u B) (hlen : B.length ≤ 36864) (Z1 : Nat)
    (hpr : ∀ base s w1 N, Ds base w1 s false (bitsW B) ((bitsW B).length / 8) B (4096 * nb B.length) N 0 → Calls Try.prog 36 #[.pointer (some ⟨s.gW, 0, none⟩)] w1 fun e w' => e = .returned (.tuple #[]) ∧ ∃ s', Ds base w' s' false (bitsW B) ((bitsW B).length / 8) B (4096 * nb B.length) N Z1 ∧ Ev w1 s w' s') :
    Calls Try.prog 16 #[u] w fun e w' => ∃ x, e = .returned x ∧ Nums .u8 256 w' x (wholeF B) ∧ (∃ a n c, x = .slice a n c) ∧ Below w.heap.size w w' := by
  have HU := Lib.hid hu
  have HPR := Lib.hid hpr
  clear hu hpr
  go_enter Try.func16, Try.ntmps16
  go_wp2_with fail
  refine (new_any w.heap.size w (Nat.le_refl _)).mono ?_
  rintro e w1 ⟨s, rfl, hs, hb1, hown⟩
  have HU1 := Lib.hid (HU.out.below hb1 (Nat.le_refl _))
  have HS := Lib.hid hs
  have HB1 := Lib.hid hb1
  have HOWN := Lib.hid hown
  clear hs hb1 hown HU
  have hw := write_any w.heap.size w1 s [] B HS.out u HU1.out (by simpa using hlen)
  have HW := Lib.hid hw
  clear hw
  go_wp2_with fail
  refine HW.out.mono ?_
  rintro e w2 ⟨x, s2, rfl, ⟨hx, hxt⟩, hs2, he2, hf2⟩
  simp only [List.nil_append] at hx hs2
  rw [bitsW_nil] at hx
  obtain ⟨ax, nx, rfl⟩ := hxt
  have HX := Lib.hid hx
  have HS2 := Lib.hid hs2
  have HE2 := Lib.hid he2
  have HF2 := Lib.hid hf2
  clear hx hs2 he2 hf2 HW HU1 HS
  have hen := end_any w.heap.size w2 s2 B Z1 HS2.out hlen (fun w3 N h3 => HPR.out _ _ _ _ h3)
  rw [HE2.out.gW] at hen
  have HEN := Lib.hid hen
  clear hen
  go_wp2_with fail
  refine HEN.out.mono ?_
  rintro e w3 ⟨y, rfl, hy, -, hk3, -⟩
  have hxx := HX.out.frame hk3 (fun k hk => (HF2.out k hk).1)
  have hln : (outN (bitsW B) 0).length + (outN (endL B) ((bitsW B).length / 8)).length = (wholeF B).length := by
    rw [← List.length_append, out_append (endL_ahead B)]; rfl
  have hwl := whole_len B
  have hnb : nb B.length ≤ 9 := by unfold nb; omega
  have HXX := Lib.hid hxx
  have HY := Lib.hid hy
  have HB3 := Lib.hid (show Below w.heap.size w w3 from
    (HB1.out.trans (HE2.out.keeps.below _ HB1.out.size HOWN.out)).trans (hk3.below _ (Nat.le_trans HB1.out.size HE2.out.keeps.size) (fun k hk => by
      rcases HE2.out.fresh k hk with h | h
      · exact HOWN.out k h
      · exact Nat.le_trans HB1.out.size h)))
  have l1 : ((outN (bitsW B) 0).length + (outN (endL B) ((bitsW B).length / 8)).length) * 1 ≤ 140737488355328 := by omega
  have l2 : (outN (bitsW B) 0).length + (outN (endL B) ((bitsW B).length / 8)).length ≤ 140737488355328 := by omega
  have HL1 := Lib.hid l1
  have HL2 := Lib.hid l2
  clear hxx hy hk3 hln hwl hnb HX HF2 HEN HS2 HE2 HB1 HOWN l1 l2
  go_wp2_with (at_builtin; refine wpList_append_full rfl (.tmp 20) (.tmp 21) 25 5 rfl .u8 256 1 u8s ax nx (outN (bitsW B) 0) rfl HXX.out y (outN (endL B) ((bitsW B).length / 8)) rfl HY.out HL1.out HL2.out ?_; intro v4 w4 hn4 hg4 hs4)
  go_ret
  refine ⟨v4, rfl, ?_, hs4, ?_⟩
  · have := hn4
    rw [out_append (endL_ahead B)] at this
    exact this
  · exact below_grown (k := .u8) (N := 256) (E := 5) (base := w.heap.size) HB3.out (Own.nil _ _ _ _ _) hg4 (Nat.le_refl _) HB3.out.size
theorem whole_small (w : World) (u : Value) (B : List Nat) (hu : Nums .u8 256 w u B) (hlen : B.length ≤ 32768) :
    Calls Try.prog 16 #[u] w fun e w' => ∃ x, e = .returned x ∧ Nums .u8 256 w' x (wholeF B) ∧ (∃ a n c, x = .slice a n c) ∧ Below w.heap.size w w' :=
  whole_any w u B hu (by omega) 0 (fun base s w1 N h => prune_ds h (Nat.zero_le _) (by unfold nb; omega) (by unfold nb; omega))
end Go.Proofs.Ytcchekkedgajpaa.DefDa
