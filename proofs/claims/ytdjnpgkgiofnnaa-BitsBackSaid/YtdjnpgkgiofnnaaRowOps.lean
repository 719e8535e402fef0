/- From the form's own reading of a []Op to this seat's script. -/
import Derived.Test.YtdjnpgkgiofnnaaScr
import Derived.Test.YtdjnpgkgiofnnaaRows
import Derived.Test.YtdjnpgkgiofnnaaRow
import Derived.Deep.Strs
set_option linter.unusedVariables false
set_option linter.unusedSimpArgs false
namespace Go.Proofs.Ytdjnpgkgiofnnaa.RowOps
open Go.RowKit Go.Deep Go.ChangeShapes Go.WideShapes Go.Proofs.Ytdjnpgkgiofnnaa.Row Bits9

theorem add_flat (a : Addr) (hs : a.spot = none) (i : Nat) : a.add i = ⟨a.block, a.off + i, none⟩ := by
  obtain ⟨b, o, s⟩ := a
  subst hs
  unfold Addr.add; split <;> simp_all

set_option maxRecDepth 100000 in
theorem script_of {H : Type} {enc : TypeId × Value → H} {W : World} {base fuel : Nat} {held : Bool} {a : Option Addr} {len cap : Nat} {x : DataW H × List MemPlace}
    (h : DataW.trod enc Try.prog W base (fun _ => true) held fuel 22 [.slice a len cap] = some x) : ∃ l, Script W (.slice a len cap) l := by
  rcases open_slice Try.underlying22 h with ⟨hcs, _⟩ | ⟨ad, l, c, m, n, D, Pl, hcs, hb, hl, hm, hmm, _, hx⟩
  · simp only [List.cons.injEq, Value.slice.injEq, and_true] at hcs
    obtain ⟨rfl, rfl, rfl⟩ := hcs
    exact ⟨[], ⟨⟨none, 0, rfl, by simp⟩, by simp, fun h => absurd rfl h⟩⟩
  · simp only [List.cons.injEq, Value.slice.injEq, and_true] at hcs
    obtain ⟨rfl, rfl, rfl⟩ := hcs
    simp only [if_true] at hmm
    subst hmm
    have hc3 : Try.prog.cellsOf 28 = 3 := by kernel_rfl
    have hc1 : Try.prog.cellsOf 3 = 1 := by kernel_rfl
    have hc2 : Try.prog.cellsOf 26 = 1 := by kernel_rfl
    rw [hc3] at hx
    have each : ∀ i, i < m → ∃ c : Cmd, c.ok ∧ W.cell? (ad.add (i * 3)) = some (.int .i64 c.kind) ∧ W.cell? (ad.add (i * 3 + 1)) = some (.int .u32 (c.n : Int)) ∧ W.cell? (ad.add (i * 3 + 2)) = some (.int .i64 c.k) := by
      intro i hi
      obtain ⟨cs', h1, h2⟩ := hx i hi
      obtain ⟨y0, y1, y2, n', _, hlen, t0, t1, t2⟩ := trod_struct3 Try.underlying28 h2
      obtain ⟨_, hln, hcell⟩ := World.cells?_some h1
      match cs', hln with
      | [v0, v1, v2], _ =>
        simp only [hc1, hc2, List.drop_zero, List.drop_succ_cons, List.take_succ_cons, List.take_zero] at t0 t1 t2
        obtain ⟨z0, e0, _, w0⟩ := DataW.trod_int Try.underlying3 t0
        obtain ⟨z1, e1, _, w1⟩ := DataW.trod_int Try.underlying26 t1
        obtain ⟨z2, e2, _, w2⟩ := DataW.trod_int Try.underlying3 t2
        simp only [List.cons.injEq, and_true] at e0 e1 e2
        subst e0 e1 e2
        obtain ⟨q, rfl, hq⟩ := nat_u32 w1
        have hw0 := wf_i64 w0
        have hw2 := wf_i64 w2
        have g0 := hcell 0 (by omega)
        have g1 := hcell 1 (by omega)
        have g2 := hcell 2 (by omega)
        rw [Deep.add_add] at g0 g1 g2
        exact ⟨⟨z0, q, z2⟩, ⟨hw0.1, hw0.2, hq, hw2.1, hw2.2⟩, by simpa using g0, by simpa using g1, by simpa using g2⟩
    haveI : Inhabited Cmd := ⟨⟨0, 0, 0⟩⟩
    obtain ⟨f, hf⟩ := choose_lt each
    refine ⟨(List.range len).map f, ⟨⟨some ad, m, by simp, by unfold maxLen at hm; simp; omega⟩, ?_, ?_⟩⟩
    · intro c hc
      simp only [List.mem_map, List.mem_range] at hc
      obtain ⟨i, hi, rfl⟩ := hc
      exact (hf i (by omega)).1
    · intro hne
      have hl0 : 0 < len := by
        rcases Nat.eq_zero_or_pos len with h | h
        · subst h; simp at hne
        · exact h
      have hspot : ad.spot = none := by
        have := World.cell?_spot (hf 0 (by omega)).2.1
        simpa [Addr.add] using this
      have hblk : ad.block < W.heap.size := by
        have := block_lt_of_cell (hf 0 (by omega)).2.1
        simpa [Addr.add] using this
      refine ⟨ad.block, ad.off, m, ?_, hblk, ?_⟩
      · obtain ⟨b, o, s⟩ := ad; simp only at hspot; subst hspot; simp
      · intro i hi
        simp only [List.length_map, List.length_range] at hi
        have hfi := hf i (by omega)
        simp only [List.getElem_map, List.getElem_range]
        rw [add_flat ad hspot, add_flat ad hspot, add_flat ad hspot] at hfi
        exact ⟨hfi.2.1, hfi.2.2.1, hfi.2.2.2⟩
end Go.Proofs.Ytdjnpgkgiofnnaa.RowOps
