/- From the form's own reading of an argument to this seat's words: a slice of slices of bytes. -/
import Derived.Test.YtcchekkedgajpaaOpen
import Derived.Test.YtcchekkedgajpaaRec
import Derived.Deep.Strs
set_option linter.unusedVariables false
set_option linter.unusedSimpArgs false
namespace Go.Proofs.Ytcchekkedgajpaa.OpenLists
open Go.RowKit Go.Deep Go.ChangeShapes Go.WideShapes Go.ChangeAt Base Rec Go.Proofs.Ytcchekkedgajpaa.Row Go.Proofs.Ytcchekkedgajpaa.Open
theorem add_flat (a : Addr) (hs : a.spot = none) (i : Nat) : a.add i = ⟨a.block, a.off + i, none⟩ := by
  obtain ⟨b, o, s⟩ := a
  subst hs
  unfold Addr.add; split <;> simp_all
theorem recs_of {α H : Type} {enc : TypeId × Value → H} {P : Program} {W : World} {base fuel : Nat} {held : Bool} (z : α) {T E : TypeId} {c : Nat} {en : α → List Value} {ok : α → Prop} (hT : P.underlying T = some (.slice E)) (hc : P.cellsOf E = c) (hpos : 0 < c) (hlen : ∀ x, (en x).length = c)
    (dec : ∀ (fuel : Nat) (cs : List Value) (x : DataW H × List MemPlace), cs.length = c → DataW.trod enc P W base (fun _ => true) held fuel E cs = some x → ∃ e : α, ok e ∧ cs = en e)
    {v : Value} {x : DataW H × List MemPlace} (h : DataW.trod enc P W base (fun _ => true) held fuel T [v] = some x) : ∃ l : List α, (∀ e ∈ l, ok e) ∧ Recs c en W v l := by
  rcases open_slice hT h with ⟨hcs, _⟩ | ⟨ad, l, cap, m, n, D, Pl, hcs, hb, hl, hm, hmm, _, hx⟩
  · simp only [List.cons.injEq, and_true] at hcs
    subst hcs
    exact ⟨[], by simp, Recs.nil W⟩
  · simp only [List.cons.injEq, and_true] at hcs
    subst hcs
    simp only [if_true] at hmm
    subst hmm
    rw [hc] at hx
    have each : ∀ i, i < m → ∃ e : α, ok e ∧ ∀ k, k < c → W.cell? ((ad.add (i * c)).add k) = (en e)[k]? := by
      intro i hi
      obtain ⟨cs', h1, h2⟩ := hx i hi
      obtain ⟨_, hln, hcell⟩ := World.cells?_some h1
      obtain ⟨e, he, rfl⟩ := dec _ _ _ hln h2
      exact ⟨e, he, hcell⟩
    haveI : Inhabited α := ⟨z⟩
    obtain ⟨f, hf⟩ := choose_lt each
    refine ⟨(List.range l).map f, ?_, ⟨⟨some ad, m, by simp, by simpa using hl, hm, fun e => by simp at e⟩, ?_⟩⟩
    · intro e he
      simp only [List.mem_map, List.mem_range] at he
      obtain ⟨i, hi, rfl⟩ := he
      exact (hf i (by omega)).1
    · intro hne
      have hl0 : 0 < l := by
        rcases Nat.eq_zero_or_pos l with h | h
        · subst h; simp at hne
        · exact h
      have h0 := (hf 0 (by omega)).2 0 hpos
      rw [List.getElem?_eq_getElem (by rw [hlen]; exact hpos)] at h0
      have hspot : ad.spot = none := by
        have := World.cell?_spot h0
        simpa [Addr.add] using this
      have hblk : ad.block < W.heap.size := by
        have := block_lt_of_cell h0
        simpa [Addr.add] using this
      refine ⟨ad.block, ad.off, m, ?_, hblk, ?_⟩
      · obtain ⟨b, o, s⟩ := ad; simp only at hspot; subst hspot; simp
      · intro i hi k y hy
        simp only [List.length_map, List.length_range] at hi
        have hk : k < c := by
          rcases Nat.lt_or_ge k c with h | h
          · exact h
          · rw [List.getElem?_eq_none (by rw [hlen]; exact h)] at hy; simp at hy
        have hfi := (hf i (by omega)).2 k hk
        simp only [List.getElem_map, List.getElem_range] at hy
        rw [hy, Deep.add_add, add_flat ad hspot] at hfi
        rw [Nat.add_assoc]; exact hfi

def IsLists (w : World) (v : Value) : Prop := ∃ l : List (Value × List Nat), (∀ e ∈ l, Nums .u8 256 w e.1 e.2) ∧ Recs 1 (fun e => [e.1]) w v l
theorem cells_u8s : Try.prog.cellsOf 25 = 1 := by kernel_rfl
set_option maxRecDepth 100000 in
theorem dec_u8s {H : Type} {enc : TypeId × Value → H} {W : World} {b0 : Nat} {hd : Bool} (fuel : Nat) (cs : List Value) (x : DataW H × List MemPlace) (hl : cs.length = 1) (hf : DataW.trod enc Try.prog W b0 (fun _ => true) hd fuel 25 cs = some x) : ∃ e : Value × List Nat, Nums .u8 256 W e.1 e.2 ∧ cs = [e.1] := by
  have key : ∃ (a : Option Addr) (len cap : Nat) (zs : List Int), cs = [.slice a len cap] ∧ ((a = none ∧ len = 0 ∧ cap = 0 ∧ zs = []) ∨ ∃ x, a = some x ∧ len ≤ cap ∧ cap ≤ maxLen ∧ zs.length = cap ∧ (∀ i, i < zs.length → W.cell? (x.add i) = some (.int .u8 (zs.getD i 0))) ∧ ∀ n ∈ zs, (Lit.int .u8 n).wf = true) := by
    rcases open_ints Try.underlying25 Try.underlying5 (by kernel_rfl) hf with ⟨hcs, _⟩ | ⟨x, l, c, zs, hcs, _, hl, hm, hz, _, hcell, hwz⟩
    · exact ⟨_, _, _, [], hcs, .inl ⟨rfl, rfl, rfl, rfl⟩⟩
    · exact ⟨_, _, _, zs, hcs, .inr ⟨_, rfl, hl, hm, by simpa using hz, hcell, hwz⟩⟩
  obtain ⟨a, len, cap, zs, rfl, hz⟩ := key
  obtain ⟨l, rfl, hn⟩ := nums_u8 hz
  exact ⟨(_, l), hn, rfl⟩
set_option maxRecDepth 100000 in
theorem open_lists {H : Type} {enc : TypeId × Value → H} {W : World} {r : Reach} {b0 : Nat} {v : Value} {d : DataW H} {p : List MemPlace}
    (hv : Value.okWide Try.prog W r b0 22 v) (h : DataW.Trod enc Try.prog W 0 (fun _ => true) true 22 v d p) : IsLists W v := by
  obtain ⟨a, len, cap, rfl⟩ := okWide_slice Try.underlying22 hv
  obtain ⟨fuel, hf⟩ := h
  simp only [Value.cells] at hf
  exact recs_of (en := fun (e : Value × List Nat) => [e.1]) (ok := fun e => Nums .u8 256 W e.1 e.2) (.slice none 0 0, []) Try.underlying22 cells_u8s (by omega) (fun _ => rfl) (fun fuel cs x hl hf => dec_u8s fuel cs x hl hf) hf
end Go.Proofs.Ytcchekkedgajpaa.OpenLists
