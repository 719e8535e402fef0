import Derived.Test.YtighlefajekloaaBase
import Derived.ProofKit
import Derived.OpenShut
import Derived.Test.YtighlefajekloaaRows
import Derived.Test.YtighlefajekloaaRec
import Derived.Deep.Strs
import Derived.Test.YtighlefajekloaaPj
/- From the form's own reading of an argument to this seat's words: a slice of bytes that came in reads as a list of numbers. -/
set_option linter.unusedVariables false
set_option linter.unusedSimpArgs false
namespace Go.Proofs.Ytighlefajekloaa.Row
open Go.RowKit Base

theorem wf_u8 {n : Int} (h : (Lit.int .u8 n).wf = true) : 0 ≤ n ∧ n ≤ 255 := by simpa [Lit.wf, IntKind.min, IntKind.max, IntKind.signed, IntKind.bits] using h
theorem wf_u32 {n : Int} (h : (Lit.int .u32 n).wf = true) : 0 ≤ n ∧ n ≤ 4294967295 := by simpa [Lit.wf, IntKind.min, IntKind.max, IntKind.signed, IntKind.bits] using h
theorem wf_i64 {n : Int} (h : (Lit.int .i64 n).wf = true) : -9223372036854775808 ≤ n ∧ n ≤ 9223372036854775807 := by simpa [Lit.wf, IntKind.min, IntKind.max, IntKind.signed, IntKind.bits] using h
theorem nat_u8 {n : Int} (h : (Lit.int .u8 n).wf = true) : ∃ x : Nat, n = (x : Int) ∧ x < 256 := ⟨n.toNat, by have := wf_u8 h; omega, by have := wf_u8 h; omega⟩
theorem nat_u32 {n : Int} (h : (Lit.int .u32 n).wf = true) : ∃ x : Nat, n = (x : Int) ∧ x ≤ 4294967295 := ⟨n.toNat, by have := wf_u32 h; omega, by have := wf_u32 h; omega⟩

theorem nums_u8 {w : World} {a : Option Addr} {len cap : Nat} {zs : List Int}
    (h : (a = none ∧ len = 0 ∧ cap = 0 ∧ zs = []) ∨ ∃ x, a = some x ∧ len ≤ cap ∧ cap ≤ maxLen ∧ zs.length = cap ∧ (∀ i, i < zs.length → w.cell? (x.add i) = some (.int .u8 (zs.getD i 0))) ∧ ∀ n ∈ zs, (Lit.int .u8 n).wf = true) :
    ∃ l : List Nat, len = l.length ∧ Nums .u8 256 w (.slice a len cap) l := by
  rcases h with ⟨rfl, rfl, rfl, rfl⟩ | ⟨x, rfl, h1, h2, h3, h4, h5⟩
  · exact ⟨[], rfl, Nums.nil _ _ _⟩
  · have hlen : ((zs.take len).map Int.toNat).length = len := by simp; omega
    refine ⟨(zs.take len).map Int.toNat, hlen.symm, ⟨⟨_, cap, by rw [hlen], by omega, h2, fun e => by simp at e⟩, ?_, ?_⟩⟩
    · intro y hy
      simp only [List.mem_map] at hy
      obtain ⟨n, hn, rfl⟩ := hy
      have := wf_u8 (h5 n (List.mem_of_mem_take hn))
      omega
    · intro hne
      have hpos : 0 < len := by
        rcases Nat.eq_zero_or_pos len with h | h
        · subst h; simp at hne
        · exact h
      obtain ⟨b, off, spot⟩ := x
      have hc := h4 0 (by omega)
      have hspot : spot = none := by simpa [Addr.add] using World.cell?_spot hc
      subst hspot
      refine ⟨b, off, cap, by rw [hlen], ?_, ?_⟩
      · have := block_lt_of_cell hc
        simpa [Addr.add] using this
      · intro i hi
        rw [hlen] at hi
        have hci := h4 i (by omega)
        have e1 : ((⟨b, off, none⟩ : Addr).add i) = ⟨b, off + i, none⟩ := by unfold Addr.add; split <;> simp_all
        rw [e1] at hci
        rw [hci]
        have hiz : i < zs.length := by omega
        have hn := wf_u8 (h5 zs[i] (List.getElem_mem hiz))
        simp only [List.getElem_map, List.getElem_take, List.getD_eq_getElem?_getD, List.getElem?_eq_getElem hiz, Option.getD_some]
        congr 2
        omega
end Go.Proofs.Ytighlefajekloaa.Row

/- From the form's own reading of an argument to this seat's words: a slice of bytes. -/
set_option linter.unusedVariables false
set_option linter.unusedSimpArgs false
namespace Go.Proofs.Ytighlefajekloaa.Open
open Go.RowKit Go.ChangeShapes Go.WideShapes Go.ChangeAt Base Go.Proofs.Ytighlefajekloaa.Row

def IsBytes (w : World) (v : Value) : Prop := ∃ l, Nums .u8 256 w v l
set_option maxRecDepth 100000 in
theorem open_bytes {H : Type} {enc : TypeId × Value → H} {W : World} {r : Reach} {b0 : Nat} {v : Value} {d : DataW H} {p : List MemPlace}
    (hv : Value.okWide Try.prog W r b0 33 v) (h : DataW.Trod enc Try.prog W 0 (fun _ => true) true 33 v d p) : IsBytes W v := by
  obtain ⟨a, len, cap, rfl⟩ := okWide_slice Try.underlying33 hv
  obtain ⟨fuel, hf⟩ := h
  have key : ∃ zs : List Int, (a = none ∧ len = 0 ∧ cap = 0 ∧ zs = []) ∨ ∃ x, a = some x ∧ len ≤ cap ∧ cap ≤ maxLen ∧ zs.length = cap ∧ (∀ i, i < zs.length → W.cell? (x.add i) = some (.int .u8 (zs.getD i 0))) ∧ ∀ n ∈ zs, (Lit.int .u8 n).wf = true := by
    rcases open_ints Try.underlying33 Try.underlying5 (by kernel_rfl) hf with ⟨hcs, _⟩ | ⟨x, l, c, zs, hcs, _, hl, hm, hz, _, hcell, hwz⟩
    · simp [Value.cells] at hcs
      obtain ⟨rfl, rfl, rfl⟩ := hcs
      exact ⟨[], .inl ⟨rfl, rfl, rfl, rfl⟩⟩
    · simp [Value.cells] at hcs
      obtain ⟨rfl, rfl, rfl⟩ := hcs
      exact ⟨zs, .inr ⟨_, rfl, hl, hm, by simpa using hz, hcell, hwz⟩⟩
  obtain ⟨zs, hz⟩ := key
  obtain ⟨l, rfl, hn⟩ := nums_u8 hz
  exact ⟨l, hn⟩
end Go.Proofs.Ytighlefajekloaa.Open

/- From the form's own reading of an argument to this seat's words: a slice of slices of bytes. -/
set_option linter.unusedVariables false
set_option linter.unusedSimpArgs false
namespace Go.Proofs.Ytighlefajekloaa.OpenLists
open Go.RowKit Go.Deep Go.ChangeShapes Go.WideShapes Go.ChangeAt Base Rec Go.Proofs.Ytighlefajekloaa.Row Go.Proofs.Ytighlefajekloaa.Open
theorem add_flat (a : Addr) (hs : a.spot = none) (i : Nat) : a.add i = ⟨a.block, a.off + i, none⟩ := by
  obtain ⟨b, o, s⟩ := a
  subst hs
  unfold Addr.add; split <;> simp_all
theorem recs_of {α H : Type} {enc : TypeId × Value → H} {P : Program} {W : World} {base fuel : Nat} {held : Bool} (z : α) {T E : TypeId} {c : Nat} {en : α → List Value} {ok : α → Prop} (hT : P.underlying T = some (.slice E)) (hc : P.cellsOf E = c) (hpos : 0 < c) (hlen : ∀ x, (en x).length = c)
    (dec : ∀ (fuel : Nat) (cs : List Value) (x : DataW H × List MemPlace), cs.length = c → DataW.trod enc P W base (fun _ => true) held fuel E cs = some x → ∃ e : α, ok e ∧ cs = en e)
    {v : Value} {x : DataW H × List MemPlace} (h : DataW.trod enc P W base (fun _ => true) held fuel T [v] = some x) : ∃ l : List α, (∀ e ∈ l, ok e) ∧ Recs c en W v l := by
  rcases open_slice hT h with ⟨hcs, _⟩ | ⟨ad, l, cap, m, n, D, Pl, hcs, hb, hl, hm, hmm, _, hx⟩
  · simp only [List.cons.injEq, and_true] at hcs
    subst hcs
    exact ⟨[], by simp, Recs.nil W⟩
  · simp only [List.cons.injEq, and_true] at hcs
    subst hcs
    simp only [if_true] at hmm
    subst hmm
    rw [hc] at hx
    have each : ∀ i, i < m → ∃ e : α, ok e ∧ ∀ k, k < c → W.cell? ((ad.add (i * c)).add k) = (en e)[k]? := by
      intro i hi
      obtain ⟨cs', h1, h2⟩ := hx i hi
      obtain ⟨_, hln, hcell⟩ := World.cells?_some h1
      obtain ⟨e, he, rfl⟩ := dec _ _ _ hln h2
      exact ⟨e, he, hcell⟩
    haveI : Inhabited α := ⟨z⟩
    obtain ⟨f, hf⟩ := choose_lt each
    refine ⟨(List.range l).map f, ?_, ⟨⟨some ad, m, by simp, by simpa using hl, hm, fun e => by simp at e⟩, ?_⟩⟩
    · intro e he
      simp only [List.mem_map, List.mem_range] at he
      obtain ⟨i, hi, rfl⟩ := he
      exact (hf i (by omega)).1
    · intro hne
      have hl0 : 0 < l := by
        rcases Nat.eq_zero_or_pos l with h | h
        · subst h; simp at hne
        · exact h
      have h0 := (hf 0 (by omega)).2 0 hpos
      rw [List.getElem?_eq_getElem (by rw [hlen]; exact hpos)] at h0
      have hspot : ad.spot = none := by
        have := World.cell?_spot h0
        simpa [Addr.add] using this
      have hblk : ad.block < W.heap.size := by
        have := block_lt_of_cell h0
        simpa [Addr.add] using this
      refine ⟨ad.block, ad.off, m, ?_, hblk, ?_⟩
      · obtain ⟨b, o, s⟩ := ad; simp only at hspot; subst hspot; simp
      · intro i hi k y hy
        simp only [List.length_map, List.length_range] at hi
        have hk : k < c := by
          rcases Nat.lt_or_ge k c with h | h
          · exact h
          · rw [List.getElem?_eq_none (by rw [hlen]; exact h)] at hy; simp at hy
        have hfi := (hf i (by omega)).2 k hk
        simp only [List.getElem_map, List.getElem_range] at hy
        rw [hy, Deep.add_add, add_flat ad hspot] at hfi
        rw [Nat.add_assoc]; exact hfi

def IsLists (w : World) (v : Value) : Prop := ∃ l : List (Value × List Nat), (∀ e ∈ l, Nums .u8 256 w e.1 e.2) ∧ Recs 1 (fun e => [e.1]) w v l
theorem cells_u8s : Try.prog.cellsOf 33 = 1 := by kernel_rfl
set_option maxRecDepth 100000 in
theorem dec_u8s {H : Type} {enc : TypeId × Value → H} {W : World} {b0 : Nat} {hd : Bool} (fuel : Nat) (cs : List Value) (x : DataW H × List MemPlace) (hl : cs.length = 1) (hf : DataW.trod enc Try.prog W b0 (fun _ => true) hd fuel 33 cs = some x) : ∃ e : Value × List Nat, Nums .u8 256 W e.1 e.2 ∧ cs = [e.1] := by
  have key : ∃ (a : Option Addr) (len cap : Nat) (zs : List Int), cs = [.slice a len cap] ∧ ((a = none ∧ len = 0 ∧ cap = 0 ∧ zs = []) ∨ ∃ x, a = some x ∧ len ≤ cap ∧ cap ≤ maxLen ∧ zs.length = cap ∧ (∀ i, i < zs.length → W.cell? (x.add i) = some (.int .u8 (zs.getD i 0))) ∧ ∀ n ∈ zs, (Lit.int .u8 n).wf = true) := by
    rcases open_ints Try.underlying33 Try.underlying5 (by kernel_rfl) hf with ⟨hcs, _⟩ | ⟨x, l, c, zs, hcs, _, hl, hm, hz, _, hcell, hwz⟩
    · exact ⟨_, _, _, [], hcs, .inl ⟨rfl, rfl, rfl, rfl⟩⟩
    · exact ⟨_, _, _, zs, hcs, .inr ⟨_, rfl, hl, hm, by simpa using hz, hcell, hwz⟩⟩
  obtain ⟨a, len, cap, zs, rfl, hz⟩ := key
  obtain ⟨l, rfl, hn⟩ := nums_u8 hz
  exact ⟨(_, l), hn, rfl⟩
set_option maxRecDepth 100000 in
theorem open_lists {H : Type} {enc : TypeId × Value → H} {W : World} {r : Reach} {b0 : Nat} {v : Value} {d : DataW H} {p : List MemPlace}
    (hv : Value.okWide Try.prog W r b0 43 v) (h : DataW.Trod enc Try.prog W 0 (fun _ => true) true 43 v d p) : IsLists W v := by
  obtain ⟨a, len, cap, rfl⟩ := okWide_slice Try.underlying43 hv
  obtain ⟨fuel, hf⟩ := h
  simp only [Value.cells] at hf
  exact recs_of (en := fun (e : Value × List Nat) => [e.1]) (ok := fun e => Nums .u8 256 W e.1 e.2) (.slice none 0 0, []) Try.underlying43 cells_u8s (by omega) (fun _ => rfl) (fun fuel cs x hl hf => dec_u8s fuel cs x hl hf) hf
end Go.Proofs.Ytighlefajekloaa.OpenLists

/- From the form's own reading of an argument to this seat's words: a pixel, a slice of pixels. -/
set_option linter.unusedVariables false
set_option linter.unusedSimpArgs false
namespace Go.Proofs.Ytighlefajekloaa.OpenPx
open Go.RowKit Go.Deep Go.ChangeShapes Go.WideShapes Go.ChangeAt Base Rec Go.Proofs.Ytighlefajekloaa.Row Go.Proofs.Ytighlefajekloaa.Open OpenLists PngO
def pxV (p : Px) : Value := .agg #[.int .u8 (p.1 : Int), .int .u8 (p.2.1 : Int), .int .u8 (p.2.2.1 : Int), .int .u8 (p.2.2.2 : Int)]
def IsPx (w : World) (v : Value) : Prop := ∃ p : Px, p.ok ∧ v = pxV p
def IsPxs (w : World) (v : Value) : Prop := ∃ ps : List Px, (∀ p ∈ ps, p.ok) ∧ Recs 4 encP w v ps
theorem cells_u8 : Try.prog.cellsOf 5 = 1 := by kernel_rfl
theorem cells_px : Try.prog.cellsOf 28 = 4 := by kernel_rfl
set_option maxRecDepth 100000 in
theorem dec_px {H : Type} {enc : TypeId × Value → H} {W : World} {b0 : Nat} {hd : Bool} (fuel : Nat) (cs : List Value) (x : DataW H × List MemPlace) (hl : cs.length = 4) (hf : DataW.trod enc Try.prog W b0 (fun _ => true) hd fuel 28 cs = some x) : ∃ p : Px, p.ok ∧ cs = encP p := by
  obtain ⟨xs, m, _, _, hlen, hxs, hx⟩ := DataW.trod_array Try.underlying28 hf
  match cs, hl with
  | [a, b, c, d], _ =>
    have h0 := hx 0 (by omega)
    have h1 := hx 1 (by omega)
    have h2 := hx 2 (by omega)
    have h3 := hx 3 (by omega)
    rw [cells_u8, List.getElem?_eq_getElem (by omega)] at h0 h1 h2 h3
    simp only [Nat.zero_mul, Nat.one_mul, Nat.mul_one, List.drop_zero, List.drop_succ_cons, List.take_succ_cons, List.take_zero] at h0 h1 h2 h3
    obtain ⟨z0, e0, _, w0⟩ := DataW.trod_int Try.underlying5 h0
    obtain ⟨z1, e1, _, w1⟩ := DataW.trod_int Try.underlying5 h1
    obtain ⟨z2, e2, _, w2⟩ := DataW.trod_int Try.underlying5 h2
    obtain ⟨z3, e3, _, w3⟩ := DataW.trod_int Try.underlying5 h3
    simp only [List.cons.injEq, and_true] at e0 e1 e2 e3
    obtain ⟨n0, rfl, l0⟩ := nat_u8 w0
    obtain ⟨n1, rfl, l1⟩ := nat_u8 w1
    obtain ⟨n2, rfl, l2⟩ := nat_u8 w2
    obtain ⟨n3, rfl, l3⟩ := nat_u8 w3
    exact ⟨(n0, n1, n2, n3), ⟨l0, l1, l2, l3⟩, by rw [e0, e1, e2, e3]; rfl⟩
set_option maxRecDepth 100000 in
theorem open_px {H : Type} {enc : TypeId × Value → H} {W : World} {r : Reach} {b0 : Nat} {v : Value} {d : DataW H} {p : List MemPlace}
    (hv : Value.okWide Try.prog W r b0 28 v) (h : DataW.Trod enc Try.prog W 0 (fun _ => true) true 28 v d p) : IsPx W v := by
  simp only [Value.okWide, Try.underlying28] at hv
  obtain ⟨cs, rfl, hsz, _⟩ := hv
  rw [cells_px] at hsz
  obtain ⟨fuel, hf⟩ := h
  have hcells : (Value.agg cs).cells.toList = cs.toList := rfl
  rw [hcells] at hf
  obtain ⟨q, hq, e⟩ := dec_px fuel cs.toList _ (by simpa using hsz) hf
  refine ⟨q, hq, ?_⟩
  obtain ⟨l⟩ := cs
  simp only at e
  rw [e]; rfl
set_option maxRecDepth 100000 in
theorem open_pxs {H : Type} {enc : TypeId × Value → H} {W : World} {r : Reach} {b0 : Nat} {v : Value} {d : DataW H} {p : List MemPlace}
    (hv : Value.okWide Try.prog W r b0 42 v) (h : DataW.Trod enc Try.prog W 0 (fun _ => true) true 42 v d p) : IsPxs W v := by
  obtain ⟨a, len, cap, rfl⟩ := okWide_slice Try.underlying42 hv
  obtain ⟨fuel, hf⟩ := h
  simp only [Value.cells] at hf
  exact recs_of (en := encP) (ok := Px.ok) (0, 0, 0, 0) Try.underlying42 cells_px (by omega) (fun _ => rfl) (fun fuel cs x hl hf => dec_px fuel cs x hl hf) hf
end Go.Proofs.Ytighlefajekloaa.OpenPx
