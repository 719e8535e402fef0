import Derived.Test.YtdaokkgenfpmhaaFa
import Derived.ProofKit
import Derived.OpenShut
import Derived.Test.YtdaokkgenfpmhaaRows
import Derived.Test.YtdaokkgenfpmhaaVe
import Derived.Deep.Strs
import Derived.Test.YtdaokkgenfpmhaaMe
/- From the form's own reading of an argument to this seat's words: a slice of bytes that came in reads as a list of numbers. -/
set_option linter.unusedVariables false
set_option linter.unusedSimpArgs false
namespace Go.Proofs.Ytdaokkgenfpmhaa.Row
open Go.RowKit Base

theorem wf_u8 {n : Int} (h : (Lit.int .u8 n).wf = true) : 0 ≤ n ∧ n ≤ 255 := by simpa [Lit.wf, IntKind.min, IntKind.max, IntKind.signed, IntKind.bits] using h
theorem wf_u32 {n : Int} (h : (Lit.int .u32 n).wf = true) : 0 ≤ n ∧ n ≤ 4294967295 := by simpa [Lit.wf, IntKind.min, IntKind.max, IntKind.signed, IntKind.bits] using h
theorem wf_i64 {n : Int} (h : (Lit.int .i64 n).wf = true) : -9223372036854775808 ≤ n ∧ n ≤ 9223372036854775807 := by simpa [Lit.wf, IntKind.min, IntKind.max, IntKind.signed, IntKind.bits] using h
theorem nat_u8 {n : Int} (h : (Lit.int .u8 n).wf = true) : ∃ x : Nat, n = (x : Int) ∧ x < 256 := ⟨n.toNat, by have := wf_u8 h; omega, by have := wf_u8 h; omega⟩
theorem nat_u32 {n : Int} (h : (Lit.int .u32 n).wf = true) : ∃ x : Nat, n = (x : Int) ∧ x ≤ 4294967295 := ⟨n.toNat, by have := wf_u32 h; omega, by have := wf_u32 h; omega⟩

theorem nums_u8 {w : World} {a : Option Addr} {len cap : Nat} {zs : List Int}
    (h : (a = none ∧ len = 0 ∧ cap = 0 ∧ zs = []) ∨ ∃ x, a = some x ∧ len ≤ cap ∧ cap ≤ maxLen ∧ zs.length = cap ∧ (∀ i, i < zs.length → w.cell? (x.add i) = some (.int .u8 (zs.getD i 0))) ∧ ∀ n ∈ zs, (Lit.int .u8 n).wf = true) :
    ∃ l : List Nat, len = l.length ∧ Nums .u8 256 w (.slice a len cap) l := by
  rcases h with ⟨rfl, rfl, rfl, rfl⟩ | ⟨x, rfl, h1, h2, h3, h4, h5⟩
  · exact ⟨[], rfl, Nums.nil _ _ _⟩
  · have hlen : ((zs.take len).map Int.toNat).length = len := by simp; omega
    refine ⟨(zs.take len).map Int.toNat, hlen.symm, ⟨⟨_, cap, by rw [hlen], by omega, h2, fun e => by simp at e⟩, ?_, ?_⟩⟩
    · intro y hy
      simp only [List.mem_map] at hy
      obtain ⟨n, hn, rfl⟩ := hy
      have := wf_u8 (h5 n (List.mem_of_mem_take hn))
      omega
    · intro hne
      have hpos : 0 < len := by
        rcases Nat.eq_zero_or_pos len with h | h
        · subst h; simp at hne
        · exact h
      obtain ⟨b, off, spot⟩ := x
      have hc := h4 0 (by omega)
      have hspot : spot = none := by simpa [Addr.add] using World.cell?_spot hc
      subst hspot
      refine ⟨b, off, cap, by rw [hlen], ?_, ?_⟩
      · have := block_lt_of_cell hc
        simpa [Addr.add] using this
      · intro i hi
        rw [hlen] at hi
        have hci := h4 i (by omega)
        have e1 : ((⟨b, off, none⟩ : Addr).add i) = ⟨b, off + i, none⟩ := by unfold Addr.add; split <;> simp_all
        rw [e1] at hci
        rw [hci]
        have hiz : i < zs.length := by omega
        have hn := wf_u8 (h5 zs[i] (List.getElem_mem hiz))
        simp only [List.getElem_map, List.getElem_take, List.getD_eq_getElem?_getD, List.getElem?_eq_getElem hiz, Option.getD_some]
        congr 2
        omega
end Go.Proofs.Ytdaokkgenfpmhaa.Row

/- From the form's own reading of an argument to this seat's words: a point by value. -/
set_option linter.unusedVariables false
set_option linter.unusedSimpArgs false
namespace Go.Proofs.Ytdaokkgenfpmhaa.OpenVec
open Go.RowKit Go.Deep Go.ChangeShapes Go.WideShapes Go.ChangeAt Base Go.Proofs.Ytdaokkgenfpmhaa.Row VecW FixM

def IsVec (w : World) (v : Value) : Prop := ∃ a : V3, a.ok ∧ v = vecV a
set_option maxRecDepth 100000 in
theorem open_vec {H : Type} {enc : TypeId × Value → H} {W : World} {r : Reach} {b0 : Nat} {v : Value} {d : DataW H} {p : List MemPlace}
    (hv : Value.okWide Try.prog W r b0 23 v) (h : DataW.Trod enc Try.prog W 0 (fun _ => true) true 23 v d p) : IsVec W v := by
  obtain ⟨cs, rfl, hsz⟩ := okWide_struct Try.underlying23 hv
  have hc : Try.prog.cellsOf 23 = 3 := by kernel_rfl
  have hc1 : Try.prog.cellsOf 2 = 1 := by kernel_rfl
  rw [hc] at hsz
  obtain ⟨fuel, hf⟩ := h
  obtain ⟨y0, y1, y2, n', _, hlen, t0, t1, t2⟩ := trod_struct3 Try.underlying23 hf
  have hl : cs.toList.length = 3 := by simpa using hsz
  have hcells : (Value.agg cs).cells.toList = cs.toList := rfl
  obtain ⟨l⟩ := cs
  match l, hl with
  | [v0, v1, v2], _ =>
    simp only [Value.cells, hc1, List.drop_zero, List.drop_succ_cons, List.take_succ_cons, List.take_zero] at t0 t1 t2
    obtain ⟨z0, e0, _, w0⟩ := DataW.trod_int Try.underlying2 t0
    obtain ⟨z1, e1, _, w1⟩ := DataW.trod_int Try.underlying2 t1
    obtain ⟨z2, e2, _, w2⟩ := DataW.trod_int Try.underlying2 t2
    simp only [List.cons.injEq, and_true] at e0 e1 e2
    subst e0 e1 e2
    exact ⟨⟨z0, z1, z2⟩, ⟨wf_i64 w0, wf_i64 w1, wf_i64 w2⟩, rfl⟩
end Go.Proofs.Ytdaokkgenfpmhaa.OpenVec

/- From the form's own reading of an argument to this seat's words: a mesh (three slices of records). -/
set_option linter.unusedVariables false
set_option linter.unusedSimpArgs false
namespace Go.Proofs.Ytdaokkgenfpmhaa.OpenMesh
open Go.RowKit Go.Deep Go.ChangeShapes Go.WideShapes Go.ChangeAt Base Go.Proofs.Ytdaokkgenfpmhaa.Row VecW FixM MeshM Rec

theorem add_flat (a : Addr) (hs : a.spot = none) (i : Nat) : a.add i = ⟨a.block, a.off + i, none⟩ := by
  obtain ⟨b, o, s⟩ := a
  subst hs
  unfold Addr.add; split <;> simp_all
theorem recs_of {α H : Type} {enc : TypeId × Value → H} {P : Program} {W : World} {base fuel : Nat} {held : Bool} (z : α) {T E : TypeId} {c : Nat} {en : α → List Value} {ok : α → Prop} (hT : P.underlying T = some (.slice E)) (hc : P.cellsOf E = c) (hpos : 0 < c) (hlen : ∀ x, (en x).length = c)
    (dec : ∀ (fuel : Nat) (cs : List Value) (x : DataW H × List MemPlace), cs.length = c → DataW.trod enc P W base (fun _ => true) held fuel E cs = some x → ∃ e : α, ok e ∧ cs = en e)
    {v : Value} {x : DataW H × List MemPlace} (h : DataW.trod enc P W base (fun _ => true) held fuel T [v] = some x) : ∃ l : List α, (∀ e ∈ l, ok e) ∧ Recs c en W v l := by
  rcases open_slice hT h with ⟨hcs, _⟩ | ⟨ad, l, cap, m, n, D, Pl, hcs, hb, hl, hm, hmm, _, hx⟩
  · simp only [List.cons.injEq, and_true] at hcs
    subst hcs
    exact ⟨[], by simp, Recs.nil W⟩
  · simp only [List.cons.injEq, and_true] at hcs
    subst hcs
    simp only [if_true] at hmm
    subst hmm
    rw [hc] at hx
    have each : ∀ i, i < m → ∃ e : α, ok e ∧ ∀ k, k < c → W.cell? ((ad.add (i * c)).add k) = (en e)[k]? := by
      intro i hi
      obtain ⟨cs', h1, h2⟩ := hx i hi
      obtain ⟨_, hln, hcell⟩ := World.cells?_some h1
      obtain ⟨e, he, rfl⟩ := dec _ _ _ hln h2
      exact ⟨e, he, hcell⟩
    haveI : Inhabited α := ⟨z⟩
    obtain ⟨f, hf⟩ := choose_lt each
    refine ⟨(List.range l).map f, ?_, ⟨⟨some ad, m, by simp, by simpa using hl, hm, fun e => by simp at e⟩, ?_⟩⟩
    · intro e he
      simp only [List.mem_map, List.mem_range] at he
      obtain ⟨i, hi, rfl⟩ := he
      exact (hf i (by omega)).1
    · intro hne
      have hl0 : 0 < l := by
        rcases Nat.eq_zero_or_pos l with h | h
        · subst h; simp at hne
        · exact h
      have h0 := (hf 0 (by omega)).2 0 hpos
      rw [List.getElem?_eq_getElem (by rw [hlen]; exact hpos)] at h0
      have hspot : ad.spot = none := by
        have := World.cell?_spot h0
        simpa [Addr.add] using this
      have hblk : ad.block < W.heap.size := by
        have := block_lt_of_cell h0
        simpa [Addr.add] using this
      refine ⟨ad.block, ad.off, m, ?_, hblk, ?_⟩
      · obtain ⟨b, o, s⟩ := ad; simp only at hspot; subst hspot; simp
      · intro i hi k y hy
        simp only [List.length_map, List.length_range] at hi
        have hk : k < c := by
          rcases Nat.lt_or_ge k c with h | h
          · exact h
          · rw [List.getElem?_eq_none (by rw [hlen]; exact h)] at hy; simp at hy
        have hfi := (hf i (by omega)).2 k hk
        simp only [List.getElem_map, List.getElem_range] at hy
        rw [hy, Deep.add_add, add_flat ad hspot] at hfi
        rw [Nat.add_assoc]; exact hfi
theorem cells_vec : Try.prog.cellsOf 23 = 3 := by kernel_rfl
theorem cells_ball : Try.prog.cellsOf 71 = 4 := by kernel_rfl
theorem cells_tri : Try.prog.cellsOf 68 = 3 := by kernel_rfl
theorem cells_i64 : Try.prog.cellsOf 2 = 1 := by kernel_rfl
theorem cells_int : Try.prog.cellsOf 3 = 1 := by kernel_rfl
section
variable {H : Type} {enc : TypeId × Value → H} {W : World} {b0 : Nat} {sp : Nat → Bool} {hd : Bool}
theorem part_of {t : TypeId} {fuel : Nat} {cs : List Value} {x : DataW H × List MemPlace} {fs : Array Field} (ht : Try.prog.underlying t = some (.struct fs)) (h : DataW.trod enc Try.prog W b0 sp hd fuel t cs = some x) :
    ∃ n, ∀ (i : Nat) (f : Field), fs[i]? = some f → ∃ y, DataW.trod enc Try.prog W b0 sp hd n f.type ((cs.drop f.offset).take (Try.prog.cellsOf f.type)) = some y := by
  obtain ⟨xs, n, _, _, _, hl, hf⟩ := DataW.trod_struct ht h
  refine ⟨n, fun i f hi => ?_⟩
  have hlt : i < xs.length := by rw [hl]; exact (Array.getElem?_eq_some_iff.1 hi).1
  exact ⟨xs[i], by rw [hf i f hi, List.getElem?_eq_getElem hlt]⟩
theorem dec_vec (fuel : Nat) (cs : List Value) (x : DataW H × List MemPlace) (hl : cs.length = 3) (h : DataW.trod enc Try.prog W b0 sp hd fuel 23 cs = some x) : ∃ v : V3, v.ok ∧ cs = MeshA.enc3 v := by
  match cs, hl with
  | [a, b, c], _ =>
    obtain ⟨n, hf⟩ := part_of Try.underlying23 h
    obtain ⟨y0, t0⟩ := hf 0 _ rfl
    obtain ⟨y1, t1⟩ := hf 1 _ rfl
    obtain ⟨y2, t2⟩ := hf 2 _ rfl
    simp only [cells_i64, List.drop_zero, List.drop_succ_cons, List.take_succ_cons, List.take_zero, List.getElem_toArray, List.getElem_cons_zero, List.getElem_cons_succ] at t0 t1 t2
    obtain ⟨z0, e0, _, w0⟩ := DataW.trod_int Try.underlying2 t0
    obtain ⟨z1, e1, _, w1⟩ := DataW.trod_int Try.underlying2 t1
    obtain ⟨z2, e2, _, w2⟩ := DataW.trod_int Try.underlying2 t2
    simp only [List.cons.injEq, and_true] at e0 e1 e2
    exact ⟨⟨z0, z1, z2⟩, ⟨wf_i64 w0, wf_i64 w1, wf_i64 w2⟩, by rw [e0, e1, e2]; rfl⟩
theorem dec_tri (fuel : Nat) (cs : List Value) (x : DataW H × List MemPlace) (hl : cs.length = 3) (h : DataW.trod enc Try.prog W b0 sp hd fuel 68 cs = some x) : ∃ v : V3, v.ok ∧ cs = MeshA.enc3 v := by
  match cs, hl with
  | [a, b, c], _ =>
    obtain ⟨xs, m, _, _, hlen, hxs, hx⟩ := DataW.trod_array Try.underlying68 h
    have t0 := hx 0 (by omega)
    have t1 := hx 1 (by omega)
    have t2 := hx 2 (by omega)
    rw [List.getElem?_eq_getElem (by omega)] at t0 t1 t2
    simp only [cells_int, Nat.zero_mul, Nat.one_mul, Nat.mul_one, List.drop_zero, List.drop_succ_cons, List.take_succ_cons, List.take_zero] at t0 t1 t2
    obtain ⟨z0, e0, _, w0⟩ := DataW.trod_int Try.underlying3 t0
    obtain ⟨z1, e1, _, w1⟩ := DataW.trod_int Try.underlying3 t1
    obtain ⟨z2, e2, _, w2⟩ := DataW.trod_int Try.underlying3 t2
    simp only [List.cons.injEq, and_true] at e0 e1 e2
    exact ⟨⟨z0, z1, z2⟩, ⟨wf_i64 w0, wf_i64 w1, wf_i64 w2⟩, by rw [e0, e1, e2]; rfl⟩
theorem dec_ball (fuel : Nat) (cs : List Value) (x : DataW H × List MemPlace) (hl : cs.length = 4) (h : DataW.trod enc Try.prog W b0 sp hd fuel 71 cs = some x) : ∃ v : B4, (v.c.ok ∧ In v.r) ∧ cs = MeshA.enc4 v := by
  match cs, hl with
  | [a, b, c, d], _ =>
    obtain ⟨n, hf⟩ := part_of Try.underlying71 h
    obtain ⟨y0, t0⟩ := hf 0 _ rfl
    obtain ⟨y1, t1⟩ := hf 1 _ rfl
    simp only [cells_vec, cells_i64, List.drop_zero, List.drop_succ_cons, List.take_succ_cons, List.take_zero, List.getElem_toArray, List.getElem_cons_zero, List.getElem_cons_succ] at t0 t1
    obtain ⟨v, hv, e⟩ := dec_vec _ _ _ rfl t0
    simp only [MeshA.enc3, List.cons.injEq, and_true] at e
    obtain ⟨z1, e1, _, w1⟩ := DataW.trod_int Try.underlying2 t1
    simp only [List.cons.injEq, and_true] at e1
    exact ⟨⟨v, z1⟩, ⟨hv, wf_i64 w1⟩, by rw [e.1, e.2.1, e.2.2, e1]; rfl⟩
end
def IsMesh (w : World) (v : Value) : Prop := ∃ m : Msh, m.ok ∧ MeshA.IsMesh w v m
set_option maxRecDepth 100000 in
theorem open_mesh {H : Type} {enc : TypeId × Value → H} {W : World} {r : Reach} {b0 : Nat} {v : Value} {d : DataW H} {p : List MemPlace}
    (hv : Value.okWide Try.prog W r b0 31 v) (h : DataW.Trod enc Try.prog W 0 (fun _ => true) true 31 v d p) : IsMesh W v := by
  obtain ⟨cs, rfl, hsz⟩ := okWide_struct Try.underlying31 hv
  have hc : Try.prog.cellsOf 31 = 3 := by kernel_rfl
  have hc0 : Try.prog.cellsOf 27 = 1 := by kernel_rfl
  have hc1 : Try.prog.cellsOf 28 = 1 := by kernel_rfl
  have hc2 : Try.prog.cellsOf 29 = 1 := by kernel_rfl
  rw [hc] at hsz
  obtain ⟨fuel, hf0⟩ := h
  obtain ⟨n, hf⟩ := part_of Try.underlying31 hf0
  clear hf0 hv hc
  obtain ⟨l⟩ := cs
  match l, hsz with
  | [v0, v1, v2], _ =>
    obtain ⟨y0, t0⟩ := hf 0 _ rfl
    obtain ⟨y1, t1⟩ := hf 1 _ rfl
    obtain ⟨y2, t2⟩ := hf 2 _ rfl
    simp only [Value.cells, hc0, hc1, hc2, List.drop_zero, List.drop_succ_cons, List.take_succ_cons, List.take_zero, List.getElem_toArray, List.getElem_cons_zero, List.getElem_cons_succ] at t0 t1 t2
    obtain ⟨ps, o0, r0⟩ := recs_of (⟨0, 0, 0⟩ : V3) (ok := V3.ok) Try.underlying27 cells_vec (by decide) MeshA.len3 dec_vec t0
    obtain ⟨ts, o1, r1⟩ := recs_of (⟨0, 0, 0⟩ : V3) (ok := V3.ok) Try.underlying28 cells_tri (by decide) MeshA.len3 dec_tri t1
    obtain ⟨bs, o2, r2⟩ := recs_of (⟨⟨0, 0, 0⟩, 0⟩ : B4) (ok := fun b => b.c.ok ∧ In b.r) Try.underlying29 cells_ball (by decide) MeshA.len4 dec_ball t2
    exact ⟨⟨ps, ts, bs⟩, ⟨o0, o1, o2⟩, ⟨⟨v0, v1, v2, rfl, r0, r1, r2⟩⟩⟩
end Go.Proofs.Ytdaokkgenfpmhaa.OpenMesh
