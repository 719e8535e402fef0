/- Package deflate: the state of a writer as New, Write and End leave it. -/
import Derived.Test.YtighlefajekloaaDefBc
set_option linter.unusedVariables false
set_option linter.unusedSimpArgs false
namespace Go.Proofs.Ytighlefajekloaa.DefCa
open Go.RowKit Go.Sort BitsM Base Low BitsW BitsX BitsS MapA DefM DefN DefO DefS DefT DefU DefV DefW DefX DefY DefZ DefBa DefBb DefBc Qb Qt Qp Rec
/-- what may have become of a writer, its kept bytes too -/
structure Evo (w : World) (s : Dg) (w' : World) (s' : Dg) : Prop where
  gW : s'.gW = s.gW
  gO : s'.gO = s.gO
  keeps : Keeps s.own w w'
  fresh : ∀ k, s'.own k → s.own k ∨ w.heap.size ≤ k
theorem Ev.o {w w' : World} {s s' : Dg} (h : Ev w s w' s') : Evo w s w' s' := ⟨h.gW, h.gO, h.keeps, h.fresh⟩
theorem Evo.refl (w : World) (s : Dg) : Evo w s w s := ⟨rfl, rfl, Keeps.refl _ _, fun _ h => .inl h⟩
theorem Evo.trans {w w1 w2 : World} {s s1 s2 : Dg} (h1 : Evo w s w1 s1) (h2 : Evo w1 s1 w2 s2) : Evo w s w2 s2 := by
  refine ⟨h2.gW.trans h1.gW, h2.gO.trans h1.gO, h1.keeps.trans h2.keeps h1.fresh, fun k hk => ?_⟩
  rcases h2.fresh k hk with h | h
  · exact h1.fresh k h
  · exact .inr (Nat.le_trans h1.keeps.size h)
theorem Evo.ext {w w1 w2 : World} {s s1 : Dg} (h : Evo w s w1 s1) (hb : Below w1.heap.size w1 w2) : Evo w s w2 s1 :=
  ⟨h.gW, h.gO, h.keeps.trans (Keeps.of_ext hb (fun _ => False)) (fun _ h => h.elim), h.fresh⟩
/-- more bytes kept -/
theorem Dk.more {base : Nat} {w w2 : World} {s : Dg} {V R T : Nat} {B b : List Nat} {M : Nat} {v' : Value} (h : Dk base w s V R T B M) (hv : Own .u8 256 5 base w2 v' (B ++ b)) (hg : w.grownBy w2 s.vK.ownBlock) (hvb : v'.ownBlock = s.vK.ownBlock ∨ ∀ b, v'.ownBlock = some b → w.heap.size ≤ b) (hW : s.gW < w.heap.size) (hM : M + 2 ≤ B.length ∨ M = 0) :
    Dk base w2 { s with vK := v' } V R T (B ++ b) M ∧ Keeps (fun k => s.vK.ownBlock = some k) w w2 ∧ (∀ k, ({ s with vK := v' } : Dg).own k → s.own k ∨ w.heap.size ≤ k) := by
  have hk : Keeps (fun k => s.vK.ownBlock = some k) w w2 := (Keeps.refl _ w).grown hg (fun k hk => .inl hk)
  have old : ∀ x k, x ≠ .k → s.blk x = some k → ¬ s.vK.ownBlock = some k := fun x k h1 hx e => h1 (h.apart x .k _ hx e)
  have hlt : ∀ x k, s.blk x = some k → k < w.heap.size := by
    intro x k hx
    by_cases e : x = .w
    · subst e; cases hx; exact hW
    · exact (h.low x k e hx).2
  have bl : ∀ x k, ({ s with vK := v' } : Dg).blk x = some k → s.blk x = some k ∨ (x = .k ∧ w.heap.size ≤ k) := by
    intro x k hx
    cases x with
    | k =>
      have hx2 : v'.ownBlock = some k := hx
      rcases hvb with h1 | h1
      · exact .inl (h1.symm.trans hx2)
      · exact .inr ⟨rfl, h1 k hx2⟩
    | w => exact .inl hx
    | o => exact .inl hx
    | ov => exact .inl hx
    | m => exact .inl hx
    | key v => exact .inl hx
  refine ⟨⟨h.wr.frame hk (fun k hf => by rcases hf with rfl | hf; exact old .o _ (by simp) rfl; exact old .ov _ (by simp) hf), hv, h.map_.keep (hk.block _ h.map_.lt (old .m _ (by simp) rfl)), fun a b' c h1 h2 h3 => ?_, ?_, h.lowW, h.lowM⟩, hk, ?_⟩
  · rw [plc_append B b M a b' c hM]
    exact (h.keys a b' c h1 h2 h3).frame hk (fun k hx => old (.key (k3 a b' c)) k (by simp) hx)
  · intro x y k hx hy
    rcases bl x k hx with h1 | ⟨h1, h2⟩ <;> rcases bl y k hy with h3 | ⟨h3, h4⟩
    · exact h.apart x y k h1 h3
    · have := hlt x k h1; omega
    · have := hlt y k h3; omega
    · rw [h1, h3]
  · rintro k ⟨x, hx⟩
    rcases bl x k hx with h1 | ⟨-, h2⟩
    · exact .inl ⟨x, h1⟩
    · exact .inr h2
theorem Ds.more {base : Nat} {w w2 : World} {s : Dg} {L : List Bool} {T : Nat} {B b : List Nat} {S N Z : Nat} {v' : Value} (h : Ds base w s false L T B S N Z) (hv : Own .u8 256 5 base w2 v' (B ++ b)) (hg : w.grownBy w2 s.vK.ownBlock) (hvb : v'.ownBlock = s.vK.ownBlock ∨ ∀ b, v'.ownBlock = some b → w.heap.size ≤ b) (hN : N = 0 ∨ N + 2 ≤ B.length) :
    Ds base (w2.setCell ⟨s.gW, 3, none⟩ v') { s with vK := v' } false L T (B ++ b) S N Z ∧ Evo w s (w2.setCell ⟨s.gW, 3, none⟩ v') { s with vK := v' } := by
  obtain ⟨V, R, h1, h2⟩ := h
  obtain ⟨h3, hk, hf⟩ := Dk.more h2.k hv hg hvb h2.row.lt (hN.symm)
  have hwk : ¬ s.vK.ownBlock = some s.gW := fun e => by have := h2.k.apart .w .k s.gW rfl e; cases this
  have hrow := (hk.block _ h2.row.lt hwk).trans h2.row.blk
  have hs := (Keeps.refl (fun k => k = s.gW) w2).setCell s.gW 3 v' (.inl rfl)
  refine ⟨⟨V, R, h1, ⟨⟨?_⟩, h3.frame hs (fun x q hx hq e => ?_)⟩⟩, rfl, rfl, ?_, hf⟩
  · exact heap_setCell_same w2 s.gW 3 _ _ v' hrow
  · subst e
    exact hx (h3.apart x .w _ hq rfl)
  · refine (hk.mono (fun k e => ⟨.k, e⟩)).trans hs (fun k e => .inl ⟨.w, by rw [e]; rfl⟩)
/-- taken -/
theorem Ds.take {base : Nat} {w : World} {s : Dg} {ended : Bool} {L : List Bool} {T : Nat} {B : List Nat} {S N Z : Nat} (h : Ds base w s ended L T B S N Z) (hL : L.length ≤ 562949953421312) :
    Calls Try.prog 52 #[.pointer (some ⟨s.gO, 0, none⟩)] w fun e w' => ∃ u s', e = .returned u ∧ (Nums .u8 256 w' u (outN L T) ∧ ∃ a n, u = .slice a n n) ∧ Ds base w' s' ended L (L.length / 8) B S N Z ∧ Ev w s w' s' ∧ (∀ k, u.ownBlock = some k → ¬ s'.own k ∧ s.own k) := by
  obtain ⟨V, R, h1, h2⟩ := h
  refine (take_any base s.gO V R T s.vO w h2.k.wr (by rw [← h1.len]; exact hL)).mono ?_
  rintro e w' ⟨u, v', rfl, ⟨hu, a, hut⟩, hw, hkp, hv, hub⟩
  obtain ⟨t1, t2, t3⟩ := h1.take
  have := Dw.bits h2 hw hkp hv
  have hout : bytesN V (R / 8) = outN L T := by unfold outN; rw [t3, h1.num]
  refine ⟨u, _, rfl, ⟨by rw [← hout]; exact hu, a, _, hut⟩, ⟨_, _, by rw [t2]; exact t1, by rw [t2]; exact this.1⟩, this.2, fun k hk => ?_⟩
  obtain ⟨hb1, hb2⟩ := hub k hk
  refine ⟨?_, ⟨.ov, hb1⟩⟩
  rintro ⟨x, hx⟩
  cases x with
  | ov => exact hb2 hx
  | w => have := h2.k.apart .ov .w k hb1 hx; cases this
  | o => have := h2.k.apart .ov .o k hb1 hx; cases this
  | k => have := h2.k.apart .ov .k k hb1 hx; cases this
  | m => have := h2.k.apart .ov .m k hb1 hx; cases this
  | key v => have := h2.k.apart .ov (.key v) k hb1 hx; cases this
/-- a writer to which some bytes were written -/
structure Ws (base : Nat) (w : World) (s : Dg) (B : List Nat) : Prop where
  ex : ∃ N, Ds base w s false (bitsW B) ((bitsW B).length / 8) B (4096 * nb B.length) N 0 ∧ N ≤ 4096 * nb B.length ∧ (N = 0 ∨ N + 2 ≤ B.length)
theorem Ws.frame {base : Nat} {w w' : World} {s : Dg} {B : List Nat} {D : Nat → Prop} (h : Ws base w s B) (hk : Keeps D w w') (hD : ∀ k, s.own k → ¬ D k) : Ws base w' s B := by
  obtain ⟨N, h1, h2⟩ := h
  exact ⟨N, h1.frame hk hD, h2⟩
theorem Ws.low {base : Nat} {w : World} {s : Dg} {B : List Nat} (h : Ws base w s B) : ∀ k, s.own k → base ≤ k ∧ k < w.heap.size := by
  obtain ⟨N, h1, h2⟩ := h
  exact h1.low
theorem chain_len2 (A : List Nat) (k : Nat) (h : 4096 * k ≤ A.length) : (chain A k).length ≤ 40 * k + 8 * (4096 * k) := by
  have := chain_len A k h
  have := al8_ge (chain A k).length
  omega
theorem bitsW_len (B : List Nat) : (bitsW B).length ≤ 9 * B.length := by
  have h := chain_len2 B (nb B.length) (nb_le _)
  have := nb_le B.length
  unfold bitsW
  omega
end Go.Proofs.Ytighlefajekloaa.DefCa
