/- Package deflate: what block asks beside the walk: fields fit their bits; how a writer's state goes on. -/
import Derived.Test.YtighlefajekloaaDefZ
set_option linter.unusedVariables false
set_option linter.unusedSimpArgs false
namespace Go.Proofs.Ytighlefajekloaa.DefBa
open Go.RowKit Go.Sort BitsM Base Low BitsW BitsX BitsS MapA DefM DefN DefO DefS DefT DefU DefV DefW DefX DefY DefZ Qb Qt Qp Rec
/-! ### fields fit -/
def Fit (f : Nat × Nat) : Prop := f.1 < 2 ^ f.2 ∧ f.2 ≤ 16
theorem fit_rev (n k : Nat) (hk : k ≤ 16) : Fit (revT n k) := by
  refine ⟨?_, hk⟩
  show num (rev n k) < 2 ^ k
  have := num_lt (rev n k)
  rwa [rev_len] at this
theorem fit_sym (s : Nat) : Fit (symT s) := by
  have h : (symF s).2 ≤ 16 := by unfold symF; split <;> (try split) <;> (try split) <;> simp
  refine ⟨?_, h⟩
  show num (symB s) < 2 ^ (symF s).2
  have := num_lt (symB s)
  rwa [symB_len] at this
theorem fit_tok (t : Tok) (h : okT t) : ∀ f ∈ tokT t, Fit f := by
  intro f hf
  cases t with
  | lit b =>
    simp only [tokT, List.mem_singleton] at hf
    rw [hf]; exact fit_sym b
  | mat n d =>
    obtain ⟨h1, h2, h3, h4⟩ := h
    have hd := dst_facts d h3 h4
    have hw : wideD (findF dstT d) ≤ 16 := by unfold wideD; omega
    unfold tokT at hf
    rw [List.mem_append] at hf
    rcases hf with hf | hf
    · by_cases c : n = 258
      · rw [if_pos c, List.mem_singleton] at hf
        rw [hf]; exact fit_sym _
      · rw [if_neg c] at hf
        have hl := len_facts n h1 (by omega)
        simp only [List.mem_cons, List.mem_nil_iff, or_false] at hf
        rcases hf with rfl | rfl
        · exact fit_sym _
        · exact ⟨hl.2.2.1, by show wideL _ ≤ 16; unfold wideL; omega⟩
    · simp only [List.mem_cons, List.mem_nil_iff, or_false] at hf
      rcases hf with rfl | rfl
      · exact fit_rev _ _ (by omega)
      · exact ⟨hd.2.2.1, hw⟩
theorem fit_blk (last : Nat) (hlast : last < 2) (l : List Tok) (h : ∀ t ∈ l, okT t) : ∀ f ∈ blkT last l, Fit f := by
  intro f hf
  unfold blkT at hf
  simp only [List.mem_cons, List.mem_append, List.mem_flatMap, List.mem_nil_iff, or_false] at hf
  rcases hf with rfl | rfl | ⟨t, ht, hf⟩ | rfl
  · exact ⟨hlast, by show (1 : Nat) ≤ 16; omega⟩
  · exact ⟨by decide, by decide⟩
  · exact fit_tok t (h t ht) f hf
  · exact fit_sym _
theorem tok_len (t : Tok) : (tokT t).length ≤ 4 := by
  cases t with
  | lit b => simp [tokT]
  | mat n d => by_cases c : n = 258 <;> simp [tokT, c]
/-! ### a writer's state, and what may have become of it -/
/-- with the bits said so far -/
structure Ds (base : Nat) (w : World) (s : Dg) (ended : Bool) (L : List Bool) (T : Nat) (B : List Nat) (S N Z : Nat) : Prop where
  ex : ∃ V R, Rel L V R T ∧ Dw base w s ended V R T B S N Z
structure Ev (w : World) (s : Dg) (w' : World) (s' : Dg) : Prop where
  gW : s'.gW = s.gW
  gO : s'.gO = s.gO
  gM : s'.gM = s.gM
  vK : s'.vK = s.vK
  keeps : Keeps s.own w w'
  fresh : ∀ k, s'.own k → s.own k ∨ w.heap.size ≤ k
theorem Ev.refl (w : World) (s : Dg) : Ev w s w s := ⟨rfl, rfl, rfl, rfl, Keeps.refl _ _, fun _ h => .inl h⟩
theorem Ev.trans {w w1 w2 : World} {s s1 s2 : Dg} (h1 : Ev w s w1 s1) (h2 : Ev w1 s1 w2 s2) : Ev w s w2 s2 := by
  refine ⟨h2.gW.trans h1.gW, h2.gO.trans h1.gO, h2.gM.trans h1.gM, h2.vK.trans h1.vK, h1.keeps.trans h2.keeps h1.fresh, fun k hk => ?_⟩
  rcases h2.fresh k hk with h | h
  · exact h1.fresh k h
  · exact .inr (Nat.le_trans h1.keeps.size h)
theorem Ev.ext {w w1 w2 : World} {s s1 : Dg} (h : Ev w s w1 s1) (hb : Below w1.heap.size w1 w2) : Ev w s w2 s1 :=
  ⟨h.gW, h.gO, h.gM, h.vK, h.keeps.trans (Keeps.of_ext hb (fun _ => False)) (fun _ h => h.elim), h.fresh⟩
theorem Ev.other {w w1 w2 : World} {s s1 : Dg} {D : Nat → Prop} (h : Ev w s w1 s1) (hk : Keeps D w1 w2) (hD : ∀ k, D k → w.heap.size ≤ k) : Ev w s w2 s1 :=
  ⟨h.gW, h.gO, h.gM, h.vK, h.keeps.trans hk (fun k hd => .inr (hD k hd)), h.fresh⟩
theorem Ds.ext {base : Nat} {w w' : World} {s : Dg} {ended : Bool} {L : List Bool} {T : Nat} {B : List Nat} {S N Z : Nat} (h : Ds base w s ended L T B S N Z) (hb : Below w.heap.size w w') : Ds base w' s ended L T B S N Z := by
  obtain ⟨V, R, h1, h2⟩ := h
  exact ⟨V, R, h1, h2.ext hb⟩
theorem Ds.frame {base : Nat} {w w' : World} {s : Dg} {ended : Bool} {L : List Bool} {T : Nat} {B : List Nat} {S N Z : Nat} {D : Nat → Prop} (h : Ds base w s ended L T B S N Z) (hk : Keeps D w w') (hD : ∀ k, s.own k → ¬ D k) : Ds base w' s ended L T B S N Z := by
  obtain ⟨V, R, h1, h2⟩ := h
  exact ⟨V, R, h1, h2.frame hk (fun x b hx => hD b ⟨x, hx⟩)⟩
theorem Ds.low {base : Nat} {w : World} {s : Dg} {ended : Bool} {L : List Bool} {T : Nat} {B : List Nat} {S N Z : Nat} (h : Ds base w s ended L T B S N Z) : ∀ k, s.own k → base ≤ k ∧ k < w.heap.size := by
  obtain ⟨V, R, h1, h2⟩ := h
  rintro k ⟨x, hx⟩
  exact h2.low x k hx
theorem Ds.row {base : Nat} {w : World} {s : Dg} {ended : Bool} {L : List Bool} {T : Nat} {B : List Nat} {S N Z : Nat} (h : Ds base w s ended L T B S N Z) : RowW w s ended S N Z := by
  obtain ⟨V, R, h1, h2⟩ := h
  exact h2.row
theorem Ds.kept {base : Nat} {w : World} {s : Dg} {ended : Bool} {L : List Bool} {T : Nat} {B : List Nat} {S N Z : Nat} (h : Ds base w s ended L T B S N Z) : Own .u8 256 5 base w s.vK B := by
  obtain ⟨V, R, h1, h2⟩ := h
  exact h2.k.kept
/-- the bits writer goes on -/
theorem Dk.bits {base : Nat} {w w' : World} {s : Dg} {V R T V' R' T' : Nat} {B : List Nat} {M : Nat} {v' : Value} (h : Dk base w s V R T B M) (hw : Wr base w' s.gO v' V' R' T') (hk : Keeps (fp s.gO s.vO) w w') (hv : v'.ownBlock = s.vO.ownBlock ∨ ∀ b, v'.ownBlock = some b → w.heap.size ≤ b) (hW : s.gW < w.heap.size) :
    Dk base w' { s with vO := v' } V' R' T' B M := by
  have old : ∀ x k, x ≠ .o → x ≠ .ov → s.blk x = some k → ¬ fp s.gO s.vO k := by
    rintro x k h1 h2 hx (rfl | e)
    · exact h1 (h.apart x .o _ hx rfl)
    · exact h2 (h.apart x .ov _ hx e)
  have hlt : ∀ x k, s.blk x = some k → k < w.heap.size := by
    intro x k hx
    by_cases e : x = .w
    · subst e; cases hx; exact hW
    · exact (h.low x k e hx).2
  refine ⟨hw, h.kept.frame hk (fun k hx => old .k k (by simp) (by simp) hx), h.map_.keep (hk.block _ h.map_.lt (old .m _ (by simp) (by simp) rfl)), fun a b c h1 h2 h3 => (h.keys a b c h1 h2 h3).frame hk (fun k hx => old (.key (k3 a b c)) k (by simp) (by simp) hx), ?_, h.lowW, h.lowM⟩
  have bl : ∀ x k, ({ s with vO := v' } : Dg).blk x = some k → s.blk x = some k ∨ (x = .ov ∧ w.heap.size ≤ k) := by
    intro x k hx
    cases x with
    | ov =>
      have hx2 : v'.ownBlock = some k := hx
      rcases hv with h1 | h1
      · exact .inl (h1.symm.trans hx2)
      · exact .inr ⟨rfl, h1 k hx2⟩
    | w => exact .inl hx
    | o => exact .inl hx
    | k => exact .inl hx
    | m => exact .inl hx
    | key v => exact .inl hx
  intro x y k hx hy
  rcases bl x k hx with h1 | ⟨h1, h2⟩ <;> rcases bl y k hy with h3 | ⟨h3, h4⟩
  · exact h.apart x y k h1 h3
  · have := hlt x k h1; omega
  · have := hlt y k h3; omega
  · rw [h1, h3]
theorem Dw.bits {base : Nat} {w w' : World} {s : Dg} {ended : Bool} {V R T V' R' T' : Nat} {B : List Nat} {S N Z : Nat} {v' : Value} (h : Dw base w s ended V R T B S N Z) (hw : Wr base w' s.gO v' V' R' T') (hk : Keeps (fp s.gO s.vO) w w') (hv : v'.ownBlock = s.vO.ownBlock ∨ ∀ b, v'.ownBlock = some b → w.heap.size ≤ b) :
    Dw base w' { s with vO := v' } ended V' R' T' B S N Z ∧ Ev w s w' { s with vO := v' } := by
  refine ⟨⟨?_, Dk.bits h.k hw hk hv h.row.lt⟩, ⟨rfl, rfl, rfl, rfl, hk.mono ?_, ?_⟩⟩
  · exact ⟨(hk.block _ h.row.lt (fun hf => by
      rcases hf with e | e
      · have := h.k.apart .w .o _ rfl (congrArg some e.symm); cases this
      · have := h.k.apart .w .ov _ rfl e; cases this)).trans h.row.blk⟩
  · rintro k (rfl | e)
    · exact ⟨.o, rfl⟩
    · exact ⟨.ov, e⟩
  · rintro k ⟨x, hx⟩
    cases x with
    | ov =>
      have hx2 : v'.ownBlock = some k := hx
      rcases hv with h1 | h1
      · exact .inl ⟨.ov, h1.symm.trans hx2⟩
      · exact .inr (h1 k hx2)
    | w => exact .inl ⟨.w, hx⟩
    | o => exact .inl ⟨.o, hx⟩
    | k => exact .inl ⟨.k, hx⟩
    | m => exact .inl ⟨.m, hx⟩
    | key v => exact .inl ⟨.key v, hx⟩
/-- a number put -/
theorem Ds.put {base : Nat} {w : World} {s : Dg} {ended : Bool} {L : List Bool} {T : Nat} {B : List Nat} {S N Z : Nat} (h : Ds base w s ended L T B S N Z) (n k : Nat) (hk : k ≤ 32) (hn : n < 2 ^ k) (hL : L.length ≤ 562949953421312) :
    Calls Try.prog 63 #[.pointer (some ⟨s.gO, 0, none⟩), .int .u32 (n : Int), .int .i64 (k : Int)] w fun e w' => e = .returned (.int .i64 0) ∧ ∃ s', Ds base w' s' ended (L ++ bitsOf n k) T B S N Z ∧ Ev w s w' s' := by
  obtain ⟨V, R, h1, h2⟩ := h
  refine (put_any base s.gO V R T s.vO w h2.k.wr n k hk hn (by rw [← h1.len]; exact hL)).mono ?_
  rintro e w' ⟨rfl, v', hw, hkp, hv⟩
  have := Dw.bits h2 hw hkp hv
  exact ⟨rfl, _, ⟨_, _, h1.put n k hn, this.1⟩, this.2⟩
theorem Ds.align {base : Nat} {w : World} {s : Dg} {ended : Bool} {L : List Bool} {T : Nat} {B : List Nat} {S N Z : Nat} (h : Ds base w s ended L T B S N Z) (hL : L.length ≤ 562949953421312) :
    Calls Try.prog 53 #[.pointer (some ⟨s.gO, 0, none⟩)] w fun e w' => e = .returned (.int .i64 0) ∧ ∃ s', Ds base w' s' ended (alig L) T B S N Z ∧ Ev w s w' s' := by
  obtain ⟨V, R, h1, h2⟩ := h
  refine (align_any base s.gO V R T s.vO w h2.k.wr (by rw [← h1.len]; exact hL)).mono ?_
  rintro e w' ⟨rfl, v', hw, hkp, hv⟩
  have := Dw.bits h2 hw hkp hv
  exact ⟨rfl, _, ⟨_, _, h1.align, this.1⟩, this.2⟩
theorem Ds.bits {base : Nat} {w : World} {s : Dg} {ended : Bool} {L : List Bool} {T : Nat} {B : List Nat} {S N Z : Nat} (h : Ds base w s ended L T B S N Z) :
    Calls Try.prog 62 #[.pointer (some ⟨s.gO, 0, none⟩)] w fun e w' => e = .returned (.int .i64 ((L.length : Nat) : Int)) ∧ w = w' := by
  obtain ⟨V, R, h1, h2⟩ := h
  rw [h1.len]
  exact bits_any base s.gO V R T s.vO w h2.k.wr
theorem Ds.match_ {base : Nat} {w : World} {s : Dg} {L : List Bool} {T : Nat} {B : List Nat} {S N Z : Nat} (h : Ds base w s false L T B S N Z) (i b : Nat) (hib : i ≤ b) (hb : b ≤ B.length) (hB : B.length ≤ 100000) (hNi : N ≤ i) (hN : N = 0 ∨ N + 2 ≤ B.length) :
    Calls Try.prog 59 #[.pointer (some ⟨s.gW, 0, none⟩), .int .i64 (i : Int), .int .i64 (b : Int)] w fun e w' => ∃ n d s' N', e = .returned (.tuple #[.int .i64 ((n : Nat) : Int), .int .i64 ((d : Nat) : Int)]) ∧ Ds base w' s' false L T B S N' Z ∧ Ev w s w' s' ∧ N' ≤ i ∧ (N' = 0 ∨ N' + 2 ≤ B.length) ∧
      ((3 ≤ (matchF B i b).1 ∧ (n, d) = matchF B i b) ∨ (¬ 3 ≤ (matchF B i b).1 ∧ n < 3)) := by
  obtain ⟨V, R, h1, h2⟩ := h
  refine (match_any base w s V R T B S N Z h2 i b hib hb hB hNi hN).mono ?_
  rintro e w' ⟨n, d, P', N', he, hn, h3, h4, h5⟩
  exact ⟨n, d, _, N', he, ⟨V, R, h1, hn.dw⟩, ⟨rfl, rfl, rfl, rfl, hn.keeps, hn.fresh⟩, h3, h4, h5⟩
theorem prune_ds {base : Nat} {w : World} {s : Dg} {ended : Bool} {L : List Bool} {T : Nat} {B : List Nat} {S N Z : Nat} (h : Ds base w s ended L T B S N Z) (hZ : Z ≤ S) (hS : S < Z + 32768) (hS2 : S ≤ 100000) :
    Calls Try.prog 58 #[.pointer (some ⟨s.gW, 0, none⟩)] w fun e w' => e = .returned (.tuple #[]) ∧ ∃ s', Ds base w' s' ended L T B S N Z ∧ Ev w s w' s' := by
  refine (prune_small w s ended S N Z h.row hZ hS hS2).mono ?_
  rintro e w' ⟨rfl, hb⟩
  exact ⟨rfl, s, h.ext hb, (Ev.refl w s).ext hb⟩
end Go.Proofs.Ytighlefajekloaa.DefBa
