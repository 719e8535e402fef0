/- Package deflate: block: what stands at each point of its loops. -/
import Derived.Test.YtighlefajekloaaDefBa
set_option linter.unusedVariables false
set_option linter.unusedSimpArgs false
namespace Go.Proofs.Ytighlefajekloaa.DefBb
open Go.RowKit Go.Sort BitsM Base Low BitsW BitsX BitsS MapA DefM DefN DefO DefS DefT DefU DefV DefW DefX DefY DefZ DefBa Qb Qt Qp Rec
structure Lp (base : Nat) (w : World) (s : Dg) (L : List Bool) (T : Nat) (B : List Nat) (S Z g6 : Nat) (row : Array Value) (wr : World) (s1 : Dg) (N1 : Nat) (vf : Value) (l : List (Nat × Nat)) : Prop where
  ds : Ds base wr s1 false L T B S N1 Z
  ev : Ev w s wr s1
  rec_ : RecsOwn 2 encF 106 w.heap.size wr vf l
  dis : ∀ k, vf.ownBlock = some k → ¬ s1.own k ∧ ¬ k = g6
  h6 : wr.heap[g6]? = some (.cells row 106)
  n6 : ¬ s1.own g6
  low6 : w.heap.size ≤ g6
section
variable {base : Nat} {w : World} {s : Dg} {L L' : List Bool} {T : Nat} {B : List Nat} {S Z Z' g6 : Nat} {row : Array Value} {wr : World} {s1 : Dg} {N1 : Nat} {vf : Value} {l : List (Nat × Nat)}
theorem Lp.step (h : Lp base w s L T B S Z g6 row wr s1 N1 vf l) {w' : World} {s2 : Dg} {N2 : Nat} (hd : Ds base w' s2 false L' T B S N2 Z') (he : Ev wr s1 w' s2) : Lp base w s L' T B S Z' g6 row w' s2 N2 vf l where
  ds := hd
  ev := h.ev.trans he
  rec_ := h.rec_.frame he.keeps (fun b hb => (h.dis b hb).1)
  dis := fun k hk => ⟨fun h2 => by
    rcases he.fresh k h2 with h3 | h3
    · exact (h.dis k hk).1 h3
    · have := (h.rec_.lt k hk).2; omega, (h.dis k hk).2⟩
  h6 := (he.keeps.block g6 (lt_of_heap h.h6) h.n6).trans h.h6
  n6 := fun h2 => by
    rcases he.fresh g6 h2 with h3 | h3
    · exact h.n6 h3
    · have := lt_of_heap h.h6; omega
  low6 := h.low6
theorem Lp.ext (h : Lp base w s L T B S Z g6 row wr s1 N1 vf l) {w' : World} (hb : Below wr.heap.size wr w') : Lp base w s L T B S Z g6 row w' s1 N1 vf l :=
  h.step (h.ds.ext hb) ((Ev.refl _ _).ext hb)
theorem Lp.size (h : Lp base w s L T B S Z g6 row wr s1 N1 vf l) : w.heap.size ≤ wr.heap.size := h.ev.keeps.size
/-- other fields -/
theorem Lp.fields (h : Lp base w s L T B S Z g6 row wr s1 N1 vf l) {w' : World} {v' : Value} {l' : List (Nat × Nat)} (hr : RecsOwn 2 encF 106 w.heap.size w' v' l') (hk : Keeps (own vf) wr w') (hv : v'.ownBlock = vf.ownBlock ∨ ∀ k, v'.ownBlock = some k → wr.heap.size ≤ k) : Lp base w s L T B S Z g6 row w' s1 N1 v' l' where
  ds := h.ds.frame hk (fun k h1 h2 => (h.dis k h2).1 h1)
  ev := h.ev.other hk (fun k hk => (h.rec_.lt k hk).1)
  rec_ := hr
  dis := fun k hk2 => by
    rcases hv with e | e
    · exact h.dis k (e ▸ hk2)
    · have h1 := e k hk2
      refine ⟨fun h2 => ?_, fun h2 => ?_⟩
      · have := (h.ds.low k h2).2; omega
      · have := lt_of_heap h.h6; omega
  h6 := (hk.block g6 (lt_of_heap h.h6) (fun h2 => (h.dis g6 h2).2 rfl)).trans h.h6
  n6 := h.n6
  low6 := h.low6
theorem Lp.row_ (h : Lp base w s L T B S Z g6 row wr s1 N1 vf l) : wr.heap[s.gW]? = some (.cells #[.bool true, .bool false, .pointer (some ⟨s.gO, 0, none⟩), s.vK, .int .i64 0, .int .i64 (S : Int), .int .i64 (N1 : Int), .map (some s.gM), .int .i64 (Z : Int)] 93) := by
  have := h.ds.row.blk
  rw [h.ev.gW, h.ev.gO, h.ev.gM, h.ev.vK] at this
  exact this
theorem Lp.cells (h : Lp base w s L T B S Z g6 row wr s1 N1 vf l) : wr.cell? ⟨s.gW, 2, none⟩ = some (.pointer (some ⟨s.gO, 0, none⟩)) ∧ wr.cell? ⟨s.gW, 3, none⟩ = some s.vK ∧ wr.cell? ⟨s.gW, 4, none⟩ = some (.int .i64 0) ∧ wr.cell? ⟨s.gW, 5, none⟩ = some (.int .i64 (S : Int)) := by
  have c := fun j => cell_of_row _ _ j _ _ _ h.row_
  exact ⟨c 2, c 3, c 4, c 5⟩
theorem Lp.kept (h : Lp base w s L T B S Z g6 row wr s1 N1 vf l) : Own .u8 256 5 base wr s.vK B := by
  have := h.ds.kept
  rw [h.ev.vK] at this
  exact this
theorem Lp.ownK (h : Lp base w s L T B S Z g6 row wr s1 N1 vf l) : ∀ k, s.vK.ownBlock = some k → s1.own k := by
  intro k hk
  exact ⟨.k, by show s1.vK.ownBlock = some k; rw [h.ev.vK]; exact hk⟩
theorem Lp.ownW (h : Lp base w s L T B S Z g6 row wr s1 N1 vf l) : s1.own s.gW := ⟨.w, by show some s1.gW = _; rw [h.ev.gW]⟩
theorem Lp.match_ (h : Lp base w s L T B S Z g6 row wr s1 N1 vf l) (i b : Nat) (hib : i ≤ b) (hb : b ≤ B.length) (hB : B.length ≤ 100000) (hNi : N1 ≤ i) (hN : N1 = 0 ∨ N1 + 2 ≤ B.length) :
    Calls Try.prog 59 #[.pointer (some ⟨s.gW, 0, none⟩), .int .i64 (i : Int), .int .i64 (b : Int)] wr fun e w' => ∃ n d s2 N2, e = .returned (.tuple #[.int .i64 ((n : Nat) : Int), .int .i64 ((d : Nat) : Int)]) ∧ Lp base w s L T B S Z g6 row w' s2 N2 vf l ∧ N2 ≤ i ∧ (N2 = 0 ∨ N2 + 2 ≤ B.length) ∧
      ((3 ≤ (matchF B i b).1 ∧ (n, d) = matchF B i b) ∨ (¬ 3 ≤ (matchF B i b).1 ∧ n < 3)) := by
  have := h.ds.match_ i b hib hb hB hNi hN
  rw [h.ev.gW] at this
  refine this.mono ?_
  rintro e w' ⟨n, d, s2, N2, he, h1, h2, h3⟩
  exact ⟨n, d, s2, N2, he, h.step h1 h2, h3⟩
theorem Lp.put (h : Lp base w s L T B S Z g6 row wr s1 N1 vf l) (n k : Nat) (hk : k ≤ 32) (hn : n < 2 ^ k) (hL : L.length ≤ 562949953421312) :
    Calls Try.prog 63 #[.pointer (some ⟨s.gO, 0, none⟩), .int .u32 (n : Int), .int .i64 (k : Int)] wr fun e w' => e = .returned (.int .i64 0) ∧ ∃ s2, Lp base w s (L ++ bitsOf n k) T B S Z g6 row w' s2 N1 vf l := by
  have := h.ds.put n k hk hn hL
  rw [h.ev.gO] at this
  refine this.mono ?_
  rintro e w' ⟨he, s2, h1, h2⟩
  exact ⟨he, s2, h.step h1 h2⟩
theorem Lp.putI (h : Lp base w s L T B S Z g6 row wr s1 N1 vf l) (n k : Nat) (hk : k ≤ 32) (hn : n < 2 ^ k) (hL : L.length ≤ 562949953421312) (x y : Int) (hx : x = (n : Int)) (hy : y = (k : Int)) :
    Calls Try.prog 63 #[.pointer (some ⟨s.gO, 0, none⟩), .int .u32 x, .int .i64 y] wr fun e w' => e = .returned (.int .i64 0) ∧ ∃ s2, Lp base w s (L ++ bitsOf n k) T B S Z g6 row w' s2 N1 vf l := by
  subst hx hy; exact h.put n k hk hn hL
theorem Lp.align (h : Lp base w s L T B S Z g6 row wr s1 N1 vf l) (hL : L.length ≤ 562949953421312) :
    Calls Try.prog 53 #[.pointer (some ⟨s.gO, 0, none⟩)] wr fun e w' => e = .returned (.int .i64 0) ∧ ∃ s2, Lp base w s (alig L) T B S Z g6 row w' s2 N1 vf l := by
  have := h.ds.align hL
  rw [h.ev.gO] at this
  refine this.mono ?_
  rintro e w' ⟨he, s2, h1, h2⟩
  exact ⟨he, s2, h.step h1 h2⟩
theorem Lp.bits (h : Lp base w s L T B S Z g6 row wr s1 N1 vf l) :
    Calls Try.prog 62 #[.pointer (some ⟨s.gO, 0, none⟩)] wr fun e w' => e = .returned (.int .i64 ((L.length : Nat) : Int)) ∧ wr = w' := by
  have := h.ds.bits
  rw [h.ev.gO] at this
  exact this
theorem Lp.matched (h : Lp base w s L T B S Z g6 row wr s1 N1 vf l) (n d : Nat) (hn : 3 ≤ n) (hn2 : n ≤ 258) (hd : 1 ≤ d) (hd2 : d ≤ 32768) (hl : l.length ≤ 1000000) :
    Calls Try.prog 60 #[vf, .int .i64 (n : Int), .int .i64 (d : Int)] wr fun e w' => ∃ v', e = .returned v' ∧ Lp base w s L T B S Z g6 row w' s1 N1 v' (l ++ tokT (.mat n d)) := by
  refine (matched_any w.heap.size wr vf l n d h.rec_ hn hn2 hd hd2 hl h.size).mono ?_
  rintro e w' ⟨v', he, h1, h2, h3⟩
  exact ⟨v', he, h.fields h1 h2 h3⟩
theorem Lp.keptCell (h : Lp base w s L T B S Z g6 row wr s1 N1 vf l) {bK oK cK : Nat} (hv : s.vK = .slice (some ⟨bK, oK, none⟩) B.length cK) (i : Nat) (hi : i < B.length) : wr.cell? ⟨bK, oK + i, none⟩ = some (.int .u8 ((B.getD i 0 : Nat) : Int)) := by
  obtain ⟨b, o, c, e, h1, h2⟩ := h.kept.nums.cells (by intro e; rw [e] at hi; simp at hi)
  rw [hv] at e
  simp only [Value.slice.injEq, Option.some.injEq, Addr.mk.injEq, and_true, true_and] at e
  obtain ⟨⟨rfl, rfl⟩, -⟩ := e
  have := h2 i hi
  rw [this]
  simp [List.getD_eq_getElem?_getD, List.getElem?_eq_getElem hi]
theorem Lp.fieldCell (h : Lp base w s L T B S Z g6 row wr s1 N1 vf l) {bF oF n cF : Nat} (hv : vf = .slice (some ⟨bF, oF, none⟩) n cF) (k : Nat) (hk : k < l.length) : wr.cell? ⟨bF, oF + k * 2, none⟩ = some (.int .u32 (l[k].1 : Int)) ∧ wr.cell? ⟨bF, oF + k * 2 + 1, none⟩ = some (.int .i64 (l[k].2 : Int)) := by
  obtain ⟨b, o, c, e, h1, h2⟩ := (h.rec_.recs DefX.fields.len).cells (by intro e; rw [e] at hk; simp at hk)
  rw [hv] at e
  simp only [Value.slice.injEq, Option.some.injEq, Addr.mk.injEq, and_true] at e
  obtain ⟨⟨rfl, rfl⟩, -⟩ := e
  exact ⟨h2 k hk 0 _ rfl, h2 k hk 1 _ rfl⟩
/-- another row in the place of the one that is kept in mind -/
theorem Lp.other (h : Lp base w s L T B S Z g6 row wr s1 N1 vf l) {w' : World} (hb : Below wr.heap.size wr w') {gx : Nat} {row' : Array Value} (hx : wr.heap.size ≤ gx) (hr : w'.heap[gx]? = some (.cells row' 106)) : Lp base w s L T B S Z gx row' w' s1 N1 vf l where
  ds := (h.ext hb).ds
  ev := (h.ext hb).ev
  rec_ := (h.ext hb).rec_
  dis := fun k hk => ⟨(h.dis k hk).1, fun e => by have := (h.rec_.lt k hk).2; omega⟩
  h6 := hr
  n6 := fun h2 => by have := (h.ds.low gx h2).2; omega
  low6 := Nat.le_trans h.size hx
/-- sent, at the end -/
theorem Lp.finish (h : Lp base w s L T B S Z g6 row wr s1 N1 vf l) (b : Nat) : Ds base (wr.setCell ⟨s.gW, 5, none⟩ (.int .i64 (b : Int))) s1 false L T B b N1 Z ∧ Ev w s (wr.setCell ⟨s.gW, 5, none⟩ (.int .i64 (b : Int))) s1 := by
  obtain ⟨V, R, h1, h2⟩ := h.ds
  have hk := (Keeps.refl (fun k => k = s.gW) wr).setCell s.gW 5 (.int .i64 (b : Int)) (.inl rfl)
  refine ⟨⟨V, R, h1, ⟨⟨?_⟩, h2.k.frame hk (fun x q hx hq e => ?_)⟩⟩, h.ev.trans ⟨rfl, rfl, rfl, rfl, hk.mono (fun k e => by rw [e]; exact h.ownW), fun k hk => .inl hk⟩⟩
  · have := heap_setCell_same wr s.gW 5 _ _ (.int .i64 (b : Int)) h.row_
    rw [h.ev.gW, h.ev.gO, h.ev.gM, h.ev.vK]
    exact this
  · subst e
    exact hx (h2.k.apart x .w _ hq (by show some s1.gW = _; rw [h.ev.gW]))
end
/-- the state of a drawn region that puts -/
def PD (base : Nat) (w : World) (s : Dg) (T : Nat) (B : List Nat) (S Z g6 : Nat) (row : Array Value) (N1 : Nat) (vf : Value) (l : List (Nat × Nat)) (W : World) (σ : Dg × List Bool) (wr : World) : Prop := Lp base w s σ.2 T B S Z g6 row wr σ.1 N1 vf l ∧ True
theorem PD.step {base : Nat} {w : World} {s : Dg} {T : Nat} {B : List Nat} {S Z g6 : Nat} {row : Array Value} {N1 : Nat} {vf : Value} {l : List (Nat × Nat)} {W : World} {σ : Dg × List Bool} {wr w' : World} (h : PD base w s T B S Z g6 row N1 vf l W σ wr) (hb : Below wr.heap.size wr w') : PD base w s T B S Z g6 row N1 vf l W σ w' := ⟨h.1.ext hb, trivial⟩
theorem recs_own_off {base : Nat} {w : World} {b o n cap : Nat} {l : List (Nat × Nat)} {E : Nat} (h : RecsOwn 2 encF E base w (.slice (some ⟨b, o, none⟩) n cap) l) : o = 0 := by
  rcases h.row.2 with ⟨e, -⟩ | ⟨g, c, cur, e, -⟩
  · cases e
  · simp only [Value.slice.injEq, Option.some.injEq, Addr.mk.injEq, and_true] at e; exact e.1.2
/-- fields of one's own, newly laid -/
theorem recs_own_new (w : World) (base : Nat) (hb : base ≤ w.heap.size) (l : List (Nat × Nat)) (row : Array Value) (hr : row.toList = l.flatMap encF) (hl : l.length ≤ maxLen) : RecsOwn 2 encF 106 base (w.alloc (.cells row 106)) (.slice (some ⟨w.heap.size, 0, none⟩) l.length l.length) l := by
  have hlen : (l.flatMap encF).length = l.length * 2 := flat_len fields.len l
  refine ⟨⟨hlen, .inr ⟨w.heap.size, l.length, row, rfl, hb, heap_alloc_new _ _, Nat.le_refl _, hl, ?_, ?_⟩⟩⟩
  · rw [← hlen, ← hr]; simp
  · rw [hr, ← hlen, List.take_length]
/-- cut down to nothing -/
theorem recs_own_zero {E base : Nat} {w : World} {g o n cap : Nat} {l : List (Nat × Nat)} (h : RecsOwn 2 encF E base w (.slice (some ⟨g, o, none⟩) n cap) l) : RecsOwn 2 encF E base w (.slice (some ⟨g, o, none⟩) 0 cap) [] := by
  obtain rfl := recs_own_off h
  obtain ⟨h1, h2⟩ := h.row
  rcases h2 with ⟨e, _⟩ | ⟨g', cap', cur, e, hb, hg, h3, h4, h5, h6⟩
  · cases e
  · simp only [Value.slice.injEq, Option.some.injEq, Addr.mk.injEq, and_true] at e
    obtain ⟨rfl, rfl, rfl⟩ := e
    exact ⟨⟨rfl, .inr ⟨g, cap, cur, rfl, hb, hg, Nat.zero_le _, h4, h5, by simp⟩⟩⟩
end Go.Proofs.Ytighlefajekloaa.DefBb
