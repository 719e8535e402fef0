/- Package lightwellref06: a writer of bits that is held in a row; bits. -/
import Derived.Test.YtighlefajekloaaBits8
import Derived.Test.YtighlefajekloaaQu
import Derived.Test.YtighlefajekloaaDefDa
import Derived.Test.YtighlefajekloaaDm
set_option linter.unusedVariables false
set_option linter.unusedSimpArgs false
namespace Go.Proofs.Ytighlefajekloaa.DefEa
open Go.RowKit Go.Sort BitsM Base Low Bits5 Bits6 Bits8 DefN Qb Qt Qp Qy
/-- what a call leaves that answers a writer with these bits -/
def RX (w : World) (v : Value) (L : List Bool) (t : Int) (e : Ending) (w' : World) : Prop :=
  ∃ v', e = .returned (.agg #[v', .int .i64 t]) ∧ (Sq w' v' L ∧ ∀ b, v'.ownBlock = some b → v.ownBlock = some b ∨ w.heap.size ≤ b) ∧ Below w.heap.size w w'
/-- a row gb that holds a writer, and a row gr for the answer -/
structure Bx (w0 : World) (v0 : Value) (wr : World) (gb gr : Nat) (t : Int) (v : Value) (L : List Bool) : Prop where
  rb : wr.heap[gb]? = some (.cells #[v, .int .i64 t] 60)
  rr : wr.heap[gr]? = some (.cells #[.slice none 0 0, .int .i64 0] 60)
  sq : Sq wr v L
  ne : ∀ b, v.ownBlock = some b → b ≠ gb ∧ b ≠ gr
  old : ∀ b, v.ownBlock = some b → v0.ownBlock = some b ∨ w0.heap.size ≤ b
  lo : w0.heap.size ≤ gb ∧ w0.heap.size ≤ gr ∧ ¬ gb = gr
  below : Below w0.heap.size w0 wr
theorem Bx.start (w : World) (v : Value) (L : List Bool) (t : Int) (h : Sq w v L) : Bx w v ((w.alloc (.cells #[v, .int .i64 t] 60)).alloc (.cells #[.slice none 0 0, .int .i64 0] 60)) w.heap.size (w.heap.size + 1) t v L := by
  have hb := ((Below.refl w.heap.size w).alloc (Nat.le_refl _) (.cells #[v, .int .i64 t] 60)).alloc (by simp) (.cells #[.slice none 0 0, .int .i64 0] 60)
  refine ⟨?_, ?_, h.below hb (Nat.le_refl _), fun b e => ?_, fun b e => .inl e, ⟨Nat.le_refl _, by omega, by omega⟩, hb⟩
  · rw [heap_alloc_old _ _ (by simp)]; exact heap_alloc_new _ _
  · rw [show w.heap.size + 1 = (w.alloc (.cells #[v, .int .i64 t] 60)).heap.size from by simp]; exact heap_alloc_new _ _
  · have := h.lt b e; omega
section
variable {w0 wr : World} {v0 : Value} {gb gr : Nat} {t : Int} {v : Value} {L : List Bool}
theorem Bx.lt (h : Bx w0 v0 wr gb gr t v L) : gb < wr.heap.size ∧ gr < wr.heap.size := ⟨lt_of_heap h.rb, lt_of_heap h.rr⟩
theorem Bx.slice (h : Bx w0 v0 wr gb gr t v L) : ∃ a c, v = .slice a L.length c ∧ L.length ≤ 9223372036854775807 := by
  obtain ⟨a, c, rfl, h1, -⟩ := h.sq.sq.open_
  exact ⟨a, c, rfl, h1⟩
/-- nothing but what is new -/
theorem Bx.ext (h : Bx w0 v0 wr gb gr t v L) {w' : World} (hb : Below wr.heap.size wr w') : Bx w0 v0 w' gb gr t v L where
  rb := (hb.block gb h.lt.1).trans h.rb
  rr := (hb.block gr h.lt.2).trans h.rr
  sq := h.sq.below hb (Nat.le_refl _)
  ne := h.ne
  old := h.old
  lo := h.lo
  below := h.below.trans (hb.mono h.below.size)
theorem Bx.cells (h : Bx w0 v0 wr gb gr t v L) : wr.cell? ⟨gb, 0, none⟩ = some v ∧ wr.cell? ⟨gb, 1, none⟩ = some (.int .i64 t) ∧ wr.cell? ⟨gr, 0, none⟩ = some (.slice none 0 0) ∧ wr.cell? ⟨gr, 1, none⟩ = some (.int .i64 0) := by
  have c := fun j => cell_of_row _ _ j _ _ _ h.rb
  have d := fun j => cell_of_row _ _ j _ _ _ h.rr
  exact ⟨c 0, c 1, d 0, d 1⟩
theorem Bx.frozen (h : Bx w0 v0 wr gb gr t v L) : wr.frozen? ⟨gb, 0, none⟩ = false ∧ wr.frozen? ⟨gb, 1, none⟩ = false ∧ wr.frozen? ⟨gr, 0, none⟩ = false ∧ wr.frozen? ⟨gr, 1, none⟩ = false := by
  have c := fun j => frozen_of_row _ _ j _ _ h.rb
  have d := fun j => frozen_of_row _ _ j _ _ h.rr
  exact ⟨c 0, c 1, d 0, d 1⟩
/-- a call's answer laid into the row -/
theorem Bx.store (h : Bx w0 v0 wr gb gr t v L) {w' : World} {v' : Value} {L' : List Bool} {t' : Int} (hs : Sq w' v' L') (ho : ∀ b, v'.ownBlock = some b → v.ownBlock = some b ∨ wr.heap.size ≤ b) (hb : Below wr.heap.size wr w') :
    Bx w0 v0 ((w'.setCell ⟨gb, 0, none⟩ v').setCell ⟨gb, 1, none⟩ (.int .i64 t')) gb gr t' v' L' := by
  have h1 := h.ext hb
  obtain ⟨l1, l2⟩ := h.lt
  have hne : ∀ b, v'.ownBlock = some b → b ≠ gb ∧ b ≠ gr := fun b e => by
    rcases ho b e with e2 | e2
    · exact h.ne b e2
    · omega
  have hk : Keeps (fun k => k = gb) w' ((w'.setCell ⟨gb, 0, none⟩ v').setCell ⟨gb, 1, none⟩ (.int .i64 t')) := ((Keeps.refl (fun k => k = gb) w').setCell gb 0 v' (.inl rfl)).setCell gb 1 (.int .i64 t') (.inl rfl)
  have e1 := heap_setCell_same _ gb 1 _ _ (.int .i64 t') (heap_setCell_same w' gb 0 _ _ v' h1.rb)
  refine ⟨e1, (hk.block gr h1.lt.2 (fun e => h.lo.2.2 e.symm)).trans h1.rr, hs.frame hk (fun b e => (hne b e).1), hne, fun b e => ?_, h.lo, h1.below.trans (hk.below w0.heap.size h1.below.size (by rintro k rfl; exact h.lo.1))⟩
  rcases ho b e with e2 | e2
  · exact h.old b e2
  · exact .inr (Nat.le_trans h.below.size e2)
/-- an answer laid into the row for the answer -/
theorem Bx.finish (h : Bx w0 v0 wr gb gr t v L) {w' : World} {v' : Value} {L' : List Bool} {t' : Int} (hs : Sq w' v' L') (ho : ∀ b, v'.ownBlock = some b → v.ownBlock = some b ∨ wr.heap.size ≤ b) (hb : Below wr.heap.size wr w') :
    (((w'.setCell ⟨gr, 0, none⟩ v').setCell ⟨gr, 1, none⟩ (.int .i64 t')).heap[gr]? = some (.cells #[v', .int .i64 t'] 60)) ∧ RX w0 v0 L' t' (.returned (.agg #[v', .int .i64 t'])) ((w'.setCell ⟨gr, 0, none⟩ v').setCell ⟨gr, 1, none⟩ (.int .i64 t')) := by
  have h1 := h.ext hb
  have hne : ∀ b, v'.ownBlock = some b → b ≠ gr := fun b e => by
    rcases ho b e with e2 | e2
    · exact (h.ne b e2).2
    · have := h.lt.2; omega
  have hk : Keeps (fun k => k = gr) w' ((w'.setCell ⟨gr, 0, none⟩ v').setCell ⟨gr, 1, none⟩ (.int .i64 t')) := ((Keeps.refl (fun k => k = gr) w').setCell gr 0 v' (.inl rfl)).setCell gr 1 (.int .i64 t') (.inl rfl)
  have e1 := heap_setCell_same _ gr 1 _ _ (.int .i64 t') (heap_setCell_same w' gr 0 _ _ v' h1.rr)
  refine ⟨e1, v', rfl, ⟨hs.frame hk hne, fun b e => ?_⟩, h1.below.trans (hk.below w0.heap.size h1.below.size (by rintro k rfl; exact h.lo.2.1))⟩
  rcases ho b e with e2 | e2
  · exact h.old b e2
  · exact .inr (Nat.le_trans h.below.size e2)
end
/-- the bits of a number, the lowest first, or the highest first -/
def ordB (turned : Bool) (n k : Nat) : List Bool := if turned then rev n k else bitsOf n k
theorem bitsOf_at (k : Nat) : ∀ (n i : Nat) (h : i < (bitsOf n k).length), (bitsOf n k)[i] = decide (n / 2 ^ i % 2 = 1) := by
  induction k with
  | zero => intro n i h; simp [bitsOf] at h
  | succ k ih =>
    intro n i h
    cases i with
    | zero => simp [bitsOf]
    | succ i =>
      simp only [bitsOf, List.getElem_cons_succ]
      rw [ih, Nat.div_div_eq_div_mul, Nat.pow_succ, Nat.mul_comm]
theorem ordB_len (turned : Bool) (n k : Nat) : (ordB turned n k).length = k := by
  unfold ordB
  cases turned
  · exact bitsOf_length k n
  · exact rev_len n k
theorem ordB_at (turned : Bool) (n k i : Nat) (h : i < k) : (ordB turned n k).take (i + 1) = (ordB turned n k).take i ++ [decide (n / 2 ^ (if turned then k - 1 - i else i) % 2 = 1)] := by
  have hl : i < (ordB turned n k).length := by rw [ordB_len]; exact h
  rw [List.take_succ_eq_append_getElem hl]
  congr 2
  cases turned
  · show (bitsOf n k)[i]'(by rw [bitsOf_length]; exact h) = _
    rw [bitsOf_at]; rfl
  · show (bitsOf n k).reverse[i]'(by rw [List.length_reverse, bitsOf_length]; exact h) = _
    rw [List.getElem_reverse, bitsOf_at]
    simp only [bitsOf_length, if_true]
theorem one_bit (x : Nat) (h : x < 2) : bitsOf x 1 = [decide (x = 1)] := by
  rcases (show x = 0 ∨ x = 1 by omega) with rfl | rfl <;> rfl
theorem bit_int (n m : Nat) : ((n : Int) / 2 ^ m).tmod 2 % 4294967296 = ((n / 2 ^ m % 2 : Nat) : Int) := by
  have h : (n : Int) / 2 ^ m = ((n / 2 ^ m : Nat) : Int) := by
    rw [Int.natCast_ediv, Int.natCast_pow]; rfl
  rw [h]
  generalize n / 2 ^ m = x
  rw [show (x : Int).tmod 2 = ((x % 2 : Nat) : Int) from rfl]
  omega
set_option maxRecDepth 100000 in
set_option maxHeartbeats 1000000 in
theorem bits_any (v : Value) (L : List Bool) (t : Int) (w : World) (hv : Sq w v L) (n k : Nat) (turned : Bool) (hk : k ≤ 16) (hn : n ≤ 65535) (hL : L.length ≤ 800000) :
    Calls Try.prog 75 #[.agg #[v, .int .i64 t], .int .i64 (n : Int), .int .i64 (k : Int), .bool turned] w (RX w v (L ++ ordB turned n k) t) := by
  have hx := Bx.start w v L t hv
  obtain ⟨a, c, rfl, hc1⟩ := hx.slice
  obtain ⟨W, hW⟩ : ∃ W, W = (w.alloc (.cells #[.slice a L.length c, .int .i64 t] 60)).alloc (.cells #[.slice none 0 0, .int .i64 0] 60) := ⟨_, rfl⟩
  rw [← hW] at hx
  have HX := Lib.hid hx
  clear hx hv
  go_enter Try.func75, Try.ntmps75
  go_wp2_with fail
  rw [← hW]
  obtain ⟨gr, hgr⟩ : ∃ g, g = w.heap.size + 1 := ⟨_, rfl⟩
  rw [← hgr] at HX ⊢
  obtain ⟨gb, hgb⟩ : ∃ g, g = w.heap.size := ⟨_, rfl⟩
  rw [← hgb] at HX ⊢
  clear hW hgr hgb
  go_loopw [9] (fun v9 wr => ∃ (i : Nat) (v1 : Value), i ≤ k ∧ v9 = .int .i64 (i : Int) ∧ Bx w (.slice a L.length c) wr gb gr t v1 (L ++ (ordB turned n k).take i)) (fun v9 _ => k - (intOf v9).toNat)
  case atStart => exact ⟨0, _, Nat.zero_le _, rfl, by simpa using HX.out⟩
  case round =>
    obtain ⟨i, v1, hi, rfl, hbx⟩ := hrel
    obtain ⟨K, hK⟩ : ∃ K, K = L ++ (ordB turned n k).take i := ⟨_, rfl⟩
    rw [← hK] at hbx
    have hKl : K.length = L.length + i := by rw [hK, List.length_append, List.length_take, ordB_len]; omega
    have hK9 : K.length ≤ 800016 := by omega
    clear hKl
    obtain ⟨a1, c1, rfl, hc2⟩ := hbx.slice
    obtain ⟨c1_, c2_, c3_, c4_⟩ := hbx.cells
    obtain ⟨f1, f2, f3, f4⟩ := hbx.frozen
    have HBX := Lib.hid hbx
    have HK := Lib.hid hK
    clear hbx hK HX
    by_cases hlt : i < k
    · obtain ⟨at_, hat⟩ : ∃ x, x = (if turned then k - 1 - i else i) := ⟨_, rfl⟩
      obtain ⟨b, hb⟩ : ∃ b, b = n / 2 ^ at_ % 2 := ⟨_, rfl⟩
      have hb2 : b < 2 := by rw [hb]; omega
      have hnext : L ++ (ordB turned n k).take (i + 1) = K ++ bitsOf b 1 := by
        rw [ordB_at turned n k i hlt, one_bit b hb2, HK.out, hb, hat, List.append_assoc]
      have HNEXT := Lib.hid hnext
      obtain ⟨k1, hk1⟩ : ∃ x, x = k - 1 := ⟨_, rfl⟩
      have hk1i : i ≤ k1 ∧ k1 ≤ 15 := by omega
      have e1 : IntKind.i64.wrap ((k : Int) - 1) = (k1 : Int) := by rw [IntKind.wrap_i64]; omega
      have e3 : (2 : Int) ≤ 4 := by omega
      have HB := Lib.hid hb
      have HAT := Lib.hid (show at_ = if turned then k - 1 - i else i from hat)
      clear hnext hb
      cases turned with
      | true =>
        have hat2 : at_ = k1 - i := by rw [hat]; simp; omega
        clear hat
        have e2 : IntKind.i64.wrap ((k1 : Int) - (i : Int)) = (at_ : Int) := by rw [IntKind.wrap_i64]; omega
        have e4 : IntKind.u64.wrap (at_ : Int) = (at_ : Int) := by rw [IntKind.wrap_u64]; omega
        go_wp2_with fail
        refine (rput_lit _ K t wr HBX.out.sq.sq b 1 (by omega) (by omega) (by omega) _ _ ?en rfl).mono ?_
        case en => rw [HB.out, HAT.out]; exact bit_int n _
        rintro e w2 ⟨v2, rfl, hown, hbl2⟩
        rw [← HNEXT.out] at hown
        have hst := HBX.out.store (t' := t) (Sq.of_own hown) (fun b hb => .inr (hown.lt b hb).1) hbl2
        obtain ⟨a3, c3, rfl, -, -⟩ := hown.seq.open_
        have HST := Lib.hid hst
        have hb2 := (HBX.out.ext hbl2)
        obtain ⟨g1, g2, -, -⟩ := hb2.cells
        obtain ⟨x1, x2, -, -⟩ := hb2.frozen
        clear hst hb2 hown c1_ c2_ c3_ c4_ f1 f2 f3 f4
        obtain ⟨len, hlen⟩ : ∃ x, x = (L ++ (ordB true n k).take (i + 1)).length := ⟨_, rfl⟩
        rw [← hlen] at HST ⊢
        clear hlen
        go_wp2_with fail
        exact ⟨⟨i + 1, _, by omega, rfl, HST.out⟩, by simp only [intOf]; omega⟩
      | false =>
        have e4 : IntKind.u64.wrap (i : Int) = (i : Int) := by rw [IntKind.wrap_u64]; omega
        go_wp2_with fail
        refine (rput_lit _ K t wr HBX.out.sq.sq b 1 (by omega) (by omega) (by omega) _ _ ?en rfl).mono ?_
        case en => rw [HB.out, HAT.out]; exact bit_int n _
        rintro e w2 ⟨v2, rfl, hown, hbl2⟩
        rw [← HNEXT.out] at hown
        have hst := HBX.out.store (t' := t) (Sq.of_own hown) (fun b hb => .inr (hown.lt b hb).1) hbl2
        obtain ⟨a3, c3, rfl, -, -⟩ := hown.seq.open_
        have HST := Lib.hid hst
        have hb2 := (HBX.out.ext hbl2)
        obtain ⟨g1, g2, -, -⟩ := hb2.cells
        obtain ⟨x1, x2, -, -⟩ := hb2.frozen
        clear hst hb2 hown c1_ c2_ c3_ c4_ f1 f2 f3 f4
        obtain ⟨len, hlen⟩ : ∃ x, x = (L ++ (ordB false n k).take (i + 1)).length := ⟨_, rfl⟩
        rw [← hlen] at HST ⊢
        clear hlen
        go_wp2_with fail
        exact ⟨⟨i + 1, _, by omega, rfl, HST.out⟩, by simp only [intOf]; omega⟩
    · obtain rfl : i = k := by omega
      have hend : K = L ++ ordB turned n i := by rw [HK.out, List.take_of_length_le (by rw [ordB_len]; exact Nat.le_refl _)]
      have HEND := Lib.hid hend
      clear hend HK
      go_wp2_with fail
      obtain ⟨e1, e2⟩ := HBX.out.finish HBX.out.sq (fun b e => .inl e) (Below.refl _ _)
      refine bodyPost_ret (results_cell_row rfl _ _ gr 60 #[.slice a1 K.length c1, .int .i64 t] _ _ rfl e1 Try.underlying60 rfl (by kernel_rfl)) rfl ?_
      rw [← HEND.out]; exact e2
end Go.Proofs.Ytighlefajekloaa.DefEa
