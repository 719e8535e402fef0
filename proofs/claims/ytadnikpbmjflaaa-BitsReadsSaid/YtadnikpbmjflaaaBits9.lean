/- A writer beside the reference's: the state that a script keeps. -/
import Derived.Test.YtadnikpbmjflaaaBits8
import Derived.Test.YtadnikpbmjflaaaBits7
set_option linter.unusedVariables false
set_option linter.unusedSimpArgs false
namespace Go.Proofs.Ytadnikpbmjflaaa.Bits9
open Go.RowKit BitsM Base Low Bits5 Bits6 BitsW BitsX BitsR BitsG Bits7 Bits8

theorem _root_.Go.Proofs.Ytadnikpbmjflaaa.Base.Seq.slice5 {α : Type} {enc : α → Value} {w : World} {v : Value} {l : List α} (h : Seq enc w v l) : ∃ a n cap, v = .slice a n cap := by obtain ⟨a, cap, rfl, -, -⟩ := h.open_; exact ⟨_, _, _, rfl⟩
/-- a call of a script -/
structure Cmd where
  kind : Int
  n : Nat
  k : Int
structure Cmd.ok (c : Cmd) : Prop where
  k1 : -9223372036854775808 ≤ c.kind
  k2 : c.kind ≤ 9223372036854775807
  n1 : c.n ≤ 4294967295
  k3 : -9223372036854775808 ≤ c.k
  k4 : c.k ≤ 9223372036854775807
/-- a script that lies in the world -/
structure Script (w : World) (v : Value) (l : List Cmd) : Prop where
  shape : ∃ a cap, v = .slice a l.length cap ∧ l.length ≤ 9223372036854775807
  fits : ∀ c ∈ l, c.ok
  cells : l ≠ [] → ∃ b off cap, v = .slice (some ⟨b, off, none⟩) l.length cap ∧ b < w.heap.size ∧ ∀ i (h : i < l.length), w.cell? ⟨b, off + i * 3, none⟩ = some (.int .i64 l[i].kind) ∧ w.cell? ⟨b, off + i * 3 + 1, none⟩ = some (.int .u32 (l[i].n : Int)) ∧ w.cell? ⟨b, off + i * 3 + 2, none⟩ = some (.int .i64 l[i].k)

theorem WS.store {w0 w : World} {g : Nat} {v : Value} {V R T : Nat} {D : Nat → Prop} (h : WS w0 w g v V R T D) (b j : Nat) (x : Value) (hb : D b) (hl : w0.heap.size ≤ b) : WS w0 (w.setCell ⟨b, j, none⟩ x) g v V R T D := by
  have hK := (Keeps.refl (fun k => k = b) w).setCell b j x (.inl rfl)
  refine ⟨h.wr.frame hK (fun k hf e => (h.free b hb).2 (e ▸ hf)), h.below.trans (hK.below w0.heap.size h.below.size (by rintro k rfl; exact hl)), fun b' hb' => ?_⟩
  exact ⟨Nat.lt_of_lt_of_le (h.free b' hb').1 hK.size, (h.free b' hb').2⟩

/-- the state: the writer at g, the reference's in the row at bV, and rows X that nothing turns -/
structure St (w0 w : World) (g bV : Nat) (v rv : Value) (L : List Bool) (V R T T2 : Nat) (X : Nat → Prop) : Prop where
  ws : WS w0 w g v V R T (fun b => rv.ownBlock = some b ∨ b = bV ∨ X b)
  row : w.heap[bV]? = some (.cells #[rv, .int .i64 (T2 : Int)] 36)
  sq : Sq w rv L
  ap : rv.ownBlock ≠ some bV
  xn : ¬ X bV
  low : w0.heap.size ≤ bV
theorem St.ext {w0 w w' : World} {g bV : Nat} {v rv : Value} {L : List Bool} {V R T T2 : Nat} {X : Nat → Prop} (h : St w0 w g bV v rv L V R T T2 X) (hb : Below w.heap.size w w') : St w0 w' g bV v rv L V R T T2 (fun b => X b ∨ (w.heap.size ≤ b ∧ b < w'.heap.size)) := by
  have hl := lt_of_heap h.row
  refine ⟨(h.ws.ext hb).mono ?_, by rw [hb.block _ hl]; exact h.row, h.sq.below hb (Nat.le_refl _), h.ap, ?_, h.low⟩
  · rintro b (h1 | h1 | h1 | h1)
    · exact .inl (.inl h1)
    · exact .inl (.inr (.inl h1))
    · exact .inl (.inr (.inr h1))
    · exact .inr h1
  · rintro (h1 | h1)
    · exact h.xn h1
    · omega
theorem St.mono {w0 w : World} {g bV : Nat} {v rv : Value} {L : List Bool} {V R T T2 : Nat} {X X' : Nat → Prop} (h : St w0 w g bV v rv L V R T T2 X) (hX : ∀ b, X' b → X b) : St w0 w g bV v rv L V R T T2 X' :=
  ⟨h.ws.mono (by rintro b (h1 | h1 | h1); exact .inl h1; exact .inr (.inl h1); exact .inr (.inr (hX b h1))), h.row, h.sq, h.ap, fun hx => h.xn (hX _ hx), h.low⟩
/-- behind a call of the writer -/
theorem St.turn {w0 w w' : World} {g bV : Nat} {v v' rv : Value} {L : List Bool} {V R T V' R' T' T2 : Nat} {X : Nat → Prop} (h : St w0 w g bV v rv L V R T T2 X) (hw : WS w0 w' g v' V' R' T' (fun b => rv.ownBlock = some b ∨ b = bV ∨ X b))
    (hk : Keeps (fun k => ¬ (rv.ownBlock = some k ∨ k = bV ∨ X k)) w w') : St w0 w' g bV v' rv L V' R' T' T2 X ∧ Keeps (fun k => ¬ X k) w w' :=
  ⟨⟨hw, by rw [hk.block bV (lt_of_heap h.row) (fun hn => hn (.inr (.inl rfl)))]; exact h.row, Sq.keep h.sq hk (fun b hb => .inl hb), h.ap, h.xn, h.low⟩, hk.mono (fun k hn hx => hn (.inr (.inr hx)))⟩
def PTo (w0 w : World) (g bV : Nat) (rv : Value) (L : List Bool) (V R T T2 : Nat) (X : Nat → Prop) (e : Ending) (w' : World) : Prop :=
  e = .returned (.int .i64 0) ∧ ∃ v', St w0 w' g bV v' rv L V R T T2 X ∧ Keeps (fun k => ¬ X k) w w'
theorem St.put {w0 w : World} {g bV : Nat} {v rv : Value} {L : List Bool} {V R T T2 : Nat} {X : Nat → Prop} (h : St w0 w g bV v rv L V R T T2 X) (n k : Nat) (hk : k ≤ 32) (hn : n < 2 ^ k) (hR : 8 * T + R ≤ 562949953421312) :
    Calls Try.prog 24 #[.pointer (some ⟨g, 0, none⟩), .int .u32 (n : Int), .int .i64 (k : Int)] w (PTo w0 w g bV rv L (V + n * 2 ^ R) (R + k) T T2 X) := by
  refine (put_ws h.ws n k _ _ hk hn hR rfl rfl _ _ rfl rfl).mono ?_
  rintro e w' ⟨rfl, v', hw, hkp⟩
  obtain ⟨h1, h2⟩ := h.turn hw hkp
  exact ⟨rfl, v', h1, h2⟩
theorem St.align {w0 w : World} {g bV : Nat} {v rv : Value} {L : List Bool} {V R T T2 : Nat} {X : Nat → Prop} (h : St w0 w g bV v rv L V R T T2 X) (hR : 8 * T + R ≤ 562949953421312) :
    Calls Try.prog 28 #[.pointer (some ⟨g, 0, none⟩)] w (PTo w0 w g bV rv L V (R + (8 - R % 8) % 8) T T2 X) := by
  refine (align_ws h.ws _ hR rfl).mono ?_
  rintro e w' ⟨rfl, v', hw, hkp⟩
  obtain ⟨h1, h2⟩ := h.turn hw hkp
  exact ⟨rfl, v', h1, h2⟩
def TkTo (w0 w : World) (g bV : Nat) (rv : Value) (L : List Bool) (V R T T2 : Nat) (X : Nat → Prop) (l : List Nat) (e : Ending) (w' : World) : Prop :=
  ∃ u v', e = .returned u ∧ Nums .u8 256 w' u l ∧ St w0 w' g bV v' rv L V R T T2 X ∧ Keeps (fun k => ¬ X k) w w' ∧ ∀ b, u.ownBlock = some b → b ≠ bV
theorem St.take {w0 w : World} {g bV : Nat} {v rv : Value} {L : List Bool} {V R T T2 : Nat} {X : Nat → Prop} (h : St w0 w g bV v rv L V R T T2 X) (hR : 8 * T + R ≤ 562949953421312) :
    Calls Try.prog 26 #[.pointer (some ⟨g, 0, none⟩)] w (TkTo w0 w g bV rv L (V / 256 ^ (R / 8)) (R % 8) (T + R / 8) T2 X (bytesN V (R / 8))) := by
  refine (take_ws h.ws hR).mono ?_
  rintro e w' ⟨u, v', rfl, hu, hw, hkp, hd⟩
  obtain ⟨h1, h2⟩ := h.turn (hw.mono fun b hb => .inl hb) hkp
  exact ⟨u, v', rfl, hu, h1, h2, fun b hb e => hd b hb (.inr (.inl e))⟩
/-- the reference's answer is laid into its row -/
theorem St.lay {w0 w w2 : World} {g bV : Nat} {v rv v2 : Value} {L L2 : List Bool} {V R T T2 T3 : Nat} {X : Nat → Prop} (h : St w0 w g bV v rv L V R T T2 X) (hb : Below w.heap.size w w2) (hs : Sq w2 v2 L2) (hv : ∀ b, v2.ownBlock = some b → rv.ownBlock = some b ∨ w.heap.size ≤ b) :
    St w0 ((w2.setCell ⟨bV, 0, none⟩ v2).setCell ⟨bV, 1, none⟩ (.int .i64 (T3 : Int))) g bV v v2 L2 V R T T3 X := by
  have h2 := h.ext hb
  have hl := lt_of_heap h.row
  have hK := ((Keeps.refl (fun k => k = bV) w2).setCell bV 0 v2 (.inl rfl)).setCell bV 1 (.int .i64 (T3 : Int)) (.inl rfl)
  have hW := WS.store (WS.store h2.ws bV 0 v2 (.inr (.inl rfl)) h.low) bV 1 (.int .i64 (T3 : Int)) (.inr (.inl rfl)) h.low
  have hap : v2.ownBlock ≠ some bV := fun e => by
    rcases hv bV e with h1 | h1
    · exact h.ap h1
    · omega
  refine ⟨hW.mono ?_, ?_, ⟨hs.sq.frame hK (fun b hb e => hap (e ▸ hb)), fun b hb => Nat.lt_of_lt_of_le (hs.lt b hb) hK.size⟩, hap, h.xn, h.low⟩
  · rintro b (h1 | h1 | h1)
    · rcases hv b h1 with h3 | h3
      · exact .inl h3
      · exact .inr (.inr (.inr ⟨h3, hs.lt b h1⟩))
    · exact .inr (.inl h1)
    · exact .inr (.inr (.inl h1))
  · rw [heap_setCell_same _ _ _ _ _ _ (heap_setCell_same _ _ _ _ _ _ h2.row)]; rfl

/-- what the two say is the same -/
structure Rel (L : List Bool) (V R T : Nat) : Prop where
  len : L.length = 8 * T + R
  num : V = num L / 256 ^ T
theorem Rel.put {L : List Bool} {V R T : Nat} (h : Rel L V R T) (n k : Nat) (hn : n < 2 ^ k) : Rel (L ++ bitsOf n k) (V + n * 2 ^ R) (R + k) T := by
  refine ⟨by rw [List.length_append, bitsOf_length, h.len]; omega, ?_⟩
  rw [num_append, num_bitsOf n k hn, h.len, h.num, Nat.pow_add, ← pow256, Nat.mul_assoc, Nat.add_mul_div_left _ _ (Nat.pow_pos (by omega)), Nat.mul_comm (2 ^ R)]
theorem num_falses (k : Nat) : num (List.replicate k false) = 0 := by
  induction k with
  | zero => rfl
  | succ k ih => rw [List.replicate_succ]; show false.toNat + 2 * num _ = 0; rw [ih]; rfl
theorem Rel.align {L : List Bool} {V R T : Nat} (h : Rel L V R T) : Rel (L ++ List.replicate (up8 L.length - L.length) false) V (R + (8 - R % 8) % 8) T := by
  have hl := h.len
  refine ⟨by rw [List.length_append, List.length_replicate]; unfold up8; omega, ?_⟩
  rw [num_append, num_falses, Nat.mul_zero, Nat.add_zero]; exact h.num
theorem Rel.take {L : List Bool} {V R T : Nat} (h : Rel L V R T) : Rel L (V / 256 ^ (R / 8)) (R % 8) (T + R / 8) ∧ L.length / 8 = T + R / 8 ∧ L.length / 8 - T = R / 8 := by
  have hl := h.len
  refine ⟨⟨by omega, ?_⟩, by omega, by omega⟩
  rw [h.num, Nat.div_div_eq_div_mul, ← Nat.pow_add]
end Go.Proofs.Ytadnikpbmjflaaa.Bits9
