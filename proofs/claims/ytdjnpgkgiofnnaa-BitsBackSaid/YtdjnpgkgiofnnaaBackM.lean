/- What is put comes back: the plain law, and the state that the script keeps: two writers, the bytes taken, the script's numbers. -/
import Derived.Test.YtdjnpgkgiofnnaaBits7
import Derived.Test.YtdjnpgkgiofnnaaRec
set_option linter.unusedVariables false
set_option linter.unusedSimpArgs false
namespace Go.Proofs.Ytdjnpgkgiofnnaa.BackM
open Go Go.RowKit BitsM Base Low BitsW BitsX BitsR BitsG Bits7 Rec
structure C3 where
  kind : Int
  n : Nat
  k : Nat
structure C3.ok (c : C3) : Prop where
  n : c.n < 2 ^ c.k
  k : c.k ≤ 32
def enc (c : C3) : List Value := [.int .i64 c.kind, .int .u32 (c.n : Int), .int .i64 (c.k : Int)]
theorem len (c : C3) : (enc c).length = 3 := rfl
theorem one (c : C3) : ∀ u ∈ enc c, u.oneCell' = true := by intro u hu; simp [enc] at hu; rcases hu with rfl | rfl | rfl <;> rfl
theorem ops_slice : RecSlice Try.prog 22 28 3 enc (.agg #[.int .i64 0, .int .u32 0, .int .i64 0]) 24 := recSlice Try.underlying22 (by kernel_rfl) rfl one len (by decide)
def upP (P : Nat) : Nat := P + (8 - P % 8) % 8
def stepZ (s : Nat × Nat) (c : C3) : Nat × Nat := if c.kind = 6 then (s.1, upP s.2) else (s.1 + c.n * 2 ^ s.2, s.2 + c.k)
theorem upP_le (P : Nat) : P ≤ upP P := by unfold upP; omega
theorem upP_8 (P : Nat) : upP P % 8 = 0 := by unfold upP; omega
theorem step_lt {s : Nat × Nat} {c : C3} (h : s.1 < 2 ^ s.2) (hc : c.ok) : (stepZ s c).1 < 2 ^ (stepZ s c).2 := by
  unfold stepZ
  split
  · exact Nat.lt_of_lt_of_le h (Nat.pow_le_pow_right (by decide) (upP_le _))
  · dsimp only
    have h1 : c.n * 2 ^ s.2 + 2 ^ s.2 ≤ 2 ^ c.k * 2 ^ s.2 := by
      rw [← Nat.succ_mul]; exact Nat.mul_le_mul_right _ hc.n
    rw [Nat.add_comm s.2 c.k, Nat.pow_add]
    omega
theorem fold_lt (l : List C3) : ∀ s : Nat × Nat, s.1 < 2 ^ s.2 → (∀ c ∈ l, c.ok) → (l.foldl stepZ s).1 < 2 ^ (l.foldl stepZ s).2 := by
  induction l with
  | nil => intro s h _; exact h
  | cons c l ih => intro s h hl; exact ih _ (step_lt h (hl c (List.mem_cons_self ..))) (fun x hx => hl x (List.mem_cons_of_mem _ hx))
theorem step_more (s : Nat × Nat) (c : C3) : ∃ M, (stepZ s c).1 = s.1 + M * 2 ^ s.2 ∧ s.2 ≤ (stepZ s c).2 := by
  unfold stepZ
  split
  · exact ⟨0, by simp, upP_le _⟩
  · exact ⟨c.n, rfl, Nat.le_add_right _ _⟩
theorem fold_more (l : List C3) : ∀ s : Nat × Nat, ∃ M, (l.foldl stepZ s).1 = s.1 + M * 2 ^ s.2 ∧ s.2 ≤ (l.foldl stepZ s).2 := by
  induction l with
  | nil => intro s; exact ⟨0, by simp, Nat.le_refl _⟩
  | cons c l ih =>
    intro s
    obtain ⟨M1, e1, l1⟩ := step_more s c
    obtain ⟨M2, e2, l2⟩ := ih (stepZ s c)
    refine ⟨M1 + M2 * 2 ^ ((stepZ s c).2 - s.2), ?_, Nat.le_trans l1 l2⟩
    rw [List.foldl_cons, e2, e1, Nat.add_mul, Nat.mul_assoc, ← Nat.pow_add, Nat.sub_add_cancel l1, Nat.add_assoc]
/-- the state behind the first j numbers -/
def sumZ (l : List C3) : Nat × Nat := l.foldl stepZ (0, 0)
theorem sumZ_next (l : List C3) (i : Nat) (hi : i < l.length) : sumZ (l.take (i + 1)) = stepZ (sumZ (l.take i)) l[i] := by
  unfold sumZ; rw [List.take_add_one, List.getElem?_eq_getElem hi, Option.toList_some, List.foldl_append]; rfl
theorem sumZ_snoc (l : List C3) (c : C3) : sumZ (l ++ [c]) = stepZ (sumZ l) c := by unfold sumZ; rw [List.foldl_append]; rfl
theorem sumZ_lt (l : List C3) (h : ∀ c ∈ l, c.ok) : (sumZ l).1 < 2 ^ (sumZ l).2 := fold_lt l (0, 0) (by decide) h
/-- what was put is got -/
theorem back (l : List C3) (h : ∀ c ∈ l, c.ok) (i : Nat) (hi : i < l.length) (hk : ¬ l[i].kind = 6) : (sumZ l).1 / 2 ^ (sumZ (l.take i)).2 % 2 ^ l[i].k = l[i].n ∧ (sumZ (l.take i)).2 + l[i].k ≤ (sumZ l).2 := by
  have hlt := sumZ_lt (l.take i) (fun c hc => h c (List.mem_of_mem_take hc))
  have hn := (h l[i] (List.getElem_mem hi)).n
  have e : sumZ l = (l.drop (i + 1)).foldl stepZ (stepZ (sumZ (l.take i)) l[i]) := by
    rw [← sumZ_next l i hi]
    unfold sumZ
    rw [← List.foldl_append, List.take_append_drop]
  obtain ⟨M, e1, l1⟩ := fold_more (l.drop (i + 1)) (stepZ (sumZ (l.take i)) l[i])
  rw [← e] at e1 l1
  generalize sumZ (l.take i) = s at *
  unfold stepZ at e1 l1
  rw [if_neg hk] at e1 l1
  dsimp only at e1 l1
  refine ⟨?_, l1⟩
  have hd : (sumZ l).1 / 2 ^ s.2 = l[i].n + M * 2 ^ l[i].k := by
    rw [e1, Nat.pow_add, Nat.add_assoc, ← Nat.mul_assoc, Nat.mul_assoc M, Nat.mul_comm (2 ^ s.2), ← Nat.mul_assoc, ← Nat.add_mul, Nat.add_mul_div_right _ _ (Nat.two_pow_pos _), Nat.div_eq_of_lt hlt, Nat.zero_add]
  rw [hd, Nat.add_mul_mod_self_right, Nat.mod_eq_of_lt hn]
theorem back6 (l : List C3) (i : Nat) (hi : i < l.length) : (sumZ (l.take (i + 1))).2 ≤ (sumZ l).2 := by
  have e : sumZ l = (l.drop (i + 1)).foldl stepZ (sumZ (l.take (i + 1))) := by
    unfold sumZ
    rw [← List.foldl_append, List.take_append_drop]
  obtain ⟨M, e1, l1⟩ := fold_more (l.drop (i + 1)) (sumZ (l.take (i + 1)))
  rw [← e] at l1
  exact l1
/-! bytes -/
theorem bytesN_add (V a b : Nat) : bytesN V (a + b) = bytesN V a ++ bytesN (V / 256 ^ a) b := by
  have h1 := bytesN_take V (a + b) a (by omega)
  have h2 := bytesN_drop V (a + b) a (by omega)
  rw [Nat.add_sub_cancel_left] at h2
  rw [← h1, ← h2, List.take_append_drop]
theorem bytesN_more (Z n P T : Nat) (h : 8 * T ≤ P) : bytesN (Z + n * 2 ^ P) T = bytesN Z T := by
  unfold bytesN
  apply List.map_congr_left
  intro i hi
  rw [List.mem_range] at hi
  exact byte_below Z n P i (by omega)
theorem div_more (Z n P T : Nat) (h : 8 * T ≤ P) : (Z + n * 2 ^ P) / 256 ^ T = Z / 256 ^ T + n * 2 ^ (P - 8 * T) := by
  have e : 2 ^ P = 2 ^ (P - 8 * T) * 256 ^ T := by rw [pow256, ← Nat.pow_add, Nat.sub_add_cancel h]
  rw [e, ← Nat.mul_assoc, Nat.add_mul_div_right _ _ (by rw [pow256]; exact Nat.two_pow_pos _)]
theorem valB_all (Z P : Nat) (h : Z < 2 ^ P) : valB (bytesN Z (upP P / 8)) = Z := by
  rw [valB_bytesN, Nat.mod_eq_of_lt]
  refine Nat.lt_of_lt_of_le h ?_
  rw [pow256]
  exact Nat.pow_le_pow_right (by decide) (by have := upP_8 P; have := upP_le P; omega)
/-! the state -/
structure Bk (w0 w : World) (g1 g2 : Nat) (v1 v2 va vl : Value) (L : List Nat) (Z1 P1 T Z2 P2 : Nat) (cs : List C3) (X : Nat → Prop) : Prop where
  W1 : Wr w0.heap.size w g1 v1 (Z1 / 256 ^ T) (P1 - 8 * T) T
  W2 : Wr w0.heap.size w g2 v2 Z2 P2 0
  le : 8 * T ≤ P1
  al : Own .u8 256 5 w0.heap.size w va L
  ls : RecsOwn 3 enc 28 w0.heap.size w vl cs
  below : Below w0.heap.size w0 w
  d12 : ∀ b, fp g1 v1 b → ¬ fp g2 v2 b
  d1 : ∀ b, fp g1 v1 b → va.ownBlock ≠ some b ∧ vl.ownBlock ≠ some b ∧ ¬ X b
  d2 : ∀ b, fp g2 v2 b → va.ownBlock ≠ some b ∧ vl.ownBlock ≠ some b ∧ ¬ X b
  da : ∀ b, va.ownBlock = some b → vl.ownBlock ≠ some b ∧ ¬ X b
  dl : ∀ b, vl.ownBlock = some b → ¬ X b
  xl : ∀ b, X b → b < w.heap.size
theorem wr_fp {B g V R T : Nat} {w : World} {v : Value} (h : Wr B w g v V R T) : ∀ b, fp g v b → B ≤ b ∧ b < w.heap.size := by
  rintro k (rfl | hk)
  · exact ⟨h.low, h.lt⟩
  · exact h.own.lt k hk
abbrev D1 (g2 : Nat) (v2 va vl : Value) (X : Nat → Prop) (b : Nat) : Prop := fp g2 v2 b ∨ va.ownBlock = some b ∨ vl.ownBlock = some b ∨ X b
section
variable {w0 w w' : World} {g1 g2 : Nat} {v1 v1' v2 v2' va va' vl vl' : Value} {L L' : List Nat} {Z1 P1 T Z2 P2 Z1' P1' T' Z2' P2' : Nat} {cs cs' : List C3} {X X' : Nat → Prop}
theorem Bk.ws1 (h : Bk w0 w g1 g2 v1 v2 va vl L Z1 P1 T Z2 P2 cs X) : WS w0 w g1 v1 (Z1 / 256 ^ T) (P1 - 8 * T) T (D1 g2 v2 va vl X) :=
  ⟨h.W1, h.below, fun b hb => ⟨by
    rcases hb with hb | hb | hb | hb
    · exact (wr_fp h.W2 b hb).2
    · exact (h.al.lt b hb).2
    · exact (h.ls.lt b hb).2
    · exact h.xl b hb, fun hf => by
    rcases hb with hb | hb | hb | hb
    · exact h.d12 b hf hb
    · exact (h.d1 b hf).1 hb
    · exact (h.d1 b hf).2.1 hb
    · exact (h.d1 b hf).2.2 hb⟩⟩
theorem Bk.ws2 (h : Bk w0 w g1 g2 v1 v2 va vl L Z1 P1 T Z2 P2 cs X) : WS w0 w g2 v2 Z2 P2 0 (D1 g1 v1 va vl X) :=
  ⟨h.W2, h.below, fun b hb => ⟨by
    rcases hb with hb | hb | hb | hb
    · exact (wr_fp h.W1 b hb).2
    · exact (h.al.lt b hb).2
    · exact (h.ls.lt b hb).2
    · exact h.xl b hb, fun hf => by
    rcases hb with hb | hb | hb | hb
    · exact h.d12 b hb hf
    · exact (h.d2 b hf).1 hb
    · exact (h.d2 b hf).2.1 hb
    · exact (h.d2 b hf).2.2 hb⟩⟩
theorem Bk.mono (h : Bk w0 w g1 g2 v1 v2 va vl L Z1 P1 T Z2 P2 cs X) (hX : ∀ b, X' b → X b) : Bk w0 w g1 g2 v1 v2 va vl L Z1 P1 T Z2 P2 cs X' :=
  ⟨h.W1, h.W2, h.le, h.al, h.ls, h.below, h.d12, fun b hb => ⟨(h.d1 b hb).1, (h.d1 b hb).2.1, fun x => (h.d1 b hb).2.2 (hX b x)⟩, fun b hb => ⟨(h.d2 b hb).1, (h.d2 b hb).2.1, fun x => (h.d2 b hb).2.2 (hX b x)⟩, fun b hb => ⟨(h.da b hb).1, fun x => (h.da b hb).2 (hX b x)⟩, fun b hb x => h.dl b hb (hX b x), fun b hb => h.xl b (hX b hb)⟩
/-- nothing of the state is written -/
theorem Bk.frame {S : Nat → Prop} (h : Bk w0 w g1 g2 v1 v2 va vl L Z1 P1 T Z2 P2 cs X) (hk : Keeps S w w') (hs : ∀ b, S b → X b ∧ w0.heap.size ≤ b) : Bk w0 w' g1 g2 v1 v2 va vl L Z1 P1 T Z2 P2 cs X :=
  ⟨h.W1.frame hk (fun b hb hS => (h.d1 b hb).2.2 (hs b hS).1), h.W2.frame hk (fun b hb hS => (h.d2 b hb).2.2 (hs b hS).1), h.le, h.al.frame hk (fun b hb hS => (h.da b hb).2 (hs b hS).1), h.ls.frame hk (fun b hb hS => h.dl b hb (hs b hS).1),
   h.below.trans (hk.below w0.heap.size h.below.size (fun b hb => (hs b hb).2)), h.d12, h.d1, h.d2, h.da, h.dl, fun b hb => Nat.lt_of_lt_of_le (h.xl b hb) hk.size⟩
theorem Bk.ext (h : Bk w0 w g1 g2 v1 v2 va vl L Z1 P1 T Z2 P2 cs X) (hb : Below w.heap.size w w') : Bk w0 w' g1 g2 v1 v2 va vl L Z1 P1 T Z2 P2 cs (fun b => X b ∨ (w.heap.size ≤ b ∧ b < w'.heap.size)) := by
  have hf := h.frame (Keeps.of_ext hb (fun _ => False)) (fun _ e => e.elim)
  refine ⟨hf.W1, hf.W2, hf.le, hf.al, hf.ls, hf.below, hf.d12, fun b hb => ⟨(h.d1 b hb).1, (h.d1 b hb).2.1, ?_⟩, fun b hb => ⟨(h.d2 b hb).1, (h.d2 b hb).2.1, ?_⟩, fun b hb => ⟨(h.da b hb).1, ?_⟩, fun b hb => ?_, ?_⟩
  · rintro (x | x)
    · exact (h.d1 b hb).2.2 x
    · have := wr_fp h.W1 b hb; omega
  · rintro (x | x)
    · exact (h.d2 b hb).2.2 x
    · have := wr_fp h.W2 b hb; omega
  · rintro (x | x)
    · exact (h.da b hb).2 x
    · have := h.al.lt b hb; omega
  · rintro (x | x)
    · exact h.dl b hb x
    · have := h.ls.lt b hb; omega
  · rintro b (x | x)
    · exact hf.xl b x
    · exact x.2
theorem Bk.turn1 (h : Bk w0 w g1 g2 v1 v2 va vl L Z1 P1 T Z2 P2 cs X) (hw : WS w0 w' g1 v1' (Z1' / 256 ^ T') (P1' - 8 * T') T' (D1 g2 v2 va vl X)) (hk : Keeps (fun b => ¬ D1 g2 v2 va vl X b) w w') (hle : 8 * T' ≤ P1') : Bk w0 w' g1 g2 v1' v2 va vl L Z1' P1' T' Z2 P2 cs X :=
  ⟨hw.wr, h.W2.frame hk (fun b hb n => n (.inl hb)), hle, h.al.frame hk (fun b hb n => n (.inr (.inl hb))), h.ls.frame hk (fun b hb n => n (.inr (.inr (.inl hb)))), hw.below,
   fun b hb h2 => (hw.free b (.inl h2)).2 hb, fun b hb => ⟨fun e => (hw.free b (.inr (.inl e))).2 hb, fun e => (hw.free b (.inr (.inr (.inl e)))).2 hb, fun e => (hw.free b (.inr (.inr (.inr e)))).2 hb⟩, h.d2, h.da, h.dl, fun b hb => Nat.lt_of_lt_of_le (h.xl b hb) hk.size⟩
theorem Bk.turn2 (h : Bk w0 w g1 g2 v1 v2 va vl L Z1 P1 T Z2 P2 cs X) (hw : WS w0 w' g2 v2' Z2' P2' 0 (D1 g1 v1 va vl X)) (hk : Keeps (fun b => ¬ D1 g1 v1 va vl X b) w w') : Bk w0 w' g1 g2 v1 v2' va vl L Z1 P1 T Z2' P2' cs X :=
  ⟨h.W1.frame hk (fun b hb n => n (.inl hb)), hw.wr, h.le, h.al.frame hk (fun b hb n => n (.inr (.inl hb))), h.ls.frame hk (fun b hb n => n (.inr (.inr (.inl hb)))), hw.below,
   fun b hb h2 => (hw.free b (.inl hb)).2 h2, h.d1, fun b hb => ⟨fun e => (hw.free b (.inr (.inl e))).2 hb, fun e => (hw.free b (.inr (.inr (.inl e)))).2 hb, fun e => (hw.free b (.inr (.inr (.inr e)))).2 hb⟩, h.da, h.dl, fun b hb => Nat.lt_of_lt_of_le (h.xl b hb) hk.size⟩
def K1 (w0 w : World) (g1 g2 : Nat) (v2 va vl : Value) (L : List Nat) (Z1 P1 T Z2 P2 : Nat) (cs : List C3) (X : Nat → Prop) (e : Ending) (w' : World) : Prop :=
  e = .returned (.int .i64 0) ∧ (∃ v1, Bk w0 w' g1 g2 v1 v2 va vl L Z1 P1 T Z2 P2 cs X) ∧ Keeps (fun b => ¬ X b) w w'
def K2 (w0 w : World) (g1 g2 : Nat) (v1 va vl : Value) (L : List Nat) (Z1 P1 T Z2 P2 : Nat) (cs : List C3) (X : Nat → Prop) (e : Ending) (w' : World) : Prop :=
  e = .returned (.int .i64 0) ∧ (∃ v2, Bk w0 w' g1 g2 v1 v2 va vl L Z1 P1 T Z2 P2 cs X) ∧ Keeps (fun b => ¬ X b) w w'
theorem Bk.put1 (h : Bk w0 w g1 g2 v1 v2 va vl L Z1 P1 T Z2 P2 cs X) (n k : Nat) (hk : k ≤ 32) (hn : n < 2 ^ k) (hP : P1 ≤ 562949953421312) (n' k' : Int) (en : n' = (n : Int)) (ek : k' = (k : Int)) :
    Calls Try.prog 7 #[.pointer (some ⟨g1, 0, none⟩), .int .u32 n', .int .i64 k'] w (K1 w0 w g1 g2 v2 va vl L (Z1 + n * 2 ^ P1) (P1 + k) T Z2 P2 cs X) := by
  have hle := h.le
  refine (put_ws h.ws1 n k ((Z1 + n * 2 ^ P1) / 256 ^ T) (P1 + k - 8 * T) hk hn (by omega) (div_more Z1 n P1 T h.le) (by omega) n' k' en ek).mono ?_
  rintro e w' ⟨rfl, v', hw, hkp⟩
  exact ⟨rfl, ⟨v', h.turn1 hw hkp (by omega)⟩, hkp.mono (fun b hb hx => hb (.inr (.inr (.inr hx))))⟩
theorem Bk.put2 (h : Bk w0 w g1 g2 v1 v2 va vl L Z1 P1 T Z2 P2 cs X) (n k : Nat) (hk : k ≤ 32) (hn : n < 2 ^ k) (hP : P2 ≤ 562949953421312) (n' k' : Int) (en : n' = (n : Int)) (ek : k' = (k : Int)) :
    Calls Try.prog 7 #[.pointer (some ⟨g2, 0, none⟩), .int .u32 n', .int .i64 k'] w (K2 w0 w g1 g2 v1 va vl L Z1 P1 T (Z2 + n * 2 ^ P2) (P2 + k) cs X) := by
  refine (put_ws h.ws2 n k _ _ hk hn (by omega) rfl rfl n' k' en ek).mono ?_
  rintro e w' ⟨rfl, v', hw, hkp⟩
  exact ⟨rfl, ⟨v', h.turn2 hw hkp⟩, hkp.mono (fun b hb hx => hb (.inr (.inr (.inr hx))))⟩
theorem Bk.align1 (h : Bk w0 w g1 g2 v1 v2 va vl L Z1 P1 T Z2 P2 cs X) (hP : P1 ≤ 562949953421312) :
    Calls Try.prog 6 #[.pointer (some ⟨g1, 0, none⟩)] w (K1 w0 w g1 g2 v2 va vl L Z1 (upP P1) T Z2 P2 cs X) := by
  have hle := h.le
  refine (align_ws h.ws1 (upP P1 - 8 * T) (by omega) (by unfold upP; omega)).mono ?_
  rintro e w' ⟨rfl, v', hw, hkp⟩
  exact ⟨rfl, ⟨v', h.turn1 hw hkp (by unfold upP; omega)⟩, hkp.mono (fun b hb hx => hb (.inr (.inr (.inr hx))))⟩
theorem Bk.align2 (h : Bk w0 w g1 g2 v1 v2 va vl L Z1 P1 T Z2 P2 cs X) (hP : P2 ≤ 562949953421312) :
    Calls Try.prog 6 #[.pointer (some ⟨g2, 0, none⟩)] w (K2 w0 w g1 g2 v1 va vl L Z1 P1 T Z2 (upP P2) cs X) := by
  refine (align_ws h.ws2 (upP P2) (by omega) rfl).mono ?_
  rintro e w' ⟨rfl, v', hw, hkp⟩
  exact ⟨rfl, ⟨v', h.turn2 hw hkp⟩, hkp.mono (fun b hb hx => hb (.inr (.inr (.inr hx))))⟩
theorem Bk.take1 (h : Bk w0 w g1 g2 v1 v2 va vl L Z1 P1 T Z2 P2 cs X) (hP : P1 ≤ 562949953421312) :
    Calls Try.prog 8 #[.pointer (some ⟨g1, 0, none⟩)] w (fun e w' => ∃ u v1', e = .returned u ∧ Nums .u8 256 w' u (bytesN (Z1 / 256 ^ T) ((P1 - 8 * T) / 8)) ∧ Bk w0 w' g1 g2 v1' v2 va vl L Z1 P1 (T + (P1 - 8 * T) / 8) Z2 P2 cs (fun b => X b ∨ u.ownBlock = some b) ∧ Keeps (fun b => ¬ X b) w w') := by
  have hle := h.le
  refine (take_ws h.ws1 (by omega)).mono ?_
  rintro e w' ⟨u, v', rfl, hn, hw, hkp, hu⟩
  refine ⟨u, v', rfl, hn, ?_, hkp.mono (fun b hb hx => hb (.inr (.inr (.inr hx))))⟩
  have hw2 : WS w0 w' g1 v' (Z1 / 256 ^ (T + (P1 - 8 * T) / 8)) (P1 - 8 * (T + (P1 - 8 * T) / 8)) (T + (P1 - 8 * T) / 8) (fun k => D1 g2 v2 va vl X k ∨ u.ownBlock = some k) := by
    have e1 : Z1 / 256 ^ T / 256 ^ ((P1 - 8 * T) / 8) = Z1 / 256 ^ (T + (P1 - 8 * T) / 8) := by rw [Nat.div_div_eq_div_mul, ← Nat.pow_add]
    have e2 : (P1 - 8 * T) % 8 = P1 - 8 * (T + (P1 - 8 * T) / 8) := by omega
    rw [← e1, ← e2]; exact hw
  have hb := h.turn1 (hw2.mono (fun b hb => .inl hb)) hkp (by omega)
  exact ⟨hb.W1, hb.W2, hb.le, hb.al, hb.ls, hb.below, hb.d12, fun b h1 => ⟨(hb.d1 b h1).1, (hb.d1 b h1).2.1, fun x => x.elim (hb.d1 b h1).2.2 (fun e => (hw2.free b (.inr e)).2 h1)⟩, fun b h1 => ⟨(hb.d2 b h1).1, (hb.d2 b h1).2.1, fun x => x.elim (hb.d2 b h1).2.2 (fun e => hu b e (.inl h1))⟩, fun b h1 => ⟨(hb.da b h1).1, fun x => x.elim (hb.da b h1).2 (fun e => hu b e (.inr (.inl h1)))⟩, fun b h1 x => x.elim (hb.dl b h1) (fun e => hu b e (.inr (.inr (.inl h1)))),
    fun b x => x.elim (hb.xl b) (fun e => (hw2.free b (.inr e)).1)⟩
theorem grown_keeps {v : Value} (hg : w.grownBy w' v.ownBlock) : Keeps (fun k => v.ownBlock = some k) w w' :=
  ⟨hg.os, hg.tape, hg.output, hg.size, fun k hk hn => hg.block k hk (fun e => hn e.symm)⟩
theorem Bk.app_al (h : Bk w0 w g1 g2 v1 v2 va vl L Z1 P1 T Z2 P2 cs X) (ho : Own .u8 256 5 w0.heap.size w' va' L') (hg : w.grownBy w' va.ownBlock) (hv : va'.ownBlock = va.ownBlock ∨ ∀ b, va'.ownBlock = some b → w.heap.size ≤ b) : Bk w0 w' g1 g2 v1 v2 va' vl L' Z1 P1 T Z2 P2 cs X := by
  have hk := grown_keeps hg
  have new : ∀ b, va'.ownBlock = some b → va.ownBlock = some b ∨ w.heap.size ≤ b := fun b hb => by
    rcases hv with e | e
    · exact .inl (e ▸ hb)
    · exact .inr (e b hb)
  refine ⟨h.W1.frame hk (fun b hb e => (h.d1 b hb).1 e), h.W2.frame hk (fun b hb e => (h.d2 b hb).1 e), h.le, ho, h.ls.frame hk (fun b hb e => (h.da b e).1 hb), h.below.trans (hk.below w0.heap.size h.below.size (fun b hb => (h.al.lt b hb).1)), h.d12,
    fun b hb => ⟨fun e => ?_, (h.d1 b hb).2⟩, fun b hb => ⟨fun e => ?_, (h.d2 b hb).2⟩, fun b hb => ⟨fun e => ?_, fun e => ?_⟩, h.dl, fun b hb => Nat.lt_of_lt_of_le (h.xl b hb) hk.size⟩
  · rcases new b e with e | e
    · exact (h.d1 b hb).1 e
    · have := wr_fp h.W1 b hb; omega
  · rcases new b e with e | e
    · exact (h.d2 b hb).1 e
    · have := wr_fp h.W2 b hb; omega
  · rcases new b hb with e2 | e2
    · exact (h.da b e2).1 e
    · have := h.ls.lt b e; omega
  · rcases new b hb with e2 | e2
    · exact (h.da b e2).2 e
    · have := h.xl b e; omega
theorem Bk.app_ls (h : Bk w0 w g1 g2 v1 v2 va vl L Z1 P1 T Z2 P2 cs X) (ho : RecsOwn 3 enc 28 w0.heap.size w' vl' cs') (hg : w.grownBy w' vl.ownBlock) (hv : vl'.ownBlock = vl.ownBlock ∨ vl'.ownBlock = some w.heap.size) : Bk w0 w' g1 g2 v1 v2 va vl' L Z1 P1 T Z2 P2 cs' X := by
  have hk := grown_keeps hg
  have new : ∀ b, vl'.ownBlock = some b → vl.ownBlock = some b ∨ w.heap.size ≤ b := fun b hb => by
    rcases hv with e | e
    · exact .inl (e ▸ hb)
    · rw [e] at hb; exact .inr (by simp only [Option.some.injEq] at hb; omega)
  refine ⟨h.W1.frame hk (fun b hb e => (h.d1 b hb).2.1 e), h.W2.frame hk (fun b hb e => (h.d2 b hb).2.1 e), h.le, h.al.frame hk (fun b hb e => (h.da b hb).1 e), ho, h.below.trans (hk.below w0.heap.size h.below.size (fun b hb => (h.ls.lt b hb).1)), h.d12,
    fun b hb => ⟨(h.d1 b hb).1, fun e => ?_, (h.d1 b hb).2.2⟩, fun b hb => ⟨(h.d2 b hb).1, fun e => ?_, (h.d2 b hb).2.2⟩, fun b hb => ⟨fun e => ?_, (h.da b hb).2⟩, fun b hb e => ?_, fun b hb => Nat.lt_of_lt_of_le (h.xl b hb) hk.size⟩
  · rcases new b e with e | e
    · exact (h.d1 b hb).2.1 e
    · have := wr_fp h.W1 b hb; omega
  · rcases new b e with e | e
    · exact (h.d2 b hb).2.1 e
    · have := wr_fp h.W2 b hb; omega
  · rcases new b e with e2 | e2
    · exact (h.da b hb).1 e2
    · have := h.al.lt b hb; omega
  · rcases new b hb with e2 | e2
    · exact h.dl b e2 e
    · have := h.xl b e; omega
/-- the second writer's bytes, at the end -/
theorem Bk.take2 (h : Bk w0 w g1 g2 v1 v2 va vl L Z1 P1 T Z2 P2 cs X) (hP : P2 ≤ 562949953421312) :
    Calls Try.prog 8 #[.pointer (some ⟨g2, 0, none⟩)] w (fun e w' => ∃ u, e = .returned u ∧ Nums .u8 256 w' u (bytesN Z2 (P2 / 8)) ∧ Wr w0.heap.size w' g1 v1 (Z1 / 256 ^ T) (P1 - 8 * T) T ∧ Own .u8 256 5 w0.heap.size w' va L ∧ RecsOwn 3 enc 28 w0.heap.size w' vl cs ∧ Below w0.heap.size w0 w') := by
  refine (take_ws h.ws2 (by omega)).mono ?_
  rintro e w' ⟨u, v', rfl, hn, hw, hkp, hu⟩
  exact ⟨u, rfl, hn, h.W1.frame hkp (fun b hb n => n (.inl hb)), h.al.frame hkp (fun b hb n => n (.inr (.inl hb))), h.ls.frame hkp (fun b hb n => n (.inr (.inr (.inl hb)))), hw.below⟩
end
/-- two new writers -/
theorem Bk.new (w : World) : Bk w ((w.alloc (.cells #[.bool true, .slice none 0 0, .int .i64 0] 46)).alloc (.cells #[.bool true, .slice none 0 0, .int .i64 0] 46)) w.heap.size (w.heap.size + 1) (.slice none 0 0) (.slice none 0 0) (.slice none 0 0) (.slice none 0 0) [] 0 0 0 0 0 [] (fun _ => False) := by
  have h1 := Wr.new w w.heap.size (Nat.le_refl _)
  have sz : (w.alloc (.cells #[.bool true, .slice none 0 0, .int .i64 0] 46)).heap.size = w.heap.size + 1 := by simp
  have h2 := Wr.new (w.alloc (.cells #[.bool true, .slice none 0 0, .int .i64 0] 46)) w.heap.size (by omega)
  rw [sz] at h2
  refine ⟨?_, h2, Nat.le_refl _, Own.nil _ _ _ _ _, RecsOwn.nil _ _ _, ?_, ?_, ?_, ?_, ?_, ?_, fun _ h => h.elim⟩
  · exact h1.frame (Keeps.of_ext (ext_alloc _ _) (fun _ => False)) (fun _ _ => id)
  · exact (ext_alloc w _).trans ((ext_alloc _ _).mono (by omega))
  · rintro b (rfl | e) (e2 | e2)
    · omega
    · simp [Value.ownBlock] at e2
    · simp [Value.ownBlock] at e
    · simp [Value.ownBlock] at e
  · rintro b _; exact ⟨by simp [Value.ownBlock], by simp [Value.ownBlock], id⟩
  · rintro b _; exact ⟨by simp [Value.ownBlock], by simp [Value.ownBlock], id⟩
  · intro b e; simp [Value.ownBlock] at e
  · intro b e; simp [Value.ownBlock] at e
end Go.Proofs.Ytdjnpgkgiofnnaa.BackM
