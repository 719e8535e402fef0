/- The walks of package bits: what a writer and a reader hold, and what each call does to it. -/
import Derived.Test.YtighlefajekloaaRows
import Derived.Test.YtighlefajekloaaBitsM
import Derived.Test.YtighlefajekloaaLow
import Derived.BigRegion
import Derived.ChangeAlike
set_option linter.unusedVariables false
set_option linter.unusedSimpArgs false
namespace Go.Proofs.Ytighlefajekloaa.BitsW
open Go.RowKit BitsM Base Low

/-- A WRITER at block g: R bits behind the T bytes that were taken, as the number V, its bytes the slice v. -/
structure Wr (base : Nat) (w : World) (g : Nat) (v : Value) (V R T : Nat) : Prop where
  blk : w.heap[g]? = some (.cells #[.bool true, v, .int .i64 ((8 * T + R : Nat) : Int)] 104 (0, 0))
  own : Own .u8 256 5 base w v (bytesOf V R)
  val : V < 2 ^ R
  apart : v.ownBlock ≠ some g
  low : base ≤ g
/-- what a writer may turn -/
def fp (g : Nat) (v : Value) : Nat → Prop := fun k => k = g ∨ v.ownBlock = some k
theorem Wr.lt {base g V R T : Nat} {w : World} {v : Value} (h : Wr base w g v V R T) : g < w.heap.size := lt_of_heap h.blk
theorem Wr.frame {base g V R T : Nat} {w w' : World} {v : Value} {S : Nat → Prop} (h : Wr base w g v V R T) (hf : Keeps S w w') (hn : ∀ k, fp g v k → ¬ S k) : Wr base w' g v V R T :=
  ⟨by rw [hf.block g h.lt (hn g (.inl rfl))]; exact h.blk, h.own.frame hf (fun b hb => hn b (.inr hb)), h.val, h.apart, h.low⟩

theorem newWriter_any (w : World) :
    Calls Try.prog 49 #[] w fun e w' => e = .returned (.pointer (some ⟨w.heap.size, 0, none⟩)) ∧ w' = w.alloc (.cells #[.bool true, .slice none 0 0, .int .i64 0] 104) := by
  go_enter Try.func49, Try.ntmps49
  go_wp2
  go_ret
  exact ⟨rfl, rfl⟩
theorem Wr.new (w : World) (base : Nat) (hb : base ≤ w.heap.size) : Wr base (w.alloc (.cells #[.bool true, .slice none 0 0, .int .i64 0] 104)) w.heap.size (.slice none 0 0) 0 0 0 :=
  ⟨heap_alloc_new _ _, Own.nil _ _ _ _ _, by simp, by simp [Value.ownBlock], hb⟩

/-- inside -/
theorem inside_any (g : Nat) (p : Nat) (hp : p ≤ 9223372036854775807) (w : World) (hc : w.cell? ⟨g, 2, none⟩ = some (.int .i64 (p : Int))) :
    Calls Try.prog 64 #[.pointer (some ⟨g, 0, none⟩)] w fun e w' => e = .returned (.int .i64 ((p % 8 : Nat) : Int)) ∧ w = w' := by
  go_enter Try.func64, Try.ntmps64
  go_wp2
  go_ret
  exact ⟨ret_int (by omega), rfl⟩

theorem inside_at (g p a : Nat) (ha : p % 8 = a) (hp : p ≤ 9223372036854775807) (w : World) (hc : w.cell? ⟨g, 2, none⟩ = some (.int .i64 (p : Int))) :
    Calls Try.prog 64 #[.pointer (some ⟨g, 0, none⟩)] w fun e w' => e = .returned (.int .i64 (a : Int)) ∧ w = w' := by
  subst ha; exact inside_any g p hp w hc
theorem inside_zero (g p : Nat) (ha : p % 8 = 0) (hp : p ≤ 9223372036854775807) (w : World) (hc : w.cell? ⟨g, 2, none⟩ = some (.int .i64 (p : Int))) :
    Calls Try.prog 64 #[.pointer (some ⟨g, 0, none⟩)] w fun e w' => e = .returned (.int .i64 0) ∧ w = w' := inside_at g p 0 ha hp w hc
theorem test_big (n k : Nat) (h : 2 ^ k ≤ n) : (((n : Int) / 2 ^ k != 0)) = true := by
  have e : (n : Int) / 2 ^ k = ((n / 2 ^ k : Nat) : Int) := by simp
  have : 0 < n / 2 ^ k := Nat.div_pos h (Nat.pow_pos (by omega))
  rw [e]; simp; omega
theorem test_small (n k : Nat) (h : n < 2 ^ k) : (((n : Int) / 2 ^ k != 0)) = false := by
  have e : (n : Int) / 2 ^ k = ((n / 2 ^ k : Nat) : Int) := by simp
  rw [e, Nat.div_eq_of_lt h]; rfl

set_option maxRecDepth 100000 in
set_option maxHeartbeats 1000000 in
theorem put_bad (base g V R T : Nat) (v : Value) (w : World) (h : Wr base w g v V R T) (n : Nat) (hn : n ≤ 4294967295) (k : Int) (hk1 : -9223372036854775808 ≤ k) (hk2 : k ≤ 9223372036854775807)
    (hbad : k < 0 ∨ 32 < k ∨ 2 ^ k.toNat ≤ n) :
    Calls Try.prog 63 #[.pointer (some ⟨g, 0, none⟩), .int .u32 (n : Int), .int .i64 k] w fun e w' => e = .returned (.int .i64 2) ∧ w = w' := by
  have c0 := (cell_of_row _ _ 0 _ _ _ h.blk)
  simp at c0
  by_cases h1 : k < 0
  · have d1 : decide (k < 0) = true := by simpa using h1
    go_enter Try.func63, Try.ntmps63
    go_wp2
    go_ret
    exact ⟨rfl, rfl⟩
  · have d1 : decide (k < 0) = false := by simpa using h1
    by_cases h2 : 32 < k
    · have d2 : decide (32 < k) = true := by simpa using h2
      go_enter Try.func63, Try.ntmps63
      go_wp2
      go_ret
      exact ⟨rfl, rfl⟩
    · have d2 : decide (32 < k) = false := by simpa using h2
      obtain ⟨k, rfl⟩ := Int.eq_ofNat_of_zero_le (show 0 ≤ k by omega)
      have hq : 2 ^ k ≤ n := by
        rcases hbad with h | h | h
        · omega
        · omega
        · simpa using h
      have d3 := test_big n k hq
      clear hq hbad
      go_enter Try.func63, Try.ntmps63
      go_wp2
      go_ret
      exact ⟨rfl, rfl⟩

/-- A WRITER WITHIN Put's turn: its last byte is there, open. -/
structure Mid (base : Nat) (W : World) (g b cap V R T : Nat) : Prop where
  blk : W.heap[g]? = some (.cells #[.bool true, .slice (some ⟨b, 0, none⟩) (R / 8 + 1) cap, .int .i64 ((8 * T + R : Nat) : Int)] 104 (0, 0))
  own : Own .u8 256 5 base W (.slice (some ⟨b, 0, none⟩) (R / 8 + 1) cap) (bytesN V (R / 8 + 1))
  val : V < 2 ^ R
  ne : b ≠ g
  low : base ≤ g
/-- behind Put's append and the store of the row into the writer -/
theorem mid_room {base g V R T : Nat} {v v2 : Value} {w w2 : World} {o : Obj} (hW : Wr base w g v V R T) (h8 : R % 8 = 0) (hown : Own .u8 256 5 base w2 v2 (bytesOf V R ++ [0])) (hg : (w.alloc o).grownBy w2 v.ownBlock)
    (hfr : v2.ownBlock = v.ownBlock ∨ ∀ b, v2.ownBlock = some b → (w.alloc o).heap.size ≤ b) :
    ∃ b cap, v2 = .slice (some ⟨b, 0, none⟩) (R / 8 + 1) cap ∧ w2.cell? ⟨g, 1, none⟩ = some v ∧ w2.frozen? ⟨g, 1, none⟩ = false ∧ Mid base (w2.setCell ⟨g, 1, none⟩ v2) g b cap V R T ∧
      (v2.ownBlock = v.ownBlock ∨ ∀ b, v2.ownBlock = some b → w.heap.size ≤ b) ∧ Keeps (fp g v) w (w2.setCell ⟨g, 1, none⟩ v2) := by
  rw [bytes_room V R hW.val h8] at hown
  have hl : (bytesN V (R / 8 + 1)).length = R / 8 + 1 := bytesN_length _ _
  obtain ⟨b, cap, rfl, hcap, hbb, hbs, hcl, hfz, hset⟩ := hown.at_ (by omega)
  have hgs := hW.lt
  have hs : (w.alloc o).heap.size = w.heap.size + 1 := by simp
  have hne : b ≠ g := by
    rintro rfl
    rcases hfr with h | h
    · exact hW.apart h.symm
    · have := h b rfl; omega
  have hblk : w2.heap[g]? = some (.cells #[.bool true, v, .int .i64 ((8 * T + R : Nat) : Int)] 104 (0, 0)) := by
    rw [hg.block g (by omega) (fun h => hW.apart h.symm), heap_alloc_old w o hgs]; exact hW.blk
  have hk : Keeps (fp g v) w w2 := ((Keeps.refl _ _).alloc o).grown hg (fun k hk => .inl (.inr hk))
  have hk2 : Keeps (fun k => k = g) w2 (w2.setCell ⟨g, 1, none⟩ (.slice (some ⟨b, 0, none⟩) (bytesN V (R / 8 + 1)).length cap)) := (Keeps.refl _ _).setCell g 1 _ (.inl rfl)
  refine ⟨b, cap, by rw [hl], ?_, frozen_of_row _ _ 1 _ _ hblk, ⟨?_, ?_, hW.val, hne, hW.low⟩, ?_, ?_⟩
  · rw [cell_of_row _ _ 1 _ _ _ hblk]; rfl
  · rw [heap_setCell_same _ _ _ _ _ _ hblk, hl]; rfl
  · have := hown.frame hk2 (fun b' hb' => by simp only [Value.ownBlock, Option.some.injEq] at hb'; subst hb'; exact hne)
    rw [hl] at this ⊢; exact this
  · rcases hfr with h | h
    · exact .inl h
    · exact .inr fun b' hb' => by have := h b' hb'; omega
  · exact hk.setCell g 1 _ (.inl (.inl rfl))
theorem mid_same {base g V R T : Nat} {v : Value} {w : World} (hW : Wr base w g v V R T) (h8 : R % 8 ≠ 0) : ∃ b cap, v = .slice (some ⟨b, 0, none⟩) (R / 8 + 1) cap ∧ Mid base w g b cap V R T := by
  have hown := hW.own
  rw [bytes_same V R h8] at hown
  have hl : (bytesN V (R / 8 + 1)).length = R / 8 + 1 := bytesN_length _ _
  obtain ⟨b, cap, rfl, _⟩ := hown.at_ (by omega)
  have hb := hW.blk
  rw [hl] at hown hb ⊢
  refine ⟨b, cap, rfl, hb, hown, hW.val, ?_, hW.low⟩
  rintro rfl; exact hW.apart rfl
/-- the end of Put's turn -/
theorem mid_done {base g b cap V R T x s : Nat} {W : World} (h : Mid base W g b cap V R T) (hx : x < 2 ^ s) (hs : 1 ≤ s) (hps : R % 8 + s ≤ 8) :
    Wr base ((W.setCell ⟨b, R / 8, none⟩ (.int .u8 ((V / 256 ^ (R / 8) % 256 ||| x * 2 ^ (R % 8) : Nat) : Int))).setCell ⟨g, 2, none⟩ (.int .i64 ((8 * T + (R + s) : Nat) : Int))).drew g
      (.slice (some ⟨b, 0, none⟩) (R / 8 + 1) cap) (V + x * 2 ^ R) (R + s) T ∧
    Keeps (fun k => k = g ∨ k = b) W ((W.setCell ⟨b, R / 8, none⟩ (.int .u8 ((V / 256 ^ (R / 8) % 256 ||| x * 2 ^ (R % 8) : Nat) : Int))).setCell ⟨g, 2, none⟩ (.int .i64 ((8 * T + (R + s) : Nat) : Int))).drew := by
  have hl : (bytesN V (R / 8 + 1)).length = R / 8 + 1 := bytesN_length _ _
  obtain ⟨b', cap', e, _, _, hbs, _, _, hset⟩ := h.own.at_ (by omega)
  simp only [Value.slice.injEq, Option.some.injEq, Addr.mk.injEq, and_true, true_and] at e
  obtain ⟨rfl, _, rfl⟩ := e
  have hor : V / 256 ^ (R / 8) % 256 ||| x * 2 ^ (R % 8) < 256 := by
    have : x * 2 ^ (R % 8) < 2 ^ 8 := by
      have h1 : (x + 1) * 2 ^ (R % 8) ≤ 2 ^ s * 2 ^ (R % 8) := Nat.mul_le_mul_right _ hx
      have h2 : 2 ^ s * 2 ^ (R % 8) ≤ 2 ^ 8 := by rw [← Nat.pow_add]; exact Nat.pow_le_pow_right (by omega) (by omega)
      have h3 : 0 < 2 ^ (R % 8) := Nat.pow_pos (by omega)
      rw [Nat.add_mul] at h1; omega
    exact Nat.or_lt_two_pow (n := 8) (by omega) this
  have hown := hset (R / 8) _ hor
  rw [bytes_put V R x s h.val hx hs hps] at hown
  have hk1 : Keeps (fun k => k = b) W (W.setCell ⟨b, R / 8, none⟩ (.int .u8 ((V / 256 ^ (R / 8) % 256 ||| x * 2 ^ (R % 8) : Nat) : Int))) := (Keeps.refl _ _).setCell b _ _ (.inl rfl)
  generalize W.setCell ⟨b, R / 8, none⟩ (.int .u8 ((V / 256 ^ (R / 8) % 256 ||| x * 2 ^ (R % 8) : Nat) : Int)) = W1 at *
  have hblk : W1.heap[g]? = _ := (hk1.block g (lt_of_heap h.blk) (fun e => h.ne e.symm)).trans h.blk
  have hk2 : Keeps (fun k => k = g) W1 (W1.setCell ⟨g, 2, none⟩ (.int .i64 ((8 * T + (R + s) : Nat) : Int))) := (Keeps.refl _ _).setCell g _ _ (.inl rfl)
  refine ⟨⟨?_, ?_, ?_, ?_, h.low⟩, ((hk1.mono (fun k hk => .inr hk)).trans hk2 (fun k hk => .inl (.inl hk))).drew⟩
  · show (W1.setCell _ _).heap[g]? = _
    rw [heap_setCell_same _ _ _ _ _ _ hblk]; rfl
  · exact (hown.frame hk2 (fun b' hb' => by simp only [Value.ownBlock, Option.some.injEq] at hb'; subst hb'; exact h.ne)).drew
  · have h1 : (x + 1) * 2 ^ R ≤ 2 ^ s * 2 ^ R := Nat.mul_le_mul_right _ hx
    have := h.val
    rw [Nat.add_mul, Nat.one_mul, ← Nat.pow_add] at h1
    rw [Nat.add_comm R s]; omega
  · intro e; simp only [Value.ownBlock, Option.some.injEq] at e; exact h.ne e

theorem or_part (y n k a : Nat) (hy : y < 256) (hn : n < 2 ^ k) (ha : a < 8) : bits BinOp.or IntKind.u8 (y : Int) ((n : Int) % 256 * 2 ^ a % 256) = ((y ||| n % 2 ^ (min (8 - a) k) * 2 ^ a : Nat) : Int) := by
  have e : (n : Int) % 256 * 2 ^ a % 256 = ((n % 256 * 2 ^ a % 256 : Nat) : Int) := by rw [Int.natCast_emod, Int.natCast_mul, Int.natCast_emod, Int.natCast_pow]; rfl
  rw [e, u8_or_nat y _ hy (Nat.mod_lt _ (by omega)), put_part n k a hn ha]

/-- what Put leaves -/
def PutTo (base g T : Nat) (v : Value) (w : World) (V R : Nat) (e : Ending) (w' : World) : Prop :=
  e = .returned (.int .i64 0) ∧ ∃ v', Wr base w' g v' V R T ∧ Keeps (fp g v) w w' ∧ (v'.ownBlock = v.ownBlock ∨ ∀ b, v'.ownBlock = some b → w.heap.size ≤ b)

theorem put_round {base g V R T n k V' R' n' gk b2 cap2 st : Nat} {v v' : Value} {w wr wc W4 : World}
    (hZ : (v'.ownBlock = v.ownBlock ∨ ∀ b, v'.ownBlock = some b → w.heap.size ≤ b) ∧ (some b2 = v'.ownBlock ∨ wr.heap.size ≤ b2) ∧ Keeps (fp g v') wr wc ∧ Keeps (fp g v) w wr ∧ R' + gk = R + k)
    (hX : n' < 2 ^ gk ∧ R' + gk = R + k ∧ V' + n' * 2 ^ R' = V + n * 2 ^ R) (hm : Wr base W4 g (.slice (some ⟨b2, 0, none⟩) (R' / 8 + 1) cap2) (V' + n' % 2 ^ st * 2 ^ R') (R' + st) T ∧ Keeps (fun k => k = g ∨ k = b2) wc W4) (hs2 : st ≤ gk) (hk' : gk ≤ k) :
    gk - st ≤ k ∧ n' / 2 ^ st < 2 ^ (gk - st) ∧ R' + st + (gk - st) = R + k ∧ V' + n' % 2 ^ st * 2 ^ R' + n' / 2 ^ st * 2 ^ (R' + st) = V + n * 2 ^ R ∧
      Wr base W4 g (.slice (some ⟨b2, 0, none⟩) (R' / 8 + 1) cap2) (V' + n' % 2 ^ st * 2 ^ R') (R' + st) T ∧ Keeps (fp g v) w W4 ∧
      ((Value.slice (some ⟨b2, 0, none⟩) (R' / 8 + 1) cap2).ownBlock = v.ownBlock ∨ ∀ b, (Value.slice (some ⟨b2, 0, none⟩) (R' / 8 + 1) cap2).ownBlock = some b → w.heap.size ≤ b) := by
  obtain ⟨hv', hfr, hkp, hf, hRk⟩ := hZ
  obtain ⟨h1, h2, h3⟩ := hX
  have hb2 : some b2 = v.ownBlock ∨ w.heap.size ≤ b2 := by
    rcases hfr with h | h
    · rcases hv' with h' | h'
      · exact .inl (h.trans h')
      · exact .inr (h' b2 h.symm)
    · exact .inr (Nat.le_trans hf.size h)
  refine ⟨by omega, put_next n' gk st h1 hs2, by omega, by rw [put_num]; exact h3, hm.1, ?_, ?_⟩
  · refine (hf.trans hkp ?_).trans hm.2 ?_
    · rintro k (rfl | hk)
      · exact .inl (.inl rfl)
      · rcases hv' with h' | h'
        · exact .inl (.inr (h'.symm.trans hk))
        · exact .inr (h' k hk)
    · rintro k (rfl | rfl)
      · exact .inl (.inl rfl)
      · rcases hb2 with h | h
        · exact .inl (.inr h.symm)
        · exact .inr h
  · rcases hb2 with h | h
    · exact .inl h
    · exact .inr fun b hb => by simp only [Value.ownBlock, Option.some.injEq] at hb; omega

set_option maxRecDepth 100000 in
set_option maxHeartbeats 2000000 in
theorem put_any (base g V R T : Nat) (v : Value) (w : World) (h : Wr base w g v V R T) (n k : Nat) (hk : k ≤ 32) (hn : n < 2 ^ k) (hR : 8 * T + R ≤ 562949953421312) :
    Calls Try.prog 63 #[.pointer (some ⟨g, 0, none⟩), .int .u32 (n : Int), .int .i64 (k : Int)] w (PutTo base g T v w (V + n * 2 ^ R) (R + k)) := by
  have c0 := (cell_of_row _ _ 0 _ _ _ h.blk)
  simp at c0
  have hn32 : n ≤ 4294967295 := by
    have : 2 ^ k ≤ 2 ^ 32 := Nat.pow_le_pow_right (by omega) hk
    omega
  have d1 : decide ((k : Int) < 0) = false := by simp
  have d2 : decide ((32 : Int) < (k : Int)) = false := by simp; omega
  have d3 := test_small n k hn
  have hH := Lib.hid h
  have hN := Lib.hid hn
  clear h hn
  go_enter Try.func63, Try.ntmps63
  go_wp2
  go_loopg [1, 2] k (fun k' a1 a2 wr => ∃ n' V' R' v', a1 = .int .u32 ((n' : Nat) : Int) ∧ a2 = .int .i64 ((k' : Nat) : Int) ∧ k' ≤ k ∧ n' < 2 ^ k' ∧ R' + k' = R + k ∧ V' + n' * 2 ^ R' = V + n * 2 ^ R ∧ Wr base wr g v' V' R' T ∧ Keeps (fp g v) w wr ∧ (v'.ownBlock = v.ownBlock ∨ ∀ b, v'.ownBlock = some b → w.heap.size ≤ b))
  case atStart => exact ⟨n, V, R, v, rfl, rfl, Nat.le_refl _, hN.out, rfl, rfl, hH.out, Keeps.refl _ _, .inl rfl⟩
  case round =>
    obtain ⟨n', V', R', v', rfl, rfl, hk', hn', hRk, hVn, hW, hf, hv'⟩ := hrel
    have hX := Lib.hid (show n' < 2 ^ gk ∧ R' + gk = R + k ∧ V' + n' * 2 ^ R' = V + n * 2 ^ R from ⟨hn', hRk, hVn⟩)
    have hWr := Lib.hid hW
    clear hn' hVn hW
    by_cases hpos : 0 < gk
    · have hbk := Lib.hid hWr.out.blk
      have c1 := (cell_of_row _ _ 1 _ _ _ hbk.out)
      have c2 := (cell_of_row _ _ 2 _ _ _ hbk.out)
      simp only [List.getElem?_toArray, List.getElem?_cons_succ, List.getElem?_cons_zero] at c1 c2
      have hP : 8 * T + R' ≤ 562949953421400 := by omega
      have hgl := hWr.out.lt
      have ha8 : R' % 8 < 8 := Nat.mod_lt _ (by omega)
      obtain ⟨at_, hat⟩ : ∃ a, a = R' % 8 := ⟨_, rfl⟩
      have hAt := Lib.hid hat
      rw [← hat] at ha8
      clear hat
      go_upto_if 39 with (go_at_call 64; refine (inside_at g (8 * T + R') at_ (by have := hAt.out; omega) (by omega) _ c2).mono ?_; rintro e w1 ⟨rfl, rfl⟩)
      go_cut [] (fun wc => ∃ b cap, Mid base wc g b cap V' R' T ∧ Keeps (fp g v') wr wc ∧ (some b = v'.ownBlock ∨ wr.heap.size ≤ b))
      case first =>
        by_cases h8 : at_ = 0
        · have hb8 : R' % 8 = 0 := by have := hAt.out; omega
          have hO := Lib.hid ((hWr.out.own.alloc (.cells #[.int .u8 ((0 : Nat) : Int)] 5)))
          have hN1 := Lib.hid (nums_one .u8 256 5 wr 0 (by omega))
          have hlenB : (bytesOf V' R').length = R' / 8 := by rw [bytesOf, bytesN_length]; omega
          have hb1 := Lib.hid (show ((bytesOf V' R').length + [0].length) * 1 ≤ 140737488355328 by rw [hlenB]; simp; omega)
          have hb2 := Lib.hid (show (bytesOf V' R').length + [0].length ≤ 140737488355328 by rw [hlenB]; simp; omega)
          have hbase : base ≤ (wr.alloc (.cells #[.int .u8 ((0 : Nat) : Int)] 5)).heap.size := by have := hWr.out.low; simp; omega
          have ht : ((at_ : Int) == 0) = true := by simp; omega
          have hB8 := Lib.hid hb8
          clear hlenB h8 hb8
          go_wp2_with (at_builtin; refine wpList_append_nums_at rfl (.tmp 45) (.tmp 46) 33 5 rfl .u8 256 1 base u8s v' _ rfl hO.out _ [0] rfl hN1.out hb1.out hb2.out hbase ?_; intro v2 w2 hown2 hgr2 hfr2; obtain ⟨b2, cap2, rfl, c3, f3, hmid2, hfr3, hkp2⟩ := mid_room hWr.out hB8.out hown2 hgr2 hfr2; clear hfr2 hgr2 hown2)
          go_meet
          case rel => exact ⟨b2, cap2, hmid2, hkp2, by rcases hfr3 with h | h; exact .inl h; exact .inr (h b2 rfl)⟩
        · have hb8 : R' % 8 ≠ 0 := by have := hAt.out; omega
          have ht : ((at_ : Int) == 0) = false := by simp; omega
          obtain ⟨b2, cap2, hv2, hmid2⟩ := mid_same hWr.out hb8
          have hV2 := Lib.hid hv2
          have hM2 := Lib.hid hmid2
          clear hv2 hmid2 hb8
          go_wp2
          go_meet
          case rel => exact ⟨b2, cap2, hM2.out, Keeps.refl _ _, .inl (by rw [hV2.out]; rfl)⟩
      case rest =>
        obtain ⟨b2, cap2, hmid, hkp, hfr⟩ := hcut
        have hM := Lib.hid hmid
        have q1 := (cell_of_row _ _ 1 _ _ _ hM.out.blk)
        have q2 := (cell_of_row _ _ 2 _ _ _ hM.out.blk)
        have q3 := frozen_of_row _ _ 2 _ _ hM.out.blk
        simp only [List.getElem?_toArray, List.getElem?_cons_succ, List.getElem?_cons_zero] at q1 q2
        obtain ⟨b3, cap3, e3, -, -, -, hcl, hfz, -⟩ := hM.out.own.at_ (by rw [bytesN_length]; omega)
        simp only [Value.slice.injEq, Option.some.injEq, Addr.mk.injEq, and_true, true_and] at e3
        obtain ⟨rfl, -, rfl⟩ := e3
        have q4 := hcl (R' / 8) (by rw [bytesN_length]; omega)
        rw [bytesN_get] at q4
        have q5 := hfz (R' / 8)
        have hy : V' / 256 ^ (R' / 8) % 256 < 256 := Nat.mod_lt _ (by omega)
        obtain ⟨y, hyy⟩ : ∃ y, y = V' / 256 ^ (R' / 8) % 256 := ⟨_, rfl⟩
        rw [← hyy] at q4 hy
        have hY := Lib.hid hyy
        clear hyy hcl hfz hmid c1 c2
        have hgk : gk ≤ 32 := by omega
        have hZ := Lib.hid (And.intro hv' (And.intro hfr (And.intro hkp (And.intro hf hRk))))
        have hK := Lib.hid hk'
        clear hv' hfr hkp hf hRk hbk d3 hk'
        go_upto_region 9 with (fail)
        have hor := or_part y n' gk at_ hy hX.out.1 ha8
        obtain ⟨st, hst⟩ : ∃ st, st = min (8 - at_) gk := ⟨_, rfl⟩
        have hs1 : 1 ≤ st := by omega
        have hs2 : st ≤ gk := by omega
        have hs3 : st + at_ ≤ 8 := by omega
        rw [← hst] at hor
        have hST := Lib.hid hst
        clear hst
        obtain ⟨z, hz⟩ : ∃ z, z = y ||| n' % 2 ^ st * 2 ^ at_ := ⟨_, rfl⟩
        rw [← hz] at hor
        have hZ2 := Lib.hid hz
        clear hz
        have hR8 : R' % 8 + st ≤ 8 := by have := hAt.out; omega
        have hmd := mid_done (x := n' % 2 ^ st) (s := st) hM.out (Nat.mod_lt _ (Nat.pow_pos (by omega))) hs1 hR8
        rw [← hY.out, ← hAt.out, ← hZ2.out] at hmd
        have hMD := Lib.hid hmd
        have q6 : (wc.setCell ⟨b2, R' / 8, none⟩ (.int .u8 (z : Int))).cell? ⟨g, 2, none⟩ = some (.int .i64 ((8 * T + R' : Nat) : Int)) := by
          rw [← q2]; exact World.cell?_of_block (a := ⟨g, 2, none⟩) (heap_setCell_other _ _ _ _ (fun e => hM.out.ne e.symm))
        have q7 : (wc.setCell ⟨b2, R' / 8, none⟩ (.int .u8 (z : Int))).frozen? ⟨g, 2, none⟩ = false := by
          rw [← q3]; exact World.frozen?_of_block (a := ⟨g, 2, none⟩) (heap_setCell_other _ _ _ _ (fun e => hM.out.ne e.symm))
        clear hmd hR8
        go_region
        clear hor
        rcases (show (st = gk ∧ (gk : Int) < 8 - at_) ∨ (st = 8 - at_ ∧ 8 - at_ ≤ (gk : Int)) from by have := hST.out; omega) with ⟨hsg, hle⟩ | ⟨hsg, hle⟩
        · have hSg := Lib.hid hsg
          clear hsg
          go_wp2
          go_roundg (gk - st)
          case measure => omega
          case rel =>
            have hm := hMD.out
            rw [show ((8 * T + (R' + st) : Nat) : Int) = 8 * (T : Int) + R' + gk from by have := hSg.out; omega] at hm
            exact ⟨n' / 2 ^ st, V' + n' % 2 ^ st * 2 ^ R', R' + st, _, by rw [hSg.out]; simp, by rw [hSg.out]; simp, put_round hZ.out hX.out hm hs2 hK.out⟩
        · have hSg := Lib.hid hsg
          clear hsg
          go_wp2
          go_roundg (gk - st)
          case measure => omega
          case rel =>
            have hm := hMD.out
            rw [show ((8 * T + (R' + st) : Nat) : Int) = 8 * (T : Int) + R' + (8 - at_) from by have := hSg.out; omega] at hm
            exact ⟨n' / 2 ^ st, V' + n' % 2 ^ st * 2 ^ R', R' + st, _, by rw [hSg.out]; simp, by rw [hSg.out]; congr 1; omega, put_round hZ.out hX.out hm hs2 hK.out⟩
    · obtain rfl : gk = 0 := by omega
      go_wp2
      go_ret
      obtain ⟨h1, h2, h3⟩ := hX.out
      have h4 : n' = 0 := by simpa using h1
      subst h4
      refine ⟨rfl, v', ?_, hf, hv'⟩
      rw [← h3, ← h2]
      simpa using hWr.out
end Go.Proofs.Ytighlefajekloaa.BitsW
