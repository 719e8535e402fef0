/- The walk of package sha: one block. -/
import Derived.Test.YtmdhekpfkligiaaShaK
import Derived.StillTailTactics
import Derived.BigRegion
import Derived.ChangeAlike
import Derived.Deep.QuietTactic
import Derived.BigQuiet
set_option linter.unusedVariables false
set_option linter.unusedSimpArgs false
namespace Go.Proofs.Ytmdhekpfkligiaa.ShaB
open Go.RowKit ShaM Base Num ShaW ShaP ShaK

theorem size_k64 : (Try.prog.info? 34).map (·.size) = some 64 := by kernel_rfl
/-- what is there while a block is reckoned: the numbers h, the answer's place, the numbers W so far -/
structure Bl (w wr : World) (h f : Nat → Nat) : Prop where
  hh : wr.heap[w.heap.size]? = some (.cells (arr .u32 8 h) 37 (0, 0))
  hz : wr.heap[w.heap.size + 1]? = some (.cells (arr .u32 8 (fun _ => 0)) 37 (0, 0))
  hw : wr.heap[w.heap.size + 2]? = some (.cells (arr .u32 64 f) 34 (0, 0))
  below : Below w.heap.size w wr

theorem Bl.set {w wr : World} {h f : Nat → Nat} (hS : Bl w wr h f) (gw t x : Nat) (hg : gw = w.heap.size + 2) : Bl w (wr.setCell ⟨gw, t, none⟩ (.int .u32 (x : Int))).drew h (fun j => if j = t then x else f j) := by
  subst hg
  refine ⟨?_, ?_, ?_, below_drew (hS.below.setCell (by simp) _)⟩
  · show (wr.setCell _ _).heap[_]? = _
    rw [heap_setCell_other _ _ _ _ (by simp)]; exact hS.hh
  · show (wr.setCell _ _).heap[_]? = _
    rw [heap_setCell_other _ _ _ _ (by simp)]; exact hS.hz
  · show (wr.setCell _ _).heap[_]? = _
    rw [heap_setCell_same _ _ _ _ _ _ hS.hw, arr_set]
theorem Bl.set0 {w wr : World} {h f : Nat → Nat} (hS : Bl w wr h f) (gw t x : Nat) (hg : gw = w.heap.size + 2) : Bl w (wr.setCell ⟨gw, t, none⟩ (.int .u32 (x : Int))) h (fun j => if j = t then x else f j) := by
  have := hS.set gw t x hg
  exact ⟨this.hh, this.hz, this.hw, ⟨this.below.os, this.below.tape, this.below.output, this.below.size, this.below.block⟩⟩
theorem Bl.drewN {w wr : World} {h f : Nat → Nat} (hS : Bl w wr h f) (n : Nat) : Bl w (wr.drewN n) h f := ⟨hS.hh, hS.hz, hS.hw, ⟨hS.below.os, hS.below.tape, hS.below.output, hS.below.size, hS.below.block⟩⟩
/-- beside it the numbers a to h in the row gv -/
structure Bv (w wr : World) (h f v K : Nat → Nat) (gv gk : Nat) : Prop where
  bl : Bl w wr h f
  hv : wr.heap[gv]? = some (.cells (arr .u32 8 v) 37 (0, 0))
  hk : wr.heap[gk]? = some (.cells (arr .u32 64 K) 34 (0, 0))
  low : w.heap.size + 3 ≤ gv
  kl : gk < w.heap.size
theorem Bv.drewN {w wr : World} {h f v K : Nat → Nat} {gv gk : Nat} (hS : Bv w wr h f v K gv gk) (n : Nat) : Bv w (wr.drewN n) h f v K gv gk := ⟨hS.bl.drewN n, hS.hv, hS.hk, hS.low, hS.kl⟩
theorem Bv.row {w wr : World} {h f v K : Nat → Nat} {gv gk : Nat} (hS : Bv w wr h f v K gv gk) (u : Nat → Nat) : Bv w (wr.setRow gv (arr .u32 8 u)) h f u K gv gk := by
  have := hS.low; have := hS.kl
  refine ⟨⟨?_, ?_, ?_, below_setRow_new hS.bl.below (by omega) _⟩, setRow_heap _ _ _ _ _ _ hS.hv, ?_, hS.low, hS.kl⟩
  · rw [setRow_other _ _ _ _ (by omega)]; exact hS.bl.hh
  · rw [setRow_other _ _ _ _ (by omega)]; exact hS.bl.hz
  · rw [setRow_other _ _ _ _ (by omega)]; exact hS.bl.hw
  · rw [setRow_other _ _ _ _ (by omega)]; exact hS.hk
theorem Bv.setv {w wr : World} {h f v K : Nat → Nat} {gv gk : Nat} (hS : Bv w wr h f v K gv gk) (t x : Nat) : Bv w (wr.setCell ⟨gv, t, none⟩ (.int .u32 (x : Int))) h f (fun j => if j = t then x else v j) K gv gk := by
  have := hS.low; have := hS.kl
  refine ⟨⟨?_, ?_, ?_, hS.bl.below.setCell (by simp; omega) _⟩, ?_, ?_, hS.low, hS.kl⟩
  · rw [heap_setCell_other _ _ _ _ (by simp; omega)]; exact hS.bl.hh
  · rw [heap_setCell_other _ _ _ _ (by simp; omega)]; exact hS.bl.hz
  · rw [heap_setCell_other _ _ _ _ (by simp; omega)]; exact hS.bl.hw
  · rw [heap_setCell_same _ _ _ _ _ _ hS.hv, arr_set]
  · rw [heap_setCell_other _ _ _ _ (by simp; omega)]; exact hS.hk
theorem Bv.congr {w wr : World} {h f v K u : Nat → Nat} {gv gk : Nat} (hS : Bv w wr h f v K gv gk) (e : ∀ i, i < 8 → v i = u i) : Bv w wr h f u K gv gk := ⟨hS.bl, by rw [← arr_congr .u32 8 v u e]; exact hS.hv, hS.hk, hS.low, hS.kl⟩
theorem Bv.hcongr {w wr : World} {h f v K u : Nat → Nat} {gv gk : Nat} (hS : Bv w wr h f v K gv gk) (e : ∀ i, i < 8 → h i = u i) : Bv w wr u f v K gv gk := ⟨⟨by rw [← arr_congr .u32 8 h u e]; exact hS.bl.hh, hS.bl.hz, hS.bl.hw, hS.bl.below⟩, hS.hv, hS.hk, hS.low, hS.kl⟩
theorem Bv.set8 {w wr : World} {h f v K : Nat → Nat} {gv gk : Nat} (hS : Bv w wr h f v K gv gk) (s : S8) :
    Bv w ((((((((wr.setCell ⟨gv, 0, none⟩ (.int .u32 (s.a : Int))).setCell ⟨gv, 1, none⟩ (.int .u32 (s.b : Int))).setCell ⟨gv, 2, none⟩ (.int .u32 (s.c : Int))).setCell ⟨gv, 3, none⟩ (.int .u32 (s.d : Int))).setCell ⟨gv, 4, none⟩ (.int .u32 (s.e : Int))).setCell ⟨gv, 5, none⟩ (.int .u32 (s.f : Int))).setCell ⟨gv, 6, none⟩ (.int .u32 (s.g : Int))).setCell ⟨gv, 7, none⟩ (.int .u32 (s.h : Int))) h f s.at K gv gk := by
  refine ((((((((hS.setv 0 s.a).setv 1 s.b).setv 2 s.c).setv 3 s.d).setv 4 s.e).setv 5 s.f).setv 6 s.g).setv 7 s.h).congr (fun i hi => ?_)
  rcases (show i = 0 ∨ i = 1 ∨ i = 2 ∨ i = 3 ∨ i = 4 ∨ i = 5 ∨ i = 6 ∨ i = 7 from by omega) with rfl | rfl | rfl | rfl | rfl | rfl | rfl | rfl <;> rfl
theorem Bv.seth {w wr : World} {h f v K : Nat → Nat} {gv gk : Nat} (hS : Bv w wr h f v K gv gk) (t x : Nat) : Bv w (wr.setCell ⟨w.heap.size, t, none⟩ (.int .u32 (x : Int))).drew (fun j => if j = t then x else h j) f v K gv gk := by
  have := hS.low; have := hS.kl
  refine ⟨⟨?_, ?_, ?_, below_drew (hS.bl.below.setCell (by simp) _)⟩, ?_, ?_, hS.low, hS.kl⟩
  · show (wr.setCell _ _).heap[_]? = _
    rw [heap_setCell_same _ _ _ _ _ _ hS.bl.hh, arr_set]
  · show (wr.setCell _ _).heap[_]? = _
    rw [heap_setCell_other _ _ _ _ (by simp)]; exact hS.bl.hz
  · show (wr.setCell _ _).heap[_]? = _
    rw [heap_setCell_other _ _ _ _ (by simp)]; exact hS.bl.hw
  · show (wr.setCell _ _).heap[_]? = _
    rw [heap_setCell_other _ _ _ _ (by simp; omega)]; exact hS.hv
  · show (wr.setCell _ _).heap[_]? = _
    rw [heap_setCell_other _ _ _ _ (by simp; omega)]; exact hS.hk
theorem Bl.congr {w wr : World} {h f g : Nat → Nat} (hS : Bl w wr h f) (e : ∀ i, i < 64 → f i = g i) : Bl w wr h g := ⟨hS.hh, hS.hz, by rw [← arr_congr .u32 64 f g e]; exact hS.hw, hS.below⟩
theorem word_or (x0 x1 x2 x3 : Nat) (h0 : x0 < 256) (h1 : x1 < 256) (h2 : x2 < 256) (h3 : x3 < 256) :
    bits BinOp.or IntKind.u32 (bits BinOp.or IntKind.u32 (bits BinOp.or IntKind.u32 ((x0 : Int) % 4294967296 * 16777216 % 4294967296) ((x1 : Int) % 4294967296 * 65536 % 4294967296)) ((x2 : Int) % 4294967296 * 256 % 4294967296)) ((x3 : Int) % 4294967296)
      = ((((x0 * 256 + x1) * 256 + x2) * 256 + x3 : Nat) : Int) := by
  rw [show (x0 : Int) % 4294967296 * 16777216 % 4294967296 = ((x0 * 2 ^ 24 : Nat) : Int) from by omega, show (x1 : Int) % 4294967296 * 65536 % 4294967296 = ((x1 * 2 ^ 16 : Nat) : Int) from by omega,
    show (x2 : Int) % 4294967296 * 256 % 4294967296 = ((x2 * 2 ^ 8 : Nat) : Int) from by omega, show (x3 : Int) % 4294967296 = (x3 : Int) from by omega]
  rw [u32_or_nat' _ _ (by omega) (by omega)]
  have e1 := or_disjoint x0 (x1 * 2 ^ 16) 24 (by omega)
  rw [e1, u32_or_nat' _ _ (by omega) (by omega)]
  have e2 := or_disjoint (x0 * 256 + x1) (x2 * 2 ^ 8) 16 (by omega)
  rw [show x0 * 2 ^ 24 + x1 * 2 ^ 16 = (x0 * 256 + x1) * 2 ^ 16 from by omega, e2, u32_or_nat' _ _ (by omega) (by omega)]
  have e3 := or_disjoint ((x0 * 256 + x1) * 256 + x2) x3 8 (by omega)
  rw [show (x0 * 256 + x1) * 2 ^ 16 + x2 * 2 ^ 8 = ((x0 * 256 + x1) * 256 + x2) * 2 ^ 8 from by omega, e3]
/-- right, its second number an Int -/
theorem right_int (x : Nat) (n : Int) (hx : x < 4294967296) (h1 : 1 ≤ n) (h2 : n ≤ 31) (w : World) :
    Calls Try.prog 24 #[.int .u32 (x : Int), .int .i64 n] w fun e w' => e = .returned (.int .u32 (rot x n.toNat : Nat)) ∧ w = w' := by
  obtain ⟨m, rfl⟩ := Int.eq_ofNat_of_zero_le (show 0 ≤ n by omega)
  exact right_any x m hx (by omega) (by omega) w
theorem xor2 (a b : Nat) (ha : a < 4294967296) (hb : b < 4294967296) : bits BinOp.xor IntKind.u32 (a : Int) (b : Int) = ((a ^^^ b : Nat) : Int) := u32_xor_nat a b ha hb
theorem xor3 (a b c : Nat) (ha : a < 4294967296) (hb : b < 4294967296) (hc : c < 4294967296) : bits BinOp.xor IntKind.u32 (bits BinOp.xor IntKind.u32 (a : Int) (b : Int)) (c : Int) = ((a ^^^ b ^^^ c : Nat) : Int) := by
  rw [u32_xor_nat a b ha hb, u32_xor_nat _ c (xor_lt ha hb) hc]

theorem not32 (c : Nat) (hc : c < 4294967296) : bits BinOp.xor IntKind.u32 IntKind.u32.max (c : Int) = ((4294967295 - c : Nat) : Int) := by
  have h := u32_xor_nat 4294967295 c (by omega) (by omega)
  have e : 4294967295 ^^^ c = 4294967295 - c := by
    apply Nat.eq_of_testBit_eq
    intro i
    rw [Nat.testBit_xor, show (4294967295 : Nat) = 2 ^ 32 - 1 from rfl, Nat.testBit_two_pow_sub_one]
    rw [show 2 ^ 32 - 1 - c = 2 ^ 32 - (c + 1) from by omega, Nat.testBit_two_pow_sub_succ (by omega)]
    by_cases hi : i < 32
    · simp [hi]
    · have : c.testBit i = false := Nat.testBit_lt_two_pow (Nat.lt_of_lt_of_le (show c < 2 ^ 32 by omega) (Nat.pow_le_pow_right (by omega) (by omega)))
      simp [hi, this]
  rw [e] at h; exact h
theorem ch_eq (e f g : Nat) (he : e < 4294967296) (hf : f < 4294967296) (hg : g < 4294967296) :
    bits BinOp.xor IntKind.u32 (bits BinOp.and IntKind.u32 (e : Int) (f : Int)) (bits BinOp.and IntKind.u32 (bits BinOp.xor IntKind.u32 IntKind.u32.max (e : Int)) (g : Int)) = ((ch e f g : Nat) : Int) := by
  rw [not32 e he, u32_and_nat e f he hf, u32_and_nat _ g (by omega) hg, u32_xor_nat _ _ (and_lt he) (and_lt (by omega))]
  rfl
theorem maj_eq (a b c : Nat) (ha : a < 4294967296) (hb : b < 4294967296) (hc : c < 4294967296) :
    bits BinOp.xor IntKind.u32 (bits BinOp.xor IntKind.u32 (bits BinOp.and IntKind.u32 (a : Int) (b : Int)) (bits BinOp.and IntKind.u32 (a : Int) (c : Int))) (bits BinOp.and IntKind.u32 (b : Int) (c : Int)) = ((maj a b c : Nat) : Int) := by
  rw [u32_and_nat a b ha hb, u32_and_nat a c ha hc, u32_and_nat b c hb hc, u32_xor_nat _ _ (and_lt ha) (and_lt ha), u32_xor_nat _ _ (xor_lt (and_lt ha) (and_lt ha)) (and_lt hb)]
  rfl

def BlockTo (w : World) (s : S8) (e : Ending) (w' : World) : Prop := e = .returned (.agg (arr .u32 8 s.at)) ∧ Below w.heap.size w w'
set_option maxRecDepth 100000 in
set_option maxHeartbeats 2000000 in
theorem block_any (s : S8) (hs : s.ok) (K : Nat → Nat) (hK : ∀ i, i < 64 → K i < 4294967296) (gk : Nat) (w : World) (hk : w.heap[gk]? = some (.cells (arr .u32 64 K) 34 (0, 0))) (l : List Nat) (hlen : l.length = 64) (bb off cap : Nat)
    (hb : Nums .u8 256 w (.slice (some ⟨bb, off, none⟩) 64 cap) l) :
    Calls Try.prog 16 #[.agg (arr .u32 8 s.at), .pointer (some ⟨gk, 0, none⟩), .slice (some ⟨bb, off, none⟩) 64 cap] w (BlockTo w (block K l 0 s)) := by
  have hB := Lib.hid hb
  have hKK := Lib.hid hK
  have hk0 := Lib.hid hk
  clear hK hk hb
  go_enter Try.func16, Try.ntmps16
  go_wp2_with fail
  generalize hWW : ((w.alloc _).alloc _).alloc _ = W
  have hS0 : Bl w W s.at (fun t => if t < 0 then wf l 0 t else 0) := by
    rw [show (fun t => if t < 0 then wf l 0 t else 0) = (fun _ => 0) from by funext i; simp]
    rw [← hWW]
    refine ⟨?_, ?_, ?_, (((Below.refl _ _).alloc (Nat.le_refl _) _).alloc (by simp) _).alloc (by simp; omega) _⟩
    · rw [heap_alloc_old _ _ (by simp; omega), heap_alloc2_old]
    · rw [heap_alloc_old _ _ (by simp), heap_alloc2_new]; kernel_rfl
    · have := heap_alloc_new ((w.alloc (.cells (arr .u32 8 s.at) 37)).alloc (.cells (arr .u32 8 (fun _ => 0)) 37)) (.cells (arr .u32 64 (fun _ => 0)) 34)
      rw [show ((w.alloc (.cells (arr .u32 8 s.at) 37)).alloc (.cells (arr .u32 8 (fun _ => 0)) 37)).heap.size = w.heap.size + 2 from by simp] at this
      exact Eq.trans (by kernel_rfl) this
  clear hWW
  have hS := Lib.hid hS0
  clear hS0
  go_loopw [27] (fun v wr => ∃ t : Nat, t ≤ 16 ∧ v = .int .i64 (t : Int) ∧ Bl w wr s.at (fun i => if i < t then wf l 0 i else 0)) (fun v _ => 16 - (intOf v).toNat)
  case atStart => exact ⟨0, by omega, rfl, hS.out⟩
  case round =>
    obtain ⟨t, ht, rfl, hbl⟩ := hrel
    clear hS
    have hS := Lib.hid hbl
    clear hbl
    by_cases hlt : t < 16
    · have d1 : decide ((t : Int) < 16) = true := decide_eq_true (by omega)
      have c1 := (cell_of_row _ _ t _ _ _ hS.out.hw).trans (arr_at _ _ _ _ (by omega))
      have c2 := frozen_of_row _ _ t _ _ hS.out.hw
      have hbw := hB.out.below hS.out.below (Nat.le_refl _)
      obtain ⟨b2, off2, cap2, e, -, hcell⟩ := hbw.cells (by intro h0; subst h0; simp at hlen)
      simp only [Value.slice.injEq, Option.some.injEq, Addr.mk.injEq, and_true] at e
      obtain ⟨⟨rfl, rfl⟩, -, rfl⟩ := e
      obtain ⟨x0, h0⟩ : ∃ x, x = l.getD (4 * t) 0 := ⟨_, rfl⟩
      obtain ⟨x1, h1⟩ : ∃ x, x = l.getD (4 * t + 1) 0 := ⟨_, rfl⟩
      obtain ⟨x2, h2⟩ : ∃ x, x = l.getD (4 * t + 2) 0 := ⟨_, rfl⟩
      obtain ⟨x3, h3⟩ : ∃ x, x = l.getD (4 * t + 3) 0 := ⟨_, rfl⟩
      have g0 := hcell (4 * t) (by omega)
      have g1 := hcell (4 * t + 1) (by omega)
      have g2 := hcell (4 * t + 2) (by omega)
      have g3 := hcell (4 * t + 3) (by omega)
      rw [show l[4 * t] = x0 from by rw [h0, List.getD_eq_getElem?_getD, List.getElem?_eq_getElem (by omega)]; rfl] at g0
      rw [show l[4 * t + 1] = x1 from by rw [h1, List.getD_eq_getElem?_getD, List.getElem?_eq_getElem (by omega)]; rfl] at g1
      rw [show l[4 * t + 2] = x2 from by rw [h2, List.getD_eq_getElem?_getD, List.getElem?_eq_getElem (by omega)]; rfl] at g2
      rw [show l[4 * t + 3] = x3 from by rw [h3, List.getD_eq_getElem?_getD, List.getElem?_eq_getElem (by omega)]; rfl] at g3
      clear hcell hbw
      have HX := Lib.hid (And.intro h0 (And.intro h1 (And.intro h2 h3)))
      have hb0 : ∀ j, l.getD j 0 < 256 := fun j => by
        rw [List.getD_eq_getElem?_getD]
        by_cases hj : j < l.length
        · rw [List.getElem?_eq_getElem hj]; exact hB.out.bound _ (List.getElem_mem hj)
        · rw [List.getElem?_eq_none (by omega)]; simp
      have hw4 := Lib.hid (word_or x0 x1 x2 x3 (by rw [h0]; exact hb0 _) (by rw [h1]; exact hb0 _) (by rw [h2]; exact hb0 _) (by rw [h3]; exact hb0 _))
      clear h0 h1 h2 h3 hb0
      go_wp2_with fail
      go_region
      go_wp2_with fail
      go_roundw
      case rel =>
        refine ⟨t + 1, by omega, by go_num, ?_⟩
        obtain ⟨h0, h1, h2, h3⟩ := HX.out
        rw [hw4.out]
        refine (hS.out.set _ t _ (by omega)).congr (fun i hi => ?_)
        by_cases e : i = t
        · rw [if_pos e, if_pos (by omega), e, wf_eq l 0 t (by omega), if_pos hlt]
          unfold word
          rw [Nat.zero_add, ← h0, ← h1, ← h2, ← h3]
        · rw [if_neg e]
          by_cases e2 : i < t
          · rw [if_pos e2, if_pos (by omega)]
          · rw [if_neg e2, if_neg (by omega)]
      case measure => simp [intOf]; omega
    · have ht16 : 16 ≤ t := by omega
      have hS1 := hS.out.congr (g := fun i => if i < 16 then wf l 0 i else 0) (fun i _ => by rw [show t = 16 by omega])
      clear hS
      have hS := Lib.hid hS1
      clear hS1 hlt
      obtain ⟨t0, rfl⟩ : ∃ t0, t0 = t := ⟨_, rfl⟩
      go_wp2_with fail
      go_loopw [9] (fun v wr => ∃ t : Nat, 16 ≤ t ∧ t ≤ 64 ∧ v = .int .i64 (t : Int) ∧ Bl w wr s.at (fun i => if i < t then wf l 0 i else 0)) (fun v _ => 64 - (intOf v).toNat)
      case atStart => exact ⟨16, by omega, by omega, rfl, hS.out⟩
      case round =>
        obtain ⟨t, ht1, ht, rfl, hbl⟩ := hrel
        clear hS
        have hS := Lib.hid hbl
        clear hbl
        have hwl : ∀ i, i < 64 → wf l 0 i < 4294967296 := fun i hi => wf_lt l hB.out.bound 0 i hi
        by_cases hlt : t < 64
        · have d1 : decide ((t : Int) < 64) = true := decide_eq_true (by omega)
          have c1 := (cell_of_row _ _ t _ _ _ hS.out.hw).trans (arr_at _ _ _ _ (by omega))
          have c2 := frozen_of_row _ _ t _ _ hS.out.hw
          have cx := (cell_of_row _ _ (t - 2) _ _ _ hS.out.hw).trans (arr_at _ _ _ _ (by omega))
          have cy := (cell_of_row _ _ (t - 15) _ _ _ hS.out.hw).trans (arr_at _ _ _ _ (by omega))
          have c7 := (cell_of_row _ _ (t - 7) _ _ _ hS.out.hw).trans (arr_at _ _ _ _ (by omega))
          have c6 := (cell_of_row _ _ (t - 16) _ _ _ hS.out.hw).trans (arr_at _ _ _ _ (by omega))
          rw [if_pos (show t - 2 < t by omega)] at cx
          rw [if_pos (show t - 15 < t by omega)] at cy
          rw [if_pos (show t - 7 < t by omega)] at c7
          rw [if_pos (show t - 16 < t by omega)] at c6
          have hx := hwl (t - 2) (by omega)
          have hy := hwl (t - 15) (by omega)
          have h7 := hwl (t - 7) (by omega)
          have h6 := hwl (t - 16) (by omega)
          have hr := Lib.hid (wf_eq l 0 t hlt)
          generalize wf l 0 (t - 2) = x at *
          generalize wf l 0 (t - 15) = y at *
          generalize wf l 0 (t - 7) = p at *
          generalize wf l 0 (t - 16) = q at *
          have ex := xor3 (rot x 17) (rot x 19) (x / 1024) (rot_lt x 17 hx (by omega)) (rot_lt x 19 hx (by omega)) (by omega)
          have ey := xor3 (rot y 7) (rot y 18) (y / 8) (rot_lt y 7 hy (by omega)) (rot_lt y 18 hy (by omega)) (by omega)
          rw [show rot x 17 ^^^ rot x 19 ^^^ x / 1024 = smallX x from rfl, show ((x / 1024 : Nat) : Int) = (x : Int) / 1024 from by omega] at ex
          rw [show rot y 7 ^^^ rot y 18 ^^^ y / 8 = smallY y from rfl, show ((y / 8 : Nat) : Int) = (y : Int) / 8 from by omega] at ey
          have lx := smallX_lt x hx
          have ly := smallY_lt y hy
          clear hwl
          go_wp2_with fail
          go_quiet (fail)
          go_wp2_with (go_at_call 24; refine (right_int _ _ (by omega) (by omega) (by omega) _).mono ?_; rintro e w1 ⟨rfl, rfl⟩)
          go_region
          go_wp2_with fail
          go_roundw
          case rel =>
            refine ⟨t + 1, by omega, by omega, by go_num, ?_⟩
            have hv : ((smallX x : Int) + (p : Int) + (smallY y : Int) + (q : Int)) % 4294967296 = ((wf l 0 t : Nat) : Int) := by
              rw [hr.out, if_neg (by omega)]; omega
            rw [hv]
            refine ((hS.out.drewN _).set0 _ t _ (by omega)).congr (fun i hi => ?_)
            by_cases e : i = t
            · rw [if_pos e, if_pos (by omega), e]
            · rw [if_neg e]
              by_cases e2 : i < t
              · rw [if_pos e2, if_pos (by omega)]
              · rw [if_neg e2, if_neg (by omega)]
          case measure => simp [intOf]; omega
        · have ht64 : 64 ≤ t := by omega
          have hS2 := hS.out.congr (g := wf l 0) (fun i hi => if_pos (by omega))
          clear hS
          have hS := Lib.hid hS2
          clear hS2 hwl
          have s8 := Lib.hid (show (Try.prog.info? 37).map (·.size) = some (arr .u32 8 s.at).size by rw [size_st, arr_size])
          go_wp2_with (first
            | (with_reducible (refine wpList_load_row rfl 37 (.tmp 3) rfl w.heap.size rfl 37 _ _ _ hS.out.hh Try.underlying37 rfl s8.out ?_))
            | (((with_reducible refine wpList_store_arr rfl 37 (.tmp 14) (.tmp 109) rfl wr.heap.size (arr .u32 8 s.at) rfl rfl 37 ?cur ?g1 s8.out ?g2 (arr_one _ _ _) rfl ?_); (case g1 => exact heap_alloc_new _ _); (case g2 => rw [arr_size]; rfl))))
          generalize hWW : (wr.alloc _).setRow _ _ = W2
          have hkw : wr.heap[gk]? = some (.cells (arr .u32 64 K) 34 (0, 0)) := (hS.out.below.block _ (lt_of_heap hk0.out)).trans hk0.out
          have hkl := lt_of_heap hk0.out
          have hsz := lt_of_heap hS.out.hw
          have hV0 : Bv w W2 s.at (wf l 0) (rounds K (wf l 0) s 0).at K wr.heap.size gk := by
            rw [← hWW]
            refine ⟨⟨?_, ?_, ?_, below_setRow_new (hS.out.below.alloc (by omega) _) (by omega) _⟩, setRow_heap _ _ _ _ _ _ (heap_alloc_new wr _), ?_, by omega, hkl⟩
            · rw [setRow_other _ _ _ _ (by omega), heap_alloc_old _ _ (by omega)]; exact hS.out.hh
            · rw [setRow_other _ _ _ _ (by omega), heap_alloc_old _ _ (by omega)]; exact hS.out.hz
            · rw [setRow_other _ _ _ _ (by omega), heap_alloc_old _ _ (by omega)]; exact hS.out.hw
            · rw [setRow_other _ _ _ _ (by omega), heap_alloc_old _ _ (by omega)]; exact hkw
          generalize wr.heap.size = gv at *
          have hV := Lib.hid hV0
          clear hV0 hWW hkw hsz hkl hS
          go_loopw [110] (fun v wr => ∃ t : Nat, t ≤ 64 ∧ v = .int .i64 (t : Int) ∧ Bv w wr s.at (wf l 0) (rounds K (wf l 0) s t).at K gv gk) (fun v _ => 64 - (intOf v).toNat)
          case atStart => exact ⟨0, by omega, rfl, hV.out⟩
          case round =>
            obtain ⟨n, hn, rfl, hbv⟩ := hrel
            clear hV
            have hV := Lib.hid hbv
            clear hbv
            obtain ⟨v, hvv⟩ : ∃ v, v = rounds K (wf l 0) s n := ⟨_, rfl⟩
            have hok : v.ok := by rw [hvv]; exact rounds_ok _ _ _ hs _
            rw [← hvv] at hV
            have HVV := Lib.hid hvv
            clear hvv
            by_cases hnlt : n < 64
            · have d1 : decide ((n : Int) < 64) = true := decide_eq_true (by omega)
              have ck := (cell_of_row _ _ n _ _ _ hV.out.hk).trans (arr_at _ _ _ _ hnlt)
              have cw := (cell_of_row _ _ n _ _ _ hV.out.bl.hw).trans (arr_at _ _ _ _ hnlt)
              have v0 : wr.cell? ⟨gv, 0, none⟩ = some (.int .u32 (v.a : Int)) := (cell_of_row _ _ 0 _ _ _ hV.out.hv).trans (arr_at _ _ _ _ (by omega))
              have v1 : wr.cell? ⟨gv, 1, none⟩ = some (.int .u32 (v.b : Int)) := (cell_of_row _ _ 1 _ _ _ hV.out.hv).trans (arr_at _ _ _ _ (by omega))
              have v2 : wr.cell? ⟨gv, 2, none⟩ = some (.int .u32 (v.c : Int)) := (cell_of_row _ _ 2 _ _ _ hV.out.hv).trans (arr_at _ _ _ _ (by omega))
              have v3 : wr.cell? ⟨gv, 3, none⟩ = some (.int .u32 (v.d : Int)) := (cell_of_row _ _ 3 _ _ _ hV.out.hv).trans (arr_at _ _ _ _ (by omega))
              have v4 : wr.cell? ⟨gv, 4, none⟩ = some (.int .u32 (v.e : Int)) := (cell_of_row _ _ 4 _ _ _ hV.out.hv).trans (arr_at _ _ _ _ (by omega))
              have v5 : wr.cell? ⟨gv, 5, none⟩ = some (.int .u32 (v.f : Int)) := (cell_of_row _ _ 5 _ _ _ hV.out.hv).trans (arr_at _ _ _ _ (by omega))
              have v6 : wr.cell? ⟨gv, 6, none⟩ = some (.int .u32 (v.g : Int)) := (cell_of_row _ _ 6 _ _ _ hV.out.hv).trans (arr_at _ _ _ _ (by omega))
              have fz : ∀ j, wr.frozen? ⟨gv, j, none⟩ = false := fun j => frozen_of_row _ _ j _ _ hV.out.hv
              have f0 := fz 0; have f1 := fz 1; have f2 := fz 2; have f3 := fz 3; have f4 := fz 4; have f5 := fz 5; have f6 := fz 6; have f7 := fz 7
              clear fz
              have v7 : wr.cell? ⟨gv, 7, none⟩ = some (.int .u32 (v.h : Int)) := (cell_of_row _ _ 7 _ _ _ hV.out.hv).trans (arr_at _ _ _ _ (by omega))
              obtain ⟨va, vb, vc, vd, ve, vf, vg, vh⟩ := v
              obtain ⟨ka, kb, kc, kd, ke, kf, kg, kh⟩ := hok
              simp only at v0 v1 v2 v3 v4 v5 v6 v7 ka kb kc kd ke kf kg kh
              have hKn := hKK.out n hnlt
              have hWn := wf_lt l hB.out.bound 0 n hnlt
              have hnx : (rounds K (wf l 0) s (n + 1)) = ShaM.step (K n) (wf l 0 n) ⟨va, vb, vc, vd, ve, vf, vg, vh⟩ := by rw [rounds, ← HVV.out]
              have HNX := Lib.hid hnx
              clear hnx
              generalize wf l 0 n = wn at *
              generalize K n = kn at *
              have e1 := xor3 (rot ve 6) (rot ve 11) (rot ve 25) (rot_lt ve 6 ke (by omega)) (rot_lt ve 11 ke (by omega)) (rot_lt ve 25 ke (by omega))
              rw [show rot ve 6 ^^^ rot ve 11 ^^^ rot ve 25 = bigE ve from rfl] at e1
              have a1 := xor3 (rot va 2) (rot va 13) (rot va 22) (rot_lt va 2 ka (by omega)) (rot_lt va 13 ka (by omega)) (rot_lt va 22 ka (by omega))
              rw [show rot va 2 ^^^ rot va 13 ^^^ rot va 22 = bigA va from rfl] at a1
              have hch := ch_eq ve vf vg ke kf kg
              have hmj := maj_eq va vb vc ka kb kc
              have l1 := bigE_lt ve ke
              have l2 := bigA_lt va ka
              have l3 := ch_lt ve vf vg ke
              have l4 := maj_lt va vb vc ka kb
              go_wp2_with fail
              go_quiet (fail)
              go_wp2_with (go_at_call 24; refine (right_int _ _ (by omega) (by omega) (by omega) _).mono ?_; rintro e w1 ⟨rfl, rfl⟩)
              go_quiet (fail)
              go_wp2_with fail
              go_roundw
              case rel =>
                refine ⟨n + 1, by omega, by go_num, ?_⟩
                rw [HNX.out]
                have hif : (if IntKind.u32.signed = true then (-1 : Int) else IntKind.u32.max) = IntKind.u32.max := rfl
                rw [hif, hch]
                have ea : ((vh : Int) + (bigE ve : Int) + (ch ve vf vg : Int) + (kn : Int) + (wn : Int) + ((bigA va : Int) + (maj va vb vc : Int))) % 4294967296 = (((ShaM.step kn wn ⟨va, vb, vc, vd, ve, vf, vg, vh⟩).a : Nat) : Int) := by
                  show _ = (((one kn wn ⟨va, vb, vc, vd, ve, vf, vg, vh⟩ + two ⟨va, vb, vc, vd, ve, vf, vg, vh⟩) % 4294967296 : Nat) : Int)
                  unfold one two
                  simp only
                  omega
                have ee : ((vd : Int) + ((vh : Int) + (bigE ve : Int) + (ch ve vf vg : Int) + (kn : Int) + (wn : Int))) % 4294967296 = (((ShaM.step kn wn ⟨va, vb, vc, vd, ve, vf, vg, vh⟩).e : Nat) : Int) := by
                  show _ = (((vd + one kn wn ⟨va, vb, vc, vd, ve, vf, vg, vh⟩) % 4294967296 : Nat) : Int)
                  unfold one
                  simp only
                  omega
                rw [ea, ee]
                exact (hV.out.drewN _).set8 (ShaM.step kn wn ⟨va, vb, vc, vd, ve, vf, vg, vh⟩)
              case measure => simp [intOf]; omega
            · have hn64 : n = 64 := by omega
              have hfin : rounds K (wf l 0) s 64 = v := by rw [HVV.out, hn64]
              have HF := Lib.hid hfin
              have hn64' : 64 ≤ n := by omega
              clear hfin hn64
              go_wp2_with fail
              obtain ⟨wo, rfl⟩ : ∃ wo : World, wo = wr := ⟨_, rfl⟩
              go_loopw [192] (fun v' wr => ∃ t : Nat, t ≤ 8 ∧ v' = .int .i64 (t : Int) ∧ Bv w wr (fun i => if i < t then (s.at i + v.at i) % 4294967296 else s.at i) (wf l 0) v.at K gv gk) (fun v _ => 8 - (intOf v).toNat)
              case atStart => exact ⟨0, by omega, rfl, hV.out⟩
              case round =>
                obtain ⟨m, hm, rfl, hbv⟩ := hrel
                clear hV
                have hV := Lib.hid hbv
                clear hbv
                by_cases hmlt : m < 8
                · have d1 : decide ((m : Int) < 8) = true := decide_eq_true (by omega)
                  have c1 := (cell_of_row _ _ m _ _ _ hV.out.bl.hh).trans (arr_at _ _ _ _ hmlt)
                  have c2 := frozen_of_row _ _ m _ _ hV.out.bl.hh
                  have c3 := (cell_of_row _ _ m _ _ _ hV.out.hv).trans (arr_at _ _ _ _ hmlt)
                  rw [if_neg (Nat.lt_irrefl m)] at c1
                  have b1 := hs.at m
                  have b2 := hok.at m
                  have e1 : ((s.at m : Int) + (v.at m : Int)) % 4294967296 = (((s.at m + v.at m) % 4294967296 : Nat) : Int) := by omega
                  have HE := Lib.hid e1
                  clear e1
                  go_wp2_with fail
                  go_region
                  go_wp2_with fail
                  go_roundw
                  case rel =>
                    refine ⟨m + 1, by omega, by go_num, ?_⟩
                    rw [HE.out]
                    refine (hV.out.seth m _).hcongr (fun i hi => ?_)
                    by_cases e : i = m
                    · subst e; rw [if_pos rfl, if_pos (by omega)]
                    · rw [if_neg e]
                      by_cases e2 : i < m
                      · rw [if_pos e2, if_pos (by omega)]
                      · rw [if_neg e2, if_neg (by omega)]
                  case measure => simp [intOf]; omega
                · have hm8 : 8 ≤ m := by omega
                  have hV2 := hV.out.hcongr (u := (block K l 0 s).at) (fun i hi => by
                    rw [if_pos (by omega)]
                    unfold block
                    rw [HF.out]
                    rcases (show i = 0 ∨ i = 1 ∨ i = 2 ∨ i = 3 ∨ i = 4 ∨ i = 5 ∨ i = 6 ∨ i = 7 from by omega) with rfl | rfl | rfl | rfl | rfl | rfl | rfl | rfl <;> rfl)
                  clear hV
                  have hV := Lib.hid hV2
                  clear hV2
                  generalize (block K l 0 s) = fin at *
                  have s9 := Lib.hid (show (Try.prog.info? 37).map (·.size) = some (arr .u32 8 fin.at).size by rw [size_st, arr_size])
                  have s10 : Hid ((arr .u32 8 (fun _ => 0)).size = (arr .u32 8 fin.at).size) := Lib.hid (by rw [arr_size, arr_size])
                  go_wp2_with (first
                    | (with_reducible (refine wpList_load_row rfl 37 (.tmp 3) rfl w.heap.size rfl 37 _ _ _ hV.out.bl.hh Try.underlying37 rfl s9.out ?_))
                    | (with_reducible (refine wpList_store_arr rfl 37 (.tmp 6) (.tmp 204) rfl (w.heap.size + 1) (arr .u32 8 fin.at) rfl rfl 37 _ hV.out.bl.hz s9.out s10.out (arr_one _ _ _) rfl ?_)))
                  refine bodyPost_ret (results_cell_row rfl _ _ (w.heap.size + 1) 37 _ _ _ rfl (setRow_heap _ _ _ _ _ _ hV.out.bl.hz) Try.underlying37 rfl s9.out) rfl ⟨rfl, below_setRow_new hV.out.bl.below (by omega) _⟩
end Go.Proofs.Ytmdhekpfkligiaa.ShaB
