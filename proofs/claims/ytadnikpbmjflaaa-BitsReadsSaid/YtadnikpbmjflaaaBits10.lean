/- A reader beside the reference's: the state that a script keeps. -/
import Derived.Test.YtadnikpbmjflaaaBits9
set_option linter.unusedVariables false
set_option linter.unusedSimpArgs false
namespace Go.Proofs.Ytadnikpbmjflaaa.Bits10
open Go.RowKit BitsM Base Low Bits5 Bits6 BitsW BitsX BitsR BitsG Bits7 Bits8 Bits9

/-- the state: the reader at g, the reference's in the row at bV -/
structure Sr (w0 w : World) (g bV : Nat) (v rv : Value) (B : List Nat) (p : Nat) : Prop where
  rs : RS w0 w g v B p
  row : w.heap[bV]? = some (.cells #[rv, .int .i64 (p : Int)] 55)
  sq : Sq w rv (bitsB B)
  low : w0.heap.size ≤ bV
  gb : g ≠ bV
  v1 : v.ownBlock ≠ some bV
  r1 : rv.ownBlock ≠ some bV
  r2 : rv.ownBlock ≠ some g
theorem Sr.ext {w0 w w' : World} {g bV p : Nat} {v rv : Value} {B : List Nat} (h : Sr w0 w g bV v rv B p) (hb : Below w.heap.size w w') : Sr w0 w' g bV v rv B p :=
  ⟨h.rs.ext hb, by rw [hb.block _ (lt_of_heap h.row)]; exact h.row, h.sq.below hb (Nat.le_refl _), h.low, h.gb, h.v1, h.r1, h.r2⟩
/-- half way: the reader has answered, the reference has not -/
structure Sh (w0 w : World) (g bV : Nat) (v rv : Value) (B : List Nat) (p p2 : Nat) : Prop where
  rs : RS w0 w g v B p
  row : w.heap[bV]? = some (.cells #[rv, .int .i64 (p2 : Int)] 55)
  sq : Sq w rv (bitsB B)
  low : w0.heap.size ≤ bV
  gb : g ≠ bV
  v1 : v.ownBlock ≠ some bV
  r1 : rv.ownBlock ≠ some bV
  r2 : rv.ownBlock ≠ some g
theorem Sr.turn {w0 w w' : World} {g bV p q : Nat} {v rv : Value} {B : List Nat} (h : Sr w0 w g bV v rv B p) (hr : Rd w0.heap.size w' g v B q) (hk : Keeps (fun k => k = g) w w') : Sh w0 w' g bV v rv B q p :=
  ⟨h.rs.step hr hk, by rw [hk.block _ (lt_of_heap h.row) (fun e => h.gb e.symm)]; exact h.row, ⟨h.sq.sq.frame hk (fun b hb e => h.r2 (e ▸ hb)), fun b hb => Nat.lt_of_lt_of_le (h.sq.lt b hb) hk.size⟩, h.low, h.gb, h.v1, h.r1, h.r2⟩
theorem Sh.lay {w0 w w2 : World} {g bV p p2 : Nat} {v rv : Value} {B : List Nat} (h : Sh w0 w g bV v rv B p p2) (hb : Below w.heap.size w w2) :
    Sr w0 ((w2.setCell ⟨bV, 0, none⟩ rv).setCell ⟨bV, 1, none⟩ (.int .i64 (p : Int))) g bV v rv B p := by
  have hK := ((Keeps.refl (fun k => k = bV) w2).setCell bV 0 rv (.inl rfl)).setCell bV 1 (.int .i64 (p : Int)) (.inl rfl)
  have hr := h.rs.ext hb
  have hrow : w2.heap[bV]? = _ := (hb.block _ (lt_of_heap h.row)).trans h.row
  have hsq := h.sq.below hb (Nat.le_refl _)
  refine ⟨⟨⟨by rw [hK.block _ hr.rd.lt h.gb]; exact hr.rd.blk, hr.rd.own.frame hK (fun b hb e => h.v1 (e ▸ hb)), hr.rd.low, hr.rd.ok, hr.rd.apart⟩, hr.below.trans (hK.below w0.heap.size hr.below.size (by rintro k rfl; exact h.low))⟩, ?_, ⟨hsq.sq.frame hK (fun b hb e => h.r1 (e ▸ hb)), fun b hb => Nat.lt_of_lt_of_le (hsq.lt b hb) hK.size⟩, h.low, h.gb, h.v1, h.r1, h.r2⟩
  rw [heap_setCell_same _ _ _ _ _ _ (heap_setCell_same _ _ _ _ _ _ hrow)]; rfl
def GTo (w0 w : World) (g bV : Nat) (v rv : Value) (B : List Nat) (q p : Nat) (a : Value) (e : Ending) (w' : World) : Prop := e = .returned a ∧ Sh w0 w' g bV v rv B q p ∧ Keeps (fun k => k = g) w w'
theorem Sr.get {w0 w : World} {g bV p : Nat} {v rv : Value} {B : List Nat} (h : Sr w0 w g bV v rv B p) (k : Nat) (hk : k ≤ 32) (hs : p + k ≤ 8 * B.length) (hB : B.length ≤ 70368744177664) :
    Calls Try.prog 33 #[.pointer (some ⟨g, 0, none⟩), .int .i64 (k : Int)] w (GTo w0 w g bV v rv B (p + k) p (.tuple #[.int .u32 ((Bits6.part (bitsB B) p k : Nat) : Int), .int .i64 0])) := by
  refine (get_any _ g p v B w h.rs.rd k hk hs hB).mono ?_
  rintro e w' ⟨rfl, h1, h2⟩
  refine ⟨?_, h.turn h1 h2, h2⟩
  rw [Bits6.part, num_slice, num_bitsB B h.rs.rd.own.bound]
theorem Sr.get_short {w0 w : World} {g bV p : Nat} {v rv : Value} {B : List Nat} (h : Sr w0 w g bV v rv B p) (k : Nat) (hk : k ≤ 32) (hs : 8 * B.length < p + k) (hB : B.length ≤ 70368744177664) :
    Calls Try.prog 33 #[.pointer (some ⟨g, 0, none⟩), .int .i64 (k : Int)] w (GTo w0 w g bV v rv B p p (.tuple #[.int .u32 0, .int .i64 12])) := by
  refine (BitsR.get_short _ g p v B w h.rs.rd k hk hs hB).mono ?_
  rintro e w' ⟨rfl, h1, h2⟩
  exact ⟨rfl, h.turn h1 h2, h2⟩
theorem Sr.get_bad {w0 w : World} {g bV p : Nat} {v rv : Value} {B : List Nat} (h : Sr w0 w g bV v rv B p) (k : Int) (hbad : k < 0 ∨ 32 < k) :
    Calls Try.prog 33 #[.pointer (some ⟨g, 0, none⟩), .int .i64 k] w (GTo w0 w g bV v rv B p p (.tuple #[.int .u32 0, .int .i64 2])) := by
  refine (BitsR.get_bad _ g p v B w h.rs.rd k hbad).mono ?_
  rintro e w' ⟨rfl, h1, h2⟩
  exact ⟨rfl, h.turn h1 h2, h2⟩
theorem Sr.align {w0 w : World} {g bV p : Nat} {v rv : Value} {B : List Nat} (h : Sr w0 w g bV v rv B p) (hp : p ≤ 562949953421312) :
    Calls Try.prog 34 #[.pointer (some ⟨g, 0, none⟩)] w (GTo w0 w g bV v rv B (up8 p) p (.int .i64 0)) := by
  refine (ralign_any _ g p v B w h.rs.rd hp).mono ?_
  rintro e w' ⟨rfl, h1, h2⟩
  have e : p + (8 - p % 8) % 8 = up8 p := by unfold up8; omega
  rw [e] at h1
  exact ⟨rfl, h.turn h1 h2, h2⟩

/-- what Get answers, whatever is asked: the place then, the number, the error -/
def gq (B : List Nat) (p : Nat) (k : Int) : Nat := if k < 0 ∨ 32 < k ∨ 8 * B.length < p + k.toNat then p else p + k.toNat
def gn (B : List Nat) (p : Nat) (k : Int) : Nat := if k < 0 ∨ 32 < k ∨ 8 * B.length < p + k.toNat then 0 else Bits6.part (bitsB B) p k.toNat
def ge (B : List Nat) (p : Nat) (k : Int) : Int := if k < 0 ∨ 32 < k then 2 else if 8 * B.length < p + k.toNat then 12 else 0
theorem Sr.get_all {w0 w : World} {g bV p : Nat} {v rv : Value} {B : List Nat} (h : Sr w0 w g bV v rv B p) (k : Int) (hB : B.length ≤ 70368744177664) :
    Calls Try.prog 33 #[.pointer (some ⟨g, 0, none⟩), .int .i64 k] w (GTo w0 w g bV v rv B (gq B p k) p (.tuple #[.int .u32 (gn B p k : Int), .int .i64 (ge B p k)])) := by
  by_cases hb : k < 0 ∨ 32 < k
  · have e1 : gq B p k = p := by unfold gq; rw [if_pos (by omega)]
    have e2 : gn B p k = 0 := by unfold gn; rw [if_pos (by omega)]
    have e3 : ge B p k = 2 := by unfold ge; rw [if_pos hb]
    rw [e1, e2, e3]
    exact h.get_bad k hb
  · obtain ⟨k0, rfl⟩ : ∃ k0 : Nat, k = (k0 : Int) := ⟨k.toNat, by omega⟩
    by_cases hs : 8 * B.length < p + k0
    · have e1 : gq B p k0 = p := by unfold gq; rw [if_pos (by rw [Int.toNat_natCast]; omega)]
      have e2 : gn B p k0 = 0 := by unfold gn; rw [if_pos (by rw [Int.toNat_natCast]; omega)]
      have e3 : ge B p k0 = 12 := by unfold ge; rw [if_neg hb, if_pos (by rw [Int.toNat_natCast]; omega)]
      rw [e1, e2, e3]
      exact h.get_short k0 (by omega) hs hB
    · have e1 : gq B p k0 = p + k0 := by unfold gq; rw [if_neg (by rw [Int.toNat_natCast]; omega), Int.toNat_natCast]
      have e2 : gn B p k0 = Bits6.part (bitsB B) p k0 := by unfold gn; rw [if_neg (by rw [Int.toNat_natCast]; omega), Int.toNat_natCast]
      have e3 : ge B p k0 = 0 := by unfold ge; rw [if_neg hb, if_neg (by rw [Int.toNat_natCast]; omega)]
      rw [e1, e2, e3]
      exact h.get k0 (by omega) (by omega) hB
def RGo (w : World) (v : Value) (B : List Nat) (p : Nat) (k : Int) (e : Ending) (w' : World) : Prop :=
  e = .returned (.tuple #[.agg #[v, .int .i64 (gq B p k : Int)], .int .u32 (gn B p k : Int), .int .i64 (ge B p k)]) ∧ Below w.heap.size w w'
theorem rget_all (a : Option Addr) (n cap : Nat) (B : List Nat) (p : Nat) (w : World) (hvs : Sq w (.slice a n cap) (bitsB B)) (k : Int) (hl : B.length ≤ 500) (hp : p ≤ 8 * B.length) :
    Calls Try.prog 37 #[.agg #[.slice a n cap, .int .i64 (p : Int)], .int .i64 k] w (RGo w (.slice a n cap) B p k) := by
  have hn : n = 8 * B.length := by rw [← bitsB_length]; exact hvs.sq.fits
  have hL := bitsB_length B
  by_cases hb : k < 0 ∨ 32 < k
  · have e1 : gq B p k = p := by unfold gq; rw [if_pos (by omega)]
    have e2 : gn B p k = 0 := by unfold gn; rw [if_pos (by omega)]
    have e3 : ge B p k = 2 := by unfold ge; rw [if_pos hb]
    unfold RGo
    rw [e1, e2, e3]
    exact rget_bad a n cap p w k hb
  · obtain ⟨k0, rfl⟩ : ∃ k0 : Nat, k = (k0 : Int) := ⟨k.toNat, by omega⟩
    by_cases hs : 8 * B.length < p + k0
    · have e1 : gq B p k0 = p := by unfold gq; rw [if_pos (by rw [Int.toNat_natCast]; omega)]
      have e2 : gn B p k0 = 0 := by unfold gn; rw [if_pos (by rw [Int.toNat_natCast]; omega)]
      have e3 : ge B p k0 = 12 := by unfold ge; rw [if_neg hb, if_pos (by rw [Int.toNat_natCast]; omega)]
      unfold RGo
      rw [e1, e2, e3]
      exact rget_short a n cap p w k0 (by omega) (by omega) (by omega) (by omega)
    · have e1 : gq B p k0 = p + k0 := by unfold gq; rw [if_neg (by rw [Int.toNat_natCast]; omega), Int.toNat_natCast]
      have e2 : gn B p k0 = Bits6.part (bitsB B) p k0 := by unfold gn; rw [if_neg (by rw [Int.toNat_natCast]; omega), Int.toNat_natCast]
      have e3 : ge B p k0 = 0 := by unfold ge; rw [if_neg hb, if_neg (by rw [Int.toNat_natCast]; omega)]
      unfold RGo
      rw [e1, e2, e3]
      exact rget_any (.slice a n cap) (bitsB B) p w hvs k0 (by omega) (by omega) (by omega)
attribute [irreducible] gq gn ge
end Go.Proofs.Ytadnikpbmjflaaa.Bits10
