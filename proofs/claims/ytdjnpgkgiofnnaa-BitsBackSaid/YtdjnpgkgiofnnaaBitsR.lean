/- The walks of package bits: the writer's Align and Bits; the reader; what was not made. -/
import Derived.Test.YtdjnpgkgiofnnaaBitsX
import Derived.Test.YtdjnpgkgiofnnaaBitsN
import Derived.Deep.RegionWith
import Derived.Deep.QuietTactic
import Derived.BigQuiet
set_option linter.unusedVariables false
set_option linter.unusedSimpArgs false
namespace Go.Proofs.Ytdjnpgkgiofnnaa.BitsR
open Go.RowKit BitsM Base Low BitsW BitsX

set_option maxRecDepth 100000 in
set_option maxHeartbeats 1000000 in
theorem align_any (base g V R T : Nat) (v : Value) (w : World) (h : Wr base w g v V R T) (hR : 8 * T + R ≤ 562949953421312) :
    Calls Try.prog 6 #[.pointer (some ⟨g, 0, none⟩)] w (PutTo base g T v w V (R + (8 - R % 8) % 8)) := by
  have c0 := (cell_of_row _ _ 0 _ _ _ h.blk)
  have c2 := (cell_of_row _ _ 2 _ _ _ h.blk)
  simp only [List.getElem?_toArray, List.getElem?_cons_succ, List.getElem?_cons_zero] at c0 c2
  obtain ⟨at_, hat⟩ : ∃ a, a = R % 8 := ⟨_, rfl⟩
  have hin := inside_at g (8 * T + R) at_ (by omega) (by omega) w c2
  obtain ⟨k, hk⟩ : ∃ k, k = (8 - at_) % 8 := ⟨_, rfl⟩
  have ek : ((8 : Int) - (at_ : Int)) % 8 = (k : Int) := by omega
  have hp := put_any base g V R T v w h 0 k (by omega) (Nat.pow_pos (by omega)) hR
  rw [Nat.zero_mul, Nat.add_zero] at hp
  rw [← hat, ← hk]
  have hI := Lib.hid hin
  have hP := Lib.hid hp
  have ha8 : at_ ≤ 7 := by omega
  clear hin hp hk hat h
  go_enter Try.func6, Try.ntmps6
  go_wp2_with (go_at_call 16; refine hI.out.mono ?_; rintro e w1 ⟨rfl, rfl⟩)
  refine hP.out.mono ?_
  rintro e w1 ⟨rfl, hw1⟩
  go_wp2_with fail
  go_ret
  exact ⟨rfl, hw1⟩

theorem bits_any (base g V R T : Nat) (v : Value) (w : World) (h : Wr base w g v V R T) :
    Calls Try.prog 10 #[.pointer (some ⟨g, 0, none⟩)] w fun e w' => e = .returned (.int .i64 ((8 * T + R : Nat) : Int)) ∧ w = w' := by
  have c0 := (cell_of_row _ _ 0 _ _ _ h.blk)
  have c2 := (cell_of_row _ _ 2 _ _ _ h.blk)
  simp only [List.getElem?_toArray, List.getElem?_cons_succ, List.getElem?_cons_zero] at c0 c2
  clear h
  go_enter Try.func10, Try.ntmps10
  go_wp2
  go_ret
  exact ⟨rfl, rfl⟩

/-- WHAT WAS NOT MADE: nil, or a zero object -/
def Unmade (w : World) (p : Value) : Prop := p = .pointer none ∨ ∃ g, p = .pointer (some ⟨g, 0, none⟩) ∧ w.cell? ⟨g, 0, none⟩ = some (.bool false)
theorem none_put (p : Value) (n k : Int) (w : World) (h : Unmade w p) : Calls Try.prog 7 #[p, .int .u32 n, .int .i64 k] w fun e w' => e = .returned (.int .i64 1) ∧ w = w' := by
  rcases h with rfl | ⟨g, rfl, hc⟩
  all_goals
    go_enter Try.func7, Try.ntmps7
    go_wp2
    go_ret
    exact ⟨rfl, rfl⟩
theorem none_align (p : Value) (w : World) (h : Unmade w p) : Calls Try.prog 6 #[p] w fun e w' => e = .returned (.int .i64 1) ∧ w = w' := by
  rcases h with rfl | ⟨g, rfl, hc⟩
  all_goals
    go_enter Try.func6, Try.ntmps6
    go_wp2
    go_ret
    exact ⟨rfl, rfl⟩
theorem none_take (p : Value) (w : World) (h : Unmade w p) : Calls Try.prog 8 #[p] w fun e w' => e = .returned (.slice none 0 0) ∧ w = w' := by
  rcases h with rfl | ⟨g, rfl, hc⟩
  all_goals
    go_enter Try.func8, Try.ntmps8
    go_wp2
    go_ret
    exact ⟨rfl, rfl⟩
theorem none_bits (p : Value) (w : World) (h : Unmade w p) : Calls Try.prog 10 #[p] w fun e w' => e = .returned (.int .i64 0) ∧ w = w' := by
  rcases h with rfl | ⟨g, rfl, hc⟩
  all_goals
    go_enter Try.func10, Try.ntmps10
    go_wp2
    go_ret
    exact ⟨rfl, rfl⟩
theorem none_get (p : Value) (k : Int) (w : World) (h : Unmade w p) : Calls Try.prog 13 #[p, .int .i64 k] w fun e w' => e = .returned (.tuple #[.int .u32 0, .int .i64 1]) ∧ w = w' := by
  rcases h with rfl | ⟨g, rfl, hc⟩
  all_goals
    go_enter Try.func13, Try.ntmps13
    go_wp2
    go_ret2
    exact ⟨rfl, rfl⟩
theorem none_ralign (p : Value) (w : World) (h : Unmade w p) : Calls Try.prog 12 #[p] w fun e w' => e = .returned (.int .i64 1) ∧ w = w' := by
  rcases h with rfl | ⟨g, rfl, hc⟩
  all_goals
    go_enter Try.func12, Try.ntmps12
    go_wp2
    go_ret
    exact ⟨rfl, rfl⟩
theorem none_at (p : Value) (w : World) (h : Unmade w p) : Calls Try.prog 14 #[p] w fun e w' => e = .returned (.int .i64 0) ∧ w = w' := by
  rcases h with rfl | ⟨g, rfl, hc⟩
  all_goals
    go_enter Try.func14, Try.ntmps14
    go_wp2
    go_ret
    exact ⟨rfl, rfl⟩

/-- A READER at block g: the bytes B of its own, p bits taken. -/
structure Rd (base : Nat) (w : World) (g : Nat) (v : Value) (B : List Nat) (p : Nat) : Prop where
  blk : w.heap[g]? = some (.cells #[.bool true, v, .int .i64 (p : Int)] 47 (0, 0))
  own : Own .u8 256 5 base w v B
  low : base ≤ g
  ok : p ≤ 8 * B.length
  apart : v.ownBlock ≠ some g
theorem Rd.lt {base g p : Nat} {w : World} {v : Value} {B : List Nat} (h : Rd base w g v B p) : g < w.heap.size := lt_of_heap h.blk

/-- what NewReader leaves -/
def ReaderTo (w : World) (l : List Nat) (e : Ending) (w' : World) : Prop :=
  ∃ g v, e = .returned (.pointer (some ⟨g, 0, none⟩)) ∧ Rd w.heap.size w' g v l 0 ∧ Below w.heap.size w w'
set_option maxHeartbeats 1000000 in
theorem newReader_any (v : Value) (l : List Nat) (w : World) (hv : Nums .u8 256 w v l) (hl : l.length ≤ 140737488355328) :
    Calls Try.prog 11 #[v] w (ReaderTo w l) := by
  have hb1 := Lib.hid (show (([] : List Nat).length + l.length) * 1 ≤ 140737488355328 by simpa using hl)
  have hb2 := Lib.hid (show ([] : List Nat).length + l.length ≤ 140737488355328 by simpa using hl)
  have hV := Lib.hid hv
  have hO := Lib.hid (Own.nil .u8 256 5 w.heap.size w)
  clear hv
  go_enter Try.func11, Try.ntmps11
  go_wp2_with (at_builtin; refine wpList_append_nums_at rfl (.const (Value.slice none 0 0)) (.tmp 3) 25 5 rfl .u8 256 1 w.heap.size u8s (.slice none 0 0) [] rfl hO.out v l rfl hV.out hb1.out hb2.out (Nat.le_refl _) ?_; intro v2 w2 hown2 hgr2 _; obtain ⟨a2, n2, cap2, rfl⟩ := hown2.slice_)
  go_ret
  refine ⟨w2.heap.size, _, rfl, ⟨heap_alloc_new _ _, (by simpa using hown2.alloc _), hgr2.size, by simp, ?_⟩, (below_grown (Below.refl _ _) (Own.nil .u8 256 5 w.heap.size w) hgr2 (Nat.le_refl _) (Nat.le_refl _)).alloc hgr2.size _⟩
  intro e
  have := (hown2.lt _ e).2; omega
theorem rat_any (base g p : Nat) (v : Value) (B : List Nat) (w : World) (h : Rd base w g v B p) :
    Calls Try.prog 14 #[.pointer (some ⟨g, 0, none⟩)] w fun e w' => e = .returned (.int .i64 (p : Int)) ∧ w = w' := by
  have c0 := (cell_of_row _ _ 0 _ _ _ h.blk)
  have c2 := (cell_of_row _ _ 2 _ _ _ h.blk)
  simp only [List.getElem?_toArray, List.getElem?_cons_succ, List.getElem?_cons_zero] at c0 c2
  clear h
  go_enter Try.func14, Try.ntmps14
  go_wp2
  go_ret
  exact ⟨rfl, rfl⟩
theorem Rd.set {base g p : Nat} {w : World} {v : Value} {B : List Nat} (h : Rd base w g v B p) (q : Nat) (hq : q ≤ 8 * B.length) :
    Rd base (w.setCell ⟨g, 2, none⟩ (.int .i64 (q : Int))) g v B q ∧ Keeps (fun k => k = g) w (w.setCell ⟨g, 2, none⟩ (.int .i64 (q : Int))) := by
  have hk : Keeps (fun k => k = g) w (w.setCell ⟨g, 2, none⟩ (.int .i64 (q : Int))) := (Keeps.refl _ _).setCell g _ _ (.inl rfl)
  exact ⟨⟨by rw [heap_setCell_same _ _ _ _ _ _ h.blk]; rfl, h.own.frame hk (fun b hb e => h.apart (by rw [hb, e])), h.low, hq, h.apart⟩, hk⟩
theorem Rd.drew {base g p : Nat} {w : World} {v : Value} {B : List Nat} (h : Rd base w g v B p) : Rd base w.drew g v B p := ⟨h.blk, h.own.drew, h.low, h.ok, h.apart⟩
theorem Rd.drewN {base g p : Nat} {w : World} {v : Value} {B : List Nat} (h : Rd base w g v B p) (n : Nat) : Rd base (w.drewN n) g v B p := ⟨h.blk, ⟨h.own.row, h.own.bound⟩, h.low, h.ok, h.apart⟩
theorem keeps_drewN {S : Nat → Prop} {w w1 : World} (h : Keeps S w w1) (n : Nat) : Keeps S w (w1.drewN n) := ⟨h.os, h.tape, h.output, h.size, h.block⟩
/-- what a reader's call leaves -/
def ReadTo (base g : Nat) (v : Value) (B : List Nat) (w : World) (r : Value) (q : Nat) (e : Ending) (w' : World) : Prop := e = .returned r ∧ Rd base w' g v B q ∧ Keeps (fun k => k = g) w w'

set_option maxRecDepth 100000 in
set_option maxHeartbeats 1000000 in
theorem ralign_any (base g p : Nat) (v : Value) (B : List Nat) (w : World) (h : Rd base w g v B p) (hp : p ≤ 562949953421312) :
    Calls Try.prog 12 #[.pointer (some ⟨g, 0, none⟩)] w (ReadTo base g v B w (.int .i64 0) (p + (8 - p % 8) % 8)) := by
  have c0 := (cell_of_row _ _ 0 _ _ _ h.blk)
  have c2 := (cell_of_row _ _ 2 _ _ _ h.blk)
  have f2 := frozen_of_row _ _ 2 _ _ h.blk
  simp only [List.getElem?_toArray, List.getElem?_cons_succ, List.getElem?_cons_zero] at c0 c2
  obtain ⟨at_, hat⟩ : ∃ a, a = p % 8 := ⟨_, rfl⟩
  have hin := inside_at g p at_ (by omega) (by omega) w.drew c2
  obtain ⟨k, hk⟩ : ∃ k, k = (8 - at_) % 8 := ⟨_, rfl⟩
  have ek : ((8 : Int) - (at_ : Int)) % 8 = (k : Int) := by omega
  have hq : p + k ≤ 8 * B.length := by have := h.ok; omega
  have hs := h.set (p + k) hq
  rw [← hat, ← hk]
  have hI := Lib.hid hin
  have hS := Lib.hid hs
  have ha8 : at_ ≤ 7 := by omega
  have hk8 : k ≤ 7 := by omega
  clear hin hk hat hs hq h
  go_enter Try.func12, Try.ntmps12
  go_wp2_with fail
  go_region_with (go_at_call 16; refine hI.out.mono ?_; rintro e w1 ⟨rfl, rfl⟩)
  all_goals go_wp2
  all_goals go_ret
  all_goals
    have e : IntKind.i64.wrap ((p : Int) + (IntKind.i64.wrap (8 - (at_ : Int))).tmod 8) = ((p + k : Nat) : Int) := by
      rw [IntWalk.i64_in (8 - (at_ : Int)) (by omega), IntWalk.rem_in _ _ (by omega), ek, IntWalk.i64_in _ (by omega)]; omega
    rw [e]
    exact ⟨rfl, hS.out.1.drew, hS.out.2.drew⟩

/-- too many bits, or fewer than none: nothing turns -/
theorem get_bad (base g p : Nat) (v : Value) (B : List Nat) (w : World) (h : Rd base w g v B p) (k : Int) (hbad : k < 0 ∨ 32 < k) :
    Calls Try.prog 13 #[.pointer (some ⟨g, 0, none⟩), .int .i64 k] w (ReadTo base g v B w (.tuple #[.int .u32 0, .int .i64 2]) p) := by
  have c0 := (cell_of_row _ _ 0 _ _ _ h.blk)
  simp only [List.getElem?_toArray, List.getElem?_cons_zero] at c0
  have hH := Lib.hid h
  clear h
  by_cases h1 : k < 0
  · have d1 : decide (k < 0) = true := by simpa using h1
    go_enter Try.func13, Try.ntmps13
    go_wp2
    go_ret2
    exact ⟨rfl, hH.out, Keeps.refl _ _⟩
  · have d1 : decide (k < 0) = false := by simpa using h1
    have d2 : decide (32 < k) = true := by simp; omega
    go_enter Try.func13, Try.ntmps13
    go_wp2
    go_ret2
    exact ⟨rfl, hH.out, Keeps.refl _ _⟩

set_option maxRecDepth 100000 in
set_option maxHeartbeats 1000000 in
/-- bits are wanting -/
theorem get_short (base g p : Nat) (v : Value) (B : List Nat) (w : World) (h : Rd base w g v B p) (k : Nat) (hk : k ≤ 32) (hs : 8 * B.length < p + k) (hB : B.length ≤ 70368744177664) :
    Calls Try.prog 13 #[.pointer (some ⟨g, 0, none⟩), .int .i64 (k : Int)] w (ReadTo base g v B w (.tuple #[.int .u32 0, .int .i64 12]) p) := by
  have c0 := (cell_of_row _ _ 0 _ _ _ h.blk)
  have c1 := (cell_of_row _ _ 1 _ _ _ h.blk)
  have c2 := (cell_of_row _ _ 2 _ _ _ h.blk)
  simp only [List.getElem?_toArray, List.getElem?_cons_succ, List.getElem?_cons_zero] at c0 c1 c2
  have hH := Lib.hid h
  have hok := h.ok
  obtain ⟨a, cap, rfl, -, -, -⟩ := h.own.nums.shape
  have d1 : decide ((k : Int) < 0) = false := by simp
  have d2 : decide ((32 : Int) < (k : Int)) = false := by simp; omega
  have e1 : IntKind.i64.wrap ((B.length : Int) * 8) = ((8 * B.length : Nat) : Int) := by rw [IntWalk.i64_in _ (by omega)]; omega
  have e2 : IntKind.i64.wrap (((8 * B.length : Nat) : Int) - (p : Int)) = ((8 * B.length - p : Nat) : Int) := by rw [IntWalk.i64_in _ (by omega)]; omega
  have d3 : decide (((8 * B.length - p : Nat) : Int) < (k : Int)) = true := by simp; omega
  clear h
  go_enter Try.func13, Try.ntmps13
  go_wp2
  go_quiet (fail)
  go_wp2
  go_ret2
  exact ⟨rfl, hH.out.drewN _, keeps_drewN (Keeps.refl _ _) _⟩
end Go.Proofs.Ytdjnpgkgiofnnaa.BitsR
