/- The law ShaNumbers. -/
import Derived.Test.YtmdhekpfkligiaaShaL
import Derived.Test.YtmdhekpfkligiaaShaQ
import Derived.Test.YtmdhekpfkligiaaArrE
set_option linter.unusedVariables false
set_option linter.unusedSimpArgs false
namespace Go.Proofs.Ytmdhekpfkligiaa.ShaN
open Go.RowKit ShaM Base Num Low ShaW ShaP ShaK ShaB ShaO ShaH ShaR ShaQ ShaL

theorem rof_hf (v : Value) (l : List Nat) (w : World) (hv : Nums .u8 256 w v l) (hl : l.length ≤ 100000000000000) : Calls Try.prog 8 #[v] w (HTo w l) := rof_any v l w hv hl
def Ex2To (w : World) (e : Ending) (w' : World) : Prop := ∃ g : Nat → Nat, (∀ i, g i < 256) ∧ strOf (hexL (rowOf g 32)) = { data := #[50, 52, 56, 100, 54, 97, 54, 49, 100, 50, 48, 54, 51, 56, 98, 56, 101, 53, 99, 48, 50, 54, 57, 51, 48, 99, 51, 101, 54, 48, 51, 57, 97, 51, 51, 99, 101, 52, 53, 57, 54, 52, 102, 102, 50, 49, 54, 55, 102, 54, 101, 99, 101, 100, 100, 52, 49, 57, 100, 98, 48, 54, 99, 49] } ∧ e = .returned (.agg (arr .u8 32 g)) ∧ Below w.heap.size w w'
theorem of_ex2 (v : Value) (w : World) (hv : Nums .u8 256 w v [97, 98, 99, 100, 98, 99, 100, 101, 99, 100, 101, 102, 100, 101, 102, 103, 101, 102, 103, 104, 102, 103, 104, 105, 103, 104, 105, 106, 104, 105, 106, 107, 105, 106, 107, 108, 106, 107, 108, 109, 107, 108, 109, 110, 108, 109, 110, 111, 109, 110, 111, 112, 110, 111, 112, 113]) : Calls Try.prog 7 #[v] w (Ex2To w) :=
  (of_hf v _ w hv (by simp)).mono fun _ _ h => ⟨_, hf_lt _, ex2, h.1, h.2⟩
theorem eq_same (f : Nat → Nat) (w : World) : (Op.equalIn 10000 23 (.agg (arr .u8 32 f)) (.agg (arr .u8 32 f))).run Try.prog w = .ok true w := by
  obtain ⟨i, h1, h2⟩ : ∃ i, Try.prog.info? 5 = some i ∧ i.size = 1 := by
    have := ShaH.size_u8
    cases hq : Try.prog.info? 5 with
    | none => simp [hq] at this
    | some i => exact ⟨i, rfl, by simpa [hq] using this⟩
  rw [run_equalIn_arr 23 5 32 .u8 f f Try.underlying23 Try.underlying5 i h1 (by kernel_rfl) w]
  simp
theorem neq_same (f : Nat → Nat) (w : World) : (binOp .neq 23 (.agg (arr .u8 32 f)) (.agg (arr .u8 32 f))).run Try.prog w = .ok (.bool false) w := by
  rw [run_neq_struct, eq_same]; rfl
theorem wpList_neq_same {ops : Array Oper} {rest : List Oper} {o : Oper} {a : Act} {w : World} {Q : Exit → Act → World → Prop} (hgd : o.guard = none) (x y : Operand) (ty : TypeId)
    (ho : o.op = .binOp .neq 23 x y ty) (f : Nat → Nat) (hx : a.eval x = .agg (arr .u8 32 f)) (hy : a.eval y = .agg (arr .u8 32 f))
    (h : wpList Try.prog ops Q rest (a.put o.dst (.bool false)) w) : wpList Try.prog ops Q (o :: rest) a w := by
  refine wpList_plain hgd fun K hK => ?_
  unfold Oper.wp
  simp only [execOp, ho, hx, hy, neq_same, Result.andThen, Sem.run_bind, Sem.run_pure]
  exact hK _ _ h
set_option maxRecDepth 100000 in
set_option maxHeartbeats 1000000 in
theorem numbers_any (w : World) : Calls Try.prog 3 #[] w fun e w' => e = .returned (.bool true) ∧ Below w.heap.size w w' := by
  have kc := fun (w : World) (C : Array Value) (n c : Nat) => Lib.run_convert_bytes_const (P := Try.prog) w 25 5 C n c Try.underlying25 Try.underlying5
  go_enter Try.func3, Try.ntmps3
  go_wp2_with fail
  refine (of_ex2 _ _ (nums_blk .u8 256 (heap_alloc_new _ _) _ (by decide) (by decide) rfl 56 rfl)).mono ?_
  rintro e w1 ⟨g, hg, hgs, rfl, hb1⟩
  have HG := Lib.hid hg
  have HGS := Lib.hid hgs
  clear hg hgs
  have H1 := Lib.hid (hb1.mono (ext_alloc w _).size)
  have H1' := Lib.hid ((ext_alloc w _).trans H1.out)
  clear hb1 H1
  go_wp2_with fail
  refine (hex_any _ HG.out _).mono ?_
  rintro e w2 ⟨rfl, hb2⟩
  rw [HGS.out]
  have H2 := Lib.hid (H1'.out.trans (hb2.mono H1'.out.size))
  clear hb2 H1' kc
  go_wp2_with fail
  go_loopw [1, 2] (fun v1 v2 wr => ∃ (n : Nat) (l : List Nat), n ≤ 200 ∧ v2 = .int .i64 (n : Int) ∧ l.length = n ∧ Own .u8 256 5 w.heap.size wr v1 l ∧ Below w.heap.size w wr) (fun _ v _ => 200 - (intOf v).toNat)
  case atStart => exact ⟨0, [], by omega, rfl, rfl, Own.nil _ _ _ _ _, H2.out⟩
  case round =>
    obtain ⟨n, l, hn, rfl, hl, ho, hb⟩ := hrel
    obtain ⟨a1, n1, c1, rfl⟩ := ho.slice_
    have HO := Lib.hid ho
    clear H2
    have HB := Lib.hid hb
    have HL := Lib.hid hl
    clear ho hb hl
    by_cases hlt : n < 200
    · have d1 : decide ((n : Int) < 200) = true := decide_eq_true (by omega)
      have hm : n * n < 40000 := Nat.mul_lt_mul'' hlt hlt
      obtain ⟨m, hmm⟩ : ∃ m, m = n * n := ⟨_, rfl⟩
      rw [← hmm] at hm
      have e1 : (n : Int) * (n : Int) = (m : Int) := by rw [hmm, natMul]
      clear hmm
      go_wp2_with fail
      refine (of_hf _ l _ HO.out.nums (by have := HL.out; omega)).mono ?_
      rintro e w3 ⟨rfl, hb3⟩
      have HB3 := Lib.hid hb3
      have HO3 := Lib.hid (HO.out.below hb3 (Nat.le_refl _))
      clear hb3
      go_wp2_with fail
      refine (rof_hf _ l _ HO3.out.nums (by have := HL.out; omega)).mono ?_
      rintro e w4 ⟨rfl, hb4⟩
      have HB4 := Lib.hid (HB.out.trans ((HB3.out.trans (hb4.mono HB3.out.size)).mono HB.out.size))
      have HO4 := Lib.hid (HO3.out.below hb4 (Nat.le_refl _))
      clear hb4
      have HBy := Lib.hid (show Nums .u8 256 (w4.alloc (.cells #[.int .u8 ((m % 256 : Nat) : Int)] 5)) (.slice (some ⟨w4.heap.size, 0, none⟩) 1 1) [m % 256] from nums_one .u8 256 5 w4 (m % 256) (Nat.mod_lt _ (by omega)))
      have e2 : (m : Int) % 256 = ((m % 256 : Nat) : Int) := by omega
      obtain ⟨y, hy⟩ : ∃ y, y = m % 256 := ⟨_, rfl⟩
      rw [← hy] at HBy e2
      have hyl : y < 256 := by rw [hy]; exact Nat.mod_lt _ (by omega)
      clear hy
      have GA := Lib.hid (show (l.length + ([y] : List Nat).length) * 1 ≤ 140737488355328 by have := HL.out; simp; omega)
      have GB := Lib.hid (show l.length + ([y] : List Nat).length ≤ 140737488355328 by have := HL.out; simp; omega)
      have GC := Lib.hid (show w.heap.size ≤ (w4.alloc (.cells #[.int .u8 (y : Int)] 5)).heap.size by have := HB4.out.size; simp; omega)
      go_wp2_with (first | (with_reducible refine wpList_neq_same rfl (.tmp 13) (.tmp 15) 23 rfl (hf l) rfl rfl ?_) | ((with_reducible refine wpList_append_nums rfl (.tmp 17) (.tmp 22) 25 5 rfl .u8 256 1 w.heap.size u8s (.slice a1 n1 c1) l rfl (HO4.out.alloc _) (.slice (some ⟨w4.heap.size, 0, none⟩) 1 1) [y] rfl HBy.out GA.out GB.out GC.out ?_); (intro v2 w5 hown2 hgr2; have hb2 := below_grown (HB4.out.alloc HB4.out.size _) (HO4.out.alloc _) hgr2 (Nat.le_refl _) GC.out; obtain ⟨a2, n2, c2, rfl⟩ := hown2.slice_; have H5 := Lib.hid (And.intro hown2 hb2); clear hown2 hgr2 hb2)))
      go_roundw
      case rel => exact ⟨n + 1, _, by omega, by go_num, by rw [List.length_append, HL.out]; rfl, H5.out.1, H5.out.2⟩
      case measure => simp [intOf]; omega
    · have hn' : 200 ≤ n := by omega
      go_wp2_with fail
      refine (awake_any _).mono ?_
      rintro e w3 ⟨rfl, hb3⟩
      have H6 := Lib.hid (HB.out.trans (hb3.mono HB.out.size))
      clear hb3
      go_wp2_with fail
      go_ret
      exact ⟨rfl, H6.out⟩
end Go.Proofs.Ytmdhekpfkligiaa.ShaN
