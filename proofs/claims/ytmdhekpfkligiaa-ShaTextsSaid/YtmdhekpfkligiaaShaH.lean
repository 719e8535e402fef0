/- The walks of both Hex: 64 digits. -/
import Derived.Test.YtmdhekpfkligiaaArrB
import Derived.Test.YtmdhekpfkligiaaArrC
import Derived.Test.YtmdhekpfkligiaaLowB
import Derived.StillTailTactics
import Derived.Deep.QuietTactic
import Derived.BigQuiet
set_option linter.unusedVariables false
set_option linter.unusedSimpArgs false
namespace Go.Proofs.Ytmdhekpfkligiaa.ShaH
open Go.RowKit Base Num Low

def dig (n : Nat) : Nat := if n < 10 then 48 + n else 87 + n
def hexL (l : List Nat) : List Nat := l.flatMap fun b => [dig (b / 16), dig (b % 16)]
def rowOf (f : Nat → Nat) (n : Nat) : List Nat := (List.range n).map f
theorem hexL_snoc (f : Nat → Nat) (n : Nat) : hexL (rowOf f (n + 1)) = hexL (rowOf f n) ++ [dig (f n / 16), dig (f n % 16)] := by
  unfold hexL rowOf; rw [List.range_succ, List.map_append, List.flatMap_append]; rfl
theorem hexL_length (f : Nat → Nat) (n : Nat) : (hexL (rowOf f n)).length = 2 * n := by
  induction n with
  | zero => rfl
  | succ n ih => rw [hexL_snoc, List.length_append, ih]; simp; omega
theorem dig_lt (n : Nat) (h : n < 16) : dig n < 256 := by unfold dig; split <;> omega
theorem run_dig (n : Nat) (h : n < 16) (w : World) : (Instr.index 9 (.string { data := #[48, 49, 50, 51, 52, 53, 54, 55, 56, 57, 97, 98, 99, 100, 101, 102] }) (.int .u8 (n : Int))).run Try.prog w = .ok (.int .u8 (dig n : Int)) w := by
  rcases (show n = 0 ∨ n = 1 ∨ n = 2 ∨ n = 3 ∨ n = 4 ∨ n = 5 ∨ n = 6 ∨ n = 7 ∨ n = 8 ∨ n = 9 ∨ n = 10 ∨ n = 11 ∨ n = 12 ∨ n = 13 ∨ n = 14 ∨ n = 15 from by omega) with rfl | rfl | rfl | rfl | rfl | rfl | rfl | rfl | rfl | rfl | rfl | rfl | rfl | rfl | rfl | rfl <;> kernel_rfl
theorem and15 (x : Nat) (hx : x < 256) : bits BinOp.and IntKind.u8 (x : Int) 15 = ((x % 16 : Nat) : Int) := by
  have h := u8_and_nat x 15 hx (by omega)
  have e : x &&& 15 = x % 16 := Nat.and_two_pow_sub_one_eq_mod x 4
  rw [e] at h; exact h
theorem size_32 : (Try.prog.info? 23).map (·.size) = some 32 := by kernel_rfl
theorem size_u8 : (Try.prog.info? 5).map (·.size) = some 1 := by kernel_rfl
theorem make64 (w : World) : (Instr.makeSlice 25 (.int .i64 0) (.int .i64 64)).run Try.prog w = .ok (.slice (some ⟨w.heap.size, 0, none⟩) 0 64) (w.alloc (.cells (arr .u8 64 (fun _ => 0)) 5)) := by kernel_rfl
theorem own_make {w : World} {g cap base : Nat} {cur : Array Value} (hg : w.heap[g]? = some (.cells cur 5 (0, 0))) (hb : base ≤ g) (hc : cur.size = cap) (hm : cap ≤ maxLen) : Own .u8 256 5 base w (.slice (some ⟨g, 0, none⟩) 0 cap) [] :=
  ⟨⟨rfl, .inr ⟨g, cap, cur, rfl, hb, hg, Nat.zero_le _, hm, by rw [hc]; omega, by simp [numCells]⟩⟩, by simp⟩
set_option maxRecDepth 100000 in
set_option maxHeartbeats 2000000 in
theorem hex_any (f : Nat → Nat) (hf : ∀ i, f i < 256) (w : World) :
    Calls Try.prog 6 #[.agg (arr .u8 32 f)] w fun e w' => e = .returned (.string (strOf (hexL (rowOf f 32)))) ∧ Below w.heap.size w w' := by
  have hF := Lib.hid hf
  clear hf
  have s1 := Lib.hid (show (Try.prog.info? 23).map (·.size) = some (arr .u8 32 f).size by rw [size_32, arr_size])
  go_enter Try.func6, Try.ntmps6
  have hmk := make64
  go_wp2_with (with_reducible (refine wpList_load_row rfl 23 (.tmp 1) rfl w.heap.size rfl 23 _ _ _ ((heap_alloc_old _ _ (by simp)).trans (heap_alloc_new _ _)) Try.underlying23 rfl s1.out ?_))
  clear hmk
  have hO := own_make (base := w.heap.size) (heap_alloc_new (w.alloc (.cells (arr .u8 32 f) 23)) (.cells (arr .u8 64 (fun _ => 0)) 5)) (by simp) (arr_size _ _ _) (by unfold maxLen; omega)
  have hB : Below w.heap.size w ((w.alloc (.cells (arr .u8 32 f) 23)).alloc (.cells (arr .u8 64 (fun _ => 0)) 5)) := ((Below.refl _ _).alloc (Nat.le_refl _) _).alloc (by simp) _
  rw [show (w.alloc (.cells (arr .u8 32 f) 23)).heap.size = w.heap.size + 1 from by simp] at hO
  generalize (w.alloc (.cells (arr .u8 32 f) 23)).alloc (.cells (arr .u8 64 (fun _ => 0)) 5) = W at *
  have HO := Lib.hid hO
  have HB := Lib.hid hB
  clear hO hB
  go_loopw [3, 8] (fun v3 v wr => ∃ i : Nat, i ≤ 32 ∧ v = .int .i64 (i : Int) ∧ Own .u8 256 5 w.heap.size wr v3 (hexL (rowOf f i)) ∧ Below w.heap.size w wr) (fun _ v _ => 32 - (intOf v).toNat)
  case atStart => exact ⟨0, by omega, rfl, HO.out, HB.out⟩
  case round =>
    obtain ⟨i, hi, rfl, ho, hb⟩ := hrel
    obtain ⟨a3, n3, c3, rfl⟩ := ho.slice_
    clear HO HB
    have HO := Lib.hid ho
    have HB := Lib.hid hb
    clear ho hb
    by_cases hlt : i < 32
    · have d1 : decide ((i : Int) < 32) = true := decide_eq_true (by omega)
      have hix : ∀ w : World, (Instr.index 23 (.agg (arr .u8 32 f)) (.int .i64 (i : Int))).run Try.prog w = .ok (.int .u8 (f i : Int)) w := fun w => run_index_arr 23 5 32 .u8 f Try.underlying23 Try.underlying5 size_u8 i hlt w
      have hx := hF.out i
      have HS := Lib.hid (hexL_snoc f i)
      have hl := hexL_length f i
      have HL := Lib.hid hl
      clear hl
      generalize f i = x at *
      have ha := and15 x hx
      have hq : (x : Int) / 16 = ((x / 16 : Nat) : Int) := by omega
      have h1 : ∀ w : World, (Instr.index 9 (.string { data := #[48, 49, 50, 51, 52, 53, 54, 55, 56, 57, 97, 98, 99, 100, 101, 102] }) (.int .u8 ((x / 16 : Nat) : Int))).run Try.prog w = .ok (.int .u8 (dig (x / 16) : Int)) w := fun w => run_dig _ (by omega) w
      have h2 : ∀ w : World, (Instr.index 9 (.string { data := #[48, 49, 50, 51, 52, 53, 54, 55, 56, 57, 97, 98, 99, 100, 101, 102] }) (.int .u8 ((x % 16 : Nat) : Int))).run Try.prog w = .ok (.int .u8 (dig (x % 16) : Int)) w := fun w => run_dig _ (by omega) w
      obtain ⟨y, hy⟩ : ∃ y, y = x / 16 := ⟨_, rfl⟩
      obtain ⟨z, hz⟩ : ∃ z, z = x % 16 := ⟨_, rfl⟩
      have hy16 : y < 16 := by omega
      have hz16 : z < 16 := by omega
      rw [← hy] at hq h1 HS
      rw [← hz] at ha h2 HS
      clear hy hz
      go_wp2_with fail
      go_region_law ((refine step_append_nums rfl (.tmp 11) (.tmp 18) 25 5 rfl .u8 256 1 w.heap.size u8s _ _ rfl (HO.out.drew.alloc _) ⟨wr.heap.size, 0, none⟩ 2 2 [dig y, dig z] rfl (nums_lit .u8 256 5 wr.drew [dig y, dig z] (by simp [maxLen]) (by intro q hq; simp at hq; rcases hq with rfl | rfl; exact dig_lt _ hy16; exact dig_lt _ hz16) _ rfl 2 rfl) (by omega) (by rw [HL.out]; omega) (by rw [HL.out]; omega) (by have := HB.out.size; simp; omega) ?_); (intro g cap w2 hown hgr; have H2 := Lib.hid (And.intro hown hgr); clear hown hgr))
      all_goals
        clear hix h1 h2 hq ha
        go_wp2_with fail
        go_roundw
        case rel => exact ⟨i + 1, by omega, by go_num, by rw [HS.out]; exact H2.out.1, below_grown ((below_drew HB.out).alloc (by exact HB.out.size) _) (HO.out.drew.alloc _) H2.out.2 (Nat.le_refl _) (by have := HB.out.size; simp; omega)⟩
        case measure => simp [intOf]; omega
    · have hi32 : i = 32 := by omega
      have hO := HO.out
      rw [hi32] at hO
      have hi' : 32 ≤ i := by omega
      clear HO hi32 hlt
      have HN := Lib.hid hO.nums
      clear hO
      go_wp2_with (with_reducible (refine wpList_toString rfl 9 25 5 (.tmp 21) rfl Try.underlying9 Try.underlying25 Try.underlying5 (.slice a3 n3 c3) (hexL (rowOf f 32)) 256 rfl HN.out ?_))
      go_ret
      exact ⟨rfl, HB.out⟩
end Go.Proofs.Ytmdhekpfkligiaa.ShaH
