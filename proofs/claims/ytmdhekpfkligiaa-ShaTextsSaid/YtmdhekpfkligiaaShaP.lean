/- The walks of package sha: the primes, the numbers K and the numbers H at first. -/
import Derived.Test.YtmdhekpfkligiaaShaW
set_option linter.unusedVariables false
set_option linter.unusedSimpArgs false
namespace Go.Proofs.Ytmdhekpfkligiaa.ShaP
open Go.RowKit ShaM Base Num ShaW

/-! the primes -/
def primeB (p : Nat) : Bool := decide (2 ≤ p) && (List.range 20).all (fun d => decide (d < 2) || decide (p < d * d) || decide (p % d ≠ 0))
theorem primeB_false (p d : Nat) (h2 : 2 ≤ d) (hd : d * d ≤ p) (hp : p < 400) (hm : p % d = 0) : primeB p = false := by
  have hd20 : d < 20 := by
    rcases Nat.lt_or_ge d 20 with h | h
    · exact h
    · have := Nat.mul_le_mul h h; omega
  unfold primeB
  rw [Bool.and_eq_false_iff]
  right
  rw [List.all_eq_false]
  exact ⟨d, by simpa using hd20, by simp; omega⟩
theorem primeB_true (p d : Nat) (h2 : 2 ≤ p) (hd : p < d * d) (hc : ∀ c, 2 ≤ c → c < d → p % c ≠ 0) : primeB p = true := by
  unfold primeB
  rw [Bool.and_eq_true, List.all_eq_true]
  refine ⟨by simpa using h2, ?_⟩
  intro c _
  by_cases h1 : c < 2
  · simp [h1]
  · by_cases h3 : c < d
    · have := hc c (by omega) h3
      simp [this]
    · have : d * d ≤ c * c := Nat.mul_le_mul (by omega) (by omega)
      simp; omega
set_option maxHeartbeats 1000000 in
theorem isPrime_any (p : Nat) (hp : p < 400) (w : World) :
    Calls Try.prog 25 #[.int .u64 (p : Int)] w fun e w' => e = .returned (.bool (primeB p)) ∧ w = w' := by
  by_cases h2 : p < 2
  · have hf : primeB p = false := by unfold primeB; simp; omega
    have HF := Lib.hid hf
    clear hf
    go_enter Try.func25, Try.ntmps25
    go_wp2
    go_ret
    exact ⟨by rw [HF.out]; rfl, rfl⟩
  · go_enter Try.func25, Try.ntmps25
    go_wp2
    go_loop [3] (fun v => ∃ d : Nat, 2 ≤ d ∧ d ≤ 20 ∧ v = .int .u64 (d : Int) ∧ Hid (∀ c, 2 ≤ c → c < d → p % c ≠ 0)) (fun v => 20 - (intOf v).toNat)
    case atStart => exact ⟨2, by omega, by omega, rfl, Lib.hid (fun c _ _ => by omega)⟩
    case round =>
      obtain ⟨d, hd, hd20, rfl, HC⟩ := hrel
      have hdd : d * d ≤ 20 * 20 := Nat.mul_le_mul hd20 hd20
      obtain ⟨D, hD⟩ : ∃ D, D = d * d := ⟨_, rfl⟩
      rw [← hD] at hdd
      have e1 : (d : Int) * (d : Int) = (D : Int) := by rw [hD, natMul]
      have HD := Lib.hid hD
      clear hD
      by_cases hle : D ≤ p
      · have hlt : d < 20 := by
          rcases Nat.lt_or_ge d 20 with h | h
          · exact h
          · have := Nat.mul_le_mul h h; rw [← HD.out] at this; omega
        by_cases hm : p % d = 0
        · have HF := Lib.hid (primeB_false p d hd (by rw [← HD.out]; exact hle) hp hm)
          have t1 : (((p : Int) % (d : Int)) == 0) = true := by rw [natMod, hm]; rfl
          clear hm
          go_wp2
          go_ret
          exact ⟨by rw [HF.out]; rfl, rfl⟩
        · have t1 : (((p : Int) % (d : Int)) == 0) = false := by rw [natMod, beq_eq_false_iff_ne]; omega
          have HM := Lib.hid hm
          clear hm
          go_wp2
          go_round
          case rel => exact ⟨d + 1, by omega, by omega, by go_num, Lib.hid (fun c h1 h2 => by
            by_cases e : c = d
            · rw [e]; exact HM.out
            · exact HC.out c h1 (by omega))⟩
          case measure => simp [intOf]; omega
      · have HF := Lib.hid (primeB_true p d (by omega) (by rw [← HD.out]; omega) HC.out)
        go_wp2
        go_ret
        exact ⟨by rw [HF.out]; rfl, rfl⟩
/-- the primes below p -/
def pl (p : Nat) : List Nat := (List.range p).filter primeB
theorem pl_succ (p : Nat) : pl (p + 1) = pl p ++ (if primeB p then [p] else []) := by
  unfold pl; rw [List.range_succ, List.filter_append]
  by_cases h : primeB p = true
  · simp [h]
  · simp [h]
theorem pl_le (p : Nat) : ∀ x ∈ pl p, x < p := by
  intro x hx; simp only [pl, List.mem_filter, List.mem_range] at hx; exact hx.1
theorem pl_prefix (p q : Nat) (h : p ≤ q) (i : Nat) (hi : i < (pl p).length) : (pl q).getD i 0 = (pl p).getD i 0 := by
  induction q with
  | zero => obtain rfl : p = 0 := by omega
            rfl
  | succ q ih =>
    by_cases e : p = q + 1
    · rw [e]
    · have hq : (pl p).length ≤ (pl q).length := by
        clear ih
        induction q with
        | zero => obtain rfl : p = 0 := by omega
                  exact Nat.le_refl _
        | succ q ih2 =>
          by_cases e2 : p = q + 1
          · rw [e2]; exact Nat.le_refl _
          · rw [pl_succ, List.length_append]; have := ih2 (by omega) (by omega); omega
      rw [← ih (by omega), pl_succ, List.getD_eq_getElem?_getD, List.getD_eq_getElem?_getD, List.getElem?_append_left (by omega)]
theorem pl400 : (pl 400).length = 78 := by decide +kernel
/-- the i-th prime -/
def pr (i : Nat) : Nat := (pl 400).getD i 0
def prArr : Array Value := arr .u64 64 pr
theorem size_p64 : (Try.prog.info? 47).map (·.size) = some 64 := by kernel_rfl
def PrimesTo (w : World) (e : Ending) (w' : World) : Prop := e = .returned (.agg (arr .u64 64 pr)) ∧ Below w.heap.size w w'
set_option maxRecDepth 100000 in
set_option maxHeartbeats 1000000 in
theorem primes_any (w : World) : Calls Try.prog 21 #[] w (PrimesTo w) := by
  go_enter Try.func21, Try.ntmps21
  go_wp2
  go_loopw [2, 4] (fun n i wr => ∃ p : Nat, p ≤ 400 ∧ i = .int .u64 (p : Int) ∧ n = .int .i64 ((pl p).length : Int) ∧ (pl p).length ≤ 64 ∧ wr.heap[w.heap.size]? = some (.cells (arr .u64 64 (fun _ => 0)) 47 (0, 0)) ∧
    wr.heap[w.heap.size + 1]? = some (.cells (arr .u64 64 (fun i => if i < (pl p).length then (pl p).getD i 0 else 0)) 47 (0, 0)) ∧ Below w.heap.size w wr) (fun _ i _ => 400 - (intOf i).toNat)
  case atStart => exact ⟨0, by omega, rfl, rfl, by simp [pl], (heap_alloc2_old _ _ _).trans (by kernel_rfl), (heap_alloc2_new _ _ _).trans (by kernel_rfl), ((Below.refl _ _).alloc (Nat.le_refl _) _).alloc (by simp) _⟩
  case round =>
    obtain ⟨p, hp, rfl, rfl, hn, hz, ho, hb⟩ := hrel
    obtain ⟨n, hnn⟩ : ∃ n, n = (pl p).length := ⟨_, rfl⟩
    rw [← hnn] at hn ho ⊢
    obtain ⟨F, hF⟩ : ∃ F : Nat → Nat, F = fun i => if i < n then (pl p).getD i 0 else 0 := ⟨_, rfl⟩
    rw [← hF] at ho
    have HF := Lib.hid hF
    have HN := Lib.hid hnn
    have HZ := Lib.hid hz
    have HO := Lib.hid ho
    have HB := Lib.hid hb
    have s1 := Lib.hid (show (Try.prog.info? 47).map (·.size) = some (arr .u64 64 pr).size by rw [size_p64, arr_size])
    have s2 : Hid ((arr .u64 64 (fun _ => 0)).size = (arr .u64 64 pr).size) := Lib.hid (by rw [arr_size, arr_size])
    clear hnn hz ho hb hF
    by_cases h64 : n = 64
    · subst h64
      have hA : arr .u64 64 F = arr .u64 64 pr := arr_congr _ _ _ _ (fun i hi => by
        rw [HF.out]; simp only [hi, if_true]; unfold pr; exact (pl_prefix p 400 hp i (by rw [← HN.out]; exact hi)).symm)
      rw [hA] at HO
      clear hA
      by_cases hlt : p < 400
      · go_wp2_with (first
          | (with_reducible (refine wpList_load_row rfl 47 (.tmp 1) rfl (w.heap.size + 1) rfl 47 _ _ _ HO.out Try.underlying47 rfl s1.out ?_))
          | (with_reducible (refine wpList_store_arr rfl 47 (.tmp 0) (.tmp 17) rfl w.heap.size (arr .u64 64 pr) rfl rfl 47 _ HZ.out s1.out s2.out (arr_one _ _ _) rfl ?_)))
        refine bodyPost_ret (results_cell_row rfl _ _ w.heap.size 47 _ _ _ rfl (setRow_heap _ _ _ _ _ _ HZ.out) Try.underlying47 rfl s1.out) rfl ⟨rfl, below_setRow_new HB.out (Nat.le_refl _) _⟩
      · have : p = 400 := by omega
        have h1 := HN.out
        rw [this, pl400] at h1
        omega
    · have t1 : ((n : Int) == 64) = false := by simp; omega
      have hnlt : n < 64 := by omega
      clear h64
      by_cases hlt : p < 400
      · by_cases hpr : primeB p = true
        · have c1 := (cell_of_row _ _ n _ _ _ HO.out).trans (arr_at _ _ _ _ hnlt)
          have c2 := frozen_of_row _ _ n _ _ HO.out
          have HI := Lib.hid (isPrime_any p hlt wr)
          rw [hpr] at HI
          have HP := Lib.hid hpr
          clear hpr
          go_wp2_with (go_at_call 25; refine HI.out.mono ?_; rintro e w1 ⟨rfl, rfl⟩)
          go_roundw
          case rel =>
            have e1 : pl (p + 1) = pl p ++ [p] := by rw [pl_succ, if_pos HP.out]
            have e2 : (pl (p + 1)).length = n + 1 := by rw [e1, HN.out]; simp
            refine ⟨p + 1, by omega, by go_num, by rw [e2]; go_num, by omega, ?_, ?_, HB.out.setCell (by simp) _⟩
            · rw [heap_setCell_other _ _ _ _ (by simp)]; exact HZ.out
            · rw [heap_setCell_same _ _ _ _ _ _ HO.out, arr_set]
              congr 2
              apply arr_congr
              intro i hi
              rw [e2, e1, HF.out]
              by_cases h1 : i = n
              · subst h1; rw [if_pos rfl, if_pos (by omega), List.getD_eq_getElem?_getD, List.getElem?_append_right (by rw [← HN.out]; omega), ← HN.out]; simp
              · rw [if_neg h1]
                by_cases h2 : i < n
                · simp only [h2, show i < n + 1 from by omega, if_true]
                  rw [List.getD_eq_getElem?_getD, List.getD_eq_getElem?_getD, List.getElem?_append_left (by rw [← HN.out]; exact h2)]
                · simp only [h2, show ¬ i < n + 1 from by omega, if_false]
          case measure => simp [intOf]; omega
        · have hpr' : primeB p = false := by simpa using hpr
          have HI := Lib.hid (isPrime_any p hlt wr)
          rw [hpr'] at HI
          have HP := Lib.hid hpr'
          clear hpr hpr'
          go_wp2_with (go_at_call 25; refine HI.out.mono ?_; rintro e w1 ⟨rfl, rfl⟩)
          go_roundw
          case rel =>
            have e1 : pl (p + 1) = pl p := by rw [pl_succ, if_neg (by rw [HP.out]; simp), List.append_nil]
            refine ⟨p + 1, by omega, by go_num, by rw [e1, ← HN.out], by rw [e1, ← HN.out]; omega, HZ.out, ?_, HB.out⟩
            rw [HO.out, e1, ← HN.out, HF.out]
          case measure => simp [intOf]; omega
      · have : p = 400 := by omega
        have h1 := HN.out
        rw [this, pl400] at h1
        omega
end Go.Proofs.Ytmdhekpfkligiaa.ShaP
