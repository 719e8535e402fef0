/- Package lightwelllaw06: far. -/
import Derived.Test.YtcchekkedgajpaaDefFa
import Derived.Test.YtcchekkedgajpaaDefQ
import Derived.Test.YtcchekkedgajpaaNumAp
import Derived.Lib.SlBytesConst
set_option linter.unusedVariables false
set_option linter.unusedSimpArgs false
namespace Go.Proofs.Ytcchekkedgajpaa.DefFb
open Go.RowKit Go.Sort BitsM Base Low DefM DefN DefO DefP DefQ DefS DefBa DefCa DefCb DefDa DefDb DefFa NumSl NumAp Qb Qt
/-- Whole of whatever is not longer than a window and a block -/
theorem whole_le (w : World) (u : Value) (B : List Nat) (hu : Nums .u8 256 w u B) (hlen : B.length ≤ 36864) :
    Calls Try.prog 16 #[u] w fun e w' => ∃ a c, e = .returned (.slice a (wholeF B).length c) ∧ Nums .u8 256 w' (.slice a (wholeF B).length c) (wholeF B) ∧ Below w.heap.size w w' := by
  have key : Calls Try.prog 16 #[u] w fun e w' => ∃ x, e = .returned x ∧ Nums .u8 256 w' x (wholeF B) ∧ (∃ a n c, x = .slice a n c) ∧ Below w.heap.size w w' := by
    by_cases h : B.length ≤ 32768
    · exact whole_small w u B hu h
    · have e : 4096 * nb B.length = 32768 := by unfold nb; omega
      exact whole_any w u B hu hlen 32768 (fun base s w1 N h1 => by rw [e] at h1 ⊢; exact prune_far base w1 s _ _ B N h1)
  refine key.mono ?_
  rintro e w' ⟨x, rfl, hx, ⟨a, n, c, rfl⟩, hb⟩
  have := (nums_len hx).1
  subst this
  exact ⟨a, c, rfl, hx, hb⟩
theorem farv_next (n x : Nat) (h : 10 ≤ n) (hx : x = 128 + n * n % 89) : farL (n + 1) = farL n ++ [x] := by
  rw [farL_next, hx]
  congr 2
  unfold farv; rw [if_neg (by omega)]
theorem far_ten : farL 10 = qL := by decide
theorem bts_q : bts { data := #[113, 119, 101, 114, 116, 121, 117, 105, 111, 112] } = qL := by decide
def lenP (k : Nat) : Nat := (wholeF (farL (32768 + k))).length
def lenQ (k : Nat) : Nat := (wholeF (farL (32768 + k) ++ qL)).length
theorem len_P0 : lenP 0 = 411 := len_a
theorem len_Q0 : lenQ 0 = 416 := len_b
theorem len_P1 : lenP 1 = 414 := len_c
theorem len_Q1 : lenQ 1 = 424 := len_d
def lenV : Value → Nat
  | .slice _ n _ => n
  | _ => 0
set_option maxRecDepth 100000 in
set_option maxHeartbeats 2000000 in
theorem far_any (w : World) : Calls Try.prog 19 #[] w fun e w' => e = .returned (.bool true) ∧ Below w.heap.size w w' := by
  have kc := fun (w : World) (C : Array Value) (n c : Nat) => Lib.run_convert_bytes_const (P := Try.prog) w 25 5 C n c Try.underlying25 Try.underlying5
  go_enter Try.func19, Try.ntmps19
  go_wp2_with fail
  have hr0 := heap_alloc_new w (.cells #[.int .i64 0, .int .i64 0] 76)
  have hb0 := ext_alloc w (.cells #[.int .i64 0, .int .i64 0] 76)
  obtain ⟨W, hW⟩ : ∃ ww, ww = w.alloc (.cells #[.int .i64 0, .int .i64 0] 76) := ⟨_, rfl⟩
  rw [← hW] at hr0 hb0 ⊢
  obtain ⟨g, hg⟩ : ∃ g, g = w.heap.size := ⟨_, rfl⟩
  have hwg : w.heap.size ≤ g := by rw [hg]; exact Nat.le_refl _
  rw [← hg] at hr0 ⊢
  have HR0 := Lib.hid hr0
  have HB0 := Lib.hid hb0
  clear hW hg hr0 hb0
  go_loopw [5] (fun v5 wr => ∃ k : Nat, k ≤ 2 ∧ v5 = .int .i64 (k : Int) ∧ Below w.heap.size w wr ∧ wr.heap[g]? = some (.cells #[.int .i64 (if 1 ≤ k then 5 else 0), .int .i64 (if 2 ≤ k then 10 else 0)] 76)) (fun v5 _ => 2 - (intOf v5).toNat)
  case atStart => exact ⟨0, by omega, rfl, HB0.out, HR0.out⟩
  case round =>
    obtain ⟨k, hk, rfl, hb, hrow⟩ := hrel
    have HB := Lib.hid hb
    have HROW := Lib.hid hrow
    clear hb hrow
    by_cases hk2 : k < 2
    · have d1 : decide ((k : Int) < 2) = true := decide_eq_true (by omega)
      go_wp2_with fail
      generalize wr = w0 at *
      obtain ⟨M, hM⟩ : ∃ M, M = 32768 + k := ⟨_, rfl⟩
      have hpq : ∃ p q dd : Nat, (wholeF (farL M)).length = p ∧ (wholeF (farL M ++ qL)).length = q ∧ q = p + dd ∧ p ≤ 1000 ∧ dd ≤ 1000 ∧ ((k = 0 ∧ dd = 5) ∨ (k = 1 ∧ dd = 10)) := by
        rw [hM]
        rcases (show k = 0 ∨ k = 1 by omega) with rfl | rfl
        · exact ⟨411, 416, 5, len_P0, len_Q0, rfl, by omega, by omega, .inl ⟨rfl, rfl⟩⟩
        · exact ⟨414, 424, 10, len_P1, len_Q1, rfl, by omega, by omega, .inr ⟨rfl, rfl⟩⟩
      obtain ⟨p, q, dd, hp, hq, hqp, hp9, hdd9, hkd⟩ := hpq
      have HP := Lib.hid hp
      have HQ := Lib.hid hq
      have hM9 : 32768 ≤ M ∧ M ≤ 32769 := by omega
      have e1 : IntKind.i64.wrap (32768 + (k : Int)) = (M : Int) := by rw [IntKind.wrap_i64]; omega
      have hn10 : Nums .u8 256 (w0.alloc (.cells #[.int .u8 113, .int .u8 119, .int .u8 101, .int .u8 114, .int .u8 116, .int .u8 121, .int .u8 117, .int .u8 105, .int .u8 111, .int .u8 112] 5 (10, 11))) (.slice (some ⟨w0.heap.size, 0, none⟩) 10 10) (farL 10) := by
        rw [far_ten]
        exact nums_blk .u8 256 (heap_alloc_new _ _) qL (by decide) (by decide) rfl 10 rfl
      have HN10 := Lib.hid hn10
      clear hp hq hM hn10 d1
      go_loopw [3] (fun v3 wr2 => ∃ (n : Nat) (a : Option Addr) (c : Nat), 10 ≤ n ∧ n ≤ M ∧ v3 = .slice a n c ∧ Ap .u8 256 5 w0.heap.size wr2 v3 (farL n) ∧ (n = 10 ∨ Own .u8 256 5 w0.heap.size wr2 v3 (farL n)) ∧ Below w0.heap.size w0 wr2) (fun v3 _ => 32770 - lenV v3)
      case atStart => exact ⟨10, _, _, by omega, by omega, rfl, .inr ⟨⟨_, _, rfl⟩, HN10.out, fun b hb => by simp only [Value.ownBlock, Option.some.injEq] at hb; omega⟩, .inl rfl, ext_alloc _ _⟩
      case round =>
        obtain ⟨n, a, c, hn, hnM, rfl, hap, how, hb2⟩ := hrel
        have HAP := Lib.hid hap
        have HOW := Lib.hid how
        have HB2 := Lib.hid hb2
        clear hap how hb2
        by_cases hlt : n < M
        · have d2 : decide (n < M) = true := decide_eq_true hlt
          obtain ⟨nn, hnn⟩ : ∃ nn, nn = n * n := ⟨_, rfl⟩
          have hnn9 : nn ≤ 32769 * 32769 := by rw [hnn]; exact Nat.mul_le_mul (by omega) (by omega)
          have e2 : IntKind.i64.wrap ((n : Int) * (n : Int)) = (nn : Int) := by
            rw [← Int.natCast_mul, ← hnn, IntKind.wrap_i64]; omega
          obtain ⟨r, hr⟩ : ∃ r, r = nn % 89 := ⟨_, rfl⟩
          have e3 : (nn : Int).tmod 89 = (r : Int) := by rw [hr]; rfl
          have e3b : (nn : Int) % 89 = (r : Int) := by omega
          obtain ⟨x, hx⟩ : ∃ x, x = 128 + r := ⟨_, rfl⟩
          have e4 : IntKind.i64.wrap (128 + (r : Int)) = (x : Int) := by rw [IntKind.wrap_i64]; omega
          have e5 : IntKind.u8.wrap (x : Int) = (x : Int) := by rw [IntKind.wrap_u8]; omega
          have HNX := Lib.hid (farv_next n x hn (by rw [hx, hr, hnn]))
          have HN1 := Lib.hid (nums_one .u8 256 5 wr x (by omega))
          have HAP2 := Lib.hid (HAP.out.below (ext_alloc wr (.cells #[.int .u8 (x : Int)] 5)))
          have hbs : w0.heap.size ≤ (wr.alloc (.cells #[.int .u8 (x : Int)] 5)).heap.size := by have := HB2.out.size; simp; omega
          have HL1 := Lib.hid (show ((farL n).length + [x].length) * 1 ≤ 140737488355328 by rw [farL_len]; simp; omega)
          have HL2 := Lib.hid (show (farL n).length + [x].length ≤ 140737488355328 by rw [farL_len]; simp; omega)
          have HLW := Lib.hid HAP.out.low
          clear hnn hnn9 hr hx
          go_wp2_with (at_builtin; refine wpList_append_ap rfl (.tmp 15) (.tmp 24) 25 5 rfl .u8 256 1 w0.heap.size u8s (.slice a n c) (farL n) rfl HAP2.out _ [x] (by simp) rfl HN1.out HL1.out HL2.out hbs ?_; intro v4 w4 ho4 hk4; rw [← HNX.out] at ho4; obtain ⟨a4, n4, c4, rfl⟩ := ho4.slice_; have hn4 := Lib.hid (nums_len ho4.nums).1; have HO4 := Lib.hid ho4; have HK4 := Lib.hid hk4; clear ho4 hk4)
          have hn4e := hn4.out
          rw [farL_len] at hn4e
          subst hn4e
          have hb4 : Below w0.heap.size w0 w4 := (HB2.out.trans ((ext_alloc wr (.cells #[.int .u8 (x : Int)] 5)).mono HB2.out.size)).trans (HK4.out.below _ hbs (fun b hb => HLW.out b hb))
          exact ⟨⟨n + 1, a4, c4, by omega, by omega, rfl, .inl HO4.out, .inr HO4.out, hb4⟩, by simp only [lenV]; omega⟩
        · have d2 : decide (n < M) = false := decide_eq_false hlt
          obtain rfl : n = M := by omega
          have hown := HOW.out.resolve_left (by omega)
          have HOWN := Lib.hid hown
          have hbs := HB2.out.size
          have hne : farL n ≠ [] := by intro e; have := farL_len n; rw [e] at this; simp at this; omega
          have HNE := Lib.hid hne
          have hl9 : (farL n).length + (10 : Nat) ≤ 140737488355328 := by rw [farL_len]; omega
          have HL9 := Lib.hid hl9
          have e6 : IntKind.i64.wrap ((q : Int) - (p : Int)) = (dd : Int) := by rw [IntKind.wrap_i64]; omega
          clear hqp
          clear hown hne hl9
          go_wp2_with (at_builtin; refine wpList_append_str rfl (.tmp 27) (.const (.string { data := #[113, 119, 101, 114, 116, 121, 117, 105, 111, 112] })) 25 5 9 rfl w0.heap.size u8s Try.underlying9 (.slice a n c) (farL n) rfl HOWN.out HNE.out { data := #[113, 119, 101, 114, 116, 121, 117, 105, 111, 112] } rfl HL9.out hbs ?_; intro v4 w4 ho4 hn4 hk4; rw [bts_q] at ho4; have HO4 := Lib.hid ho4; have HN4 := Lib.hid hn4; have HK4 := Lib.hid hk4; clear ho4 hn4 hk4)
          have hb4 : Below w0.heap.size w0 w4 := HB2.out.trans (HK4.out.below _ hbs (fun b hb => (HOWN.out.lt b hb).1))
          have HB4 := Lib.hid hb4
          have hw1 := whole_le w4 v4 (farL n ++ qL) HO4.out.nums (by rw [app_len]; omega)
          rw [HQ.out] at hw1
          have HW1 := Lib.hid hw1
          clear hb4 hw1 HK4
          refine HW1.out.mono ?_
          rintro e w5 ⟨a5, c5, rfl, -, hb5⟩
          have HB5 := Lib.hid (HB4.out.trans (hb5.mono HB4.out.size))
          have hw2 := whole_le w5 _ (farL n) (HN4.out.below hb5 (Nat.le_refl _)) (by rw [farL_len]; omega)
          rw [HP.out] at hw2
          have HW2 := Lib.hid hw2
          clear hb5 hw2 HW1
          go_wp2_with fail
          refine HW2.out.mono ?_
          rintro e w6 ⟨a6, c6, rfl, -, hb6⟩
          have hb06 := HB5.out.trans (hb6.mono HB5.out.size)
          have hr6 := (hb06.block g (Base.lt_of_heap HROW.out)).trans HROW.out
          have HB6 := Lib.hid (HB.out.trans (hb06.mono HB.out.size))
          clear hb6 hb06 HW2
          rcases hkd with ⟨rfl, rfl⟩ | ⟨rfl, rfl⟩
          · have hr6 : w6.heap[g]? = some (.cells #[.int .i64 0, .int .i64 0] 76) := hr6
            have y0 : w6.cell? ⟨g, 0, none⟩ = some (.int .i64 0) := cell_of_row _ _ 0 _ _ _ hr6
            have f0 := frozen_of_row _ _ 0 _ _ hr6
            have HR6 := Lib.hid hr6
            clear hr6
            go_wp2_with fail
            have hk := (Keeps.refl (fun b => b = g) w6).setCell g 0 (.int .i64 5) (.inl rfl)
            exact ⟨⟨1, by omega, rfl, HB6.out.trans (hk.below _ HB6.out.size (fun b e => by rw [e]; exact hwg)), heap_setCell_same w6 g 0 _ _ (.int .i64 5) HR6.out⟩, by simp only [intOf]; omega⟩
          · have hr6 : w6.heap[g]? = some (.cells #[.int .i64 5, .int .i64 0] 76) := hr6
            have y1 : w6.cell? ⟨g, 1, none⟩ = some (.int .i64 0) := cell_of_row _ _ 1 _ _ _ hr6
            have f1 := frozen_of_row _ _ 1 _ _ hr6
            have HR6 := Lib.hid hr6
            clear hr6
            go_wp2_with fail
            have hk := (Keeps.refl (fun b => b = g) w6).setCell g 1 (.int .i64 10) (.inl rfl)
            exact ⟨⟨2, by omega, rfl, HB6.out.trans (hk.below _ HB6.out.size (fun b e => by rw [e]; exact hwg)), heap_setCell_same w6 g 1 _ _ (.int .i64 10) HR6.out⟩, by simp only [intOf]; omega⟩
    · obtain rfl : k = 2 := by omega
      have y0 : wr.cell? ⟨g, 0, none⟩ = some (.int .i64 5) := cell_of_row _ _ 0 _ _ _ HROW.out
      have y1 : wr.cell? ⟨g, 1, none⟩ = some (.int .i64 10) := cell_of_row _ _ 1 _ _ _ HROW.out
      go_wp2_with fail
      go_ret
      exact ⟨rfl, HB.out⟩
end Go.Proofs.Ytcchekkedgajpaa.DefFb
