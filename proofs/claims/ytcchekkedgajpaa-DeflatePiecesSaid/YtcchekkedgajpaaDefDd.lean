/- The law DeflatePieces. -/
import Derived.Test.YtcchekkedgajpaaDefDb
import Derived.Test.YtcchekkedgajpaaNumSl
set_option linter.unusedVariables false
set_option linter.unusedSimpArgs false
namespace Go.Proofs.Ytcchekkedgajpaa.DefDd
open Go.RowKit Go.Sort BitsM Base Low BitsW BitsX BitsS MapA DefM DefN DefO DefP DefS DefT DefR DefU DefV DefW DefX DefY DefZ DefBa DefBb DefBc DefCa DefCb DefDa DefDb NumSl Qb Qt Qp Qy Rec
/-- a writer made here, to which some bytes were written, and what it told -/
structure Pc (w wr : World) (g : Nat) (s : Dg) (B : List Nat) (vo : Value) : Prop where
  ws : Ws w.heap.size wr s B
  g : s.gW = g
  out : Own .u8 256 5 w.heap.size wr vo (outN (bitsW B) 0)
  dis : ∀ k, vo.ownBlock = some k → ¬ s.own k
  below : Below w.heap.size w wr
theorem bitsW_ahead' (B b : List Nat) : outN (bitsW B) 0 ++ outN (bitsW (B ++ b)) ((bitsW B).length / 8) = outN (bitsW (B ++ b)) 0 := out_append (bitsW_ahead B b)
theorem out_len_le (B : List Nat) : (outN (bitsW B) 0).length ≤ 10 * B.length := by
  unfold outN
  rw [bytesN_length]
  have := bitsW_len B
  omega
theorem out_len_le2 (B : List Nat) (T : Nat) : (outN (bitsW B) T).length ≤ 10 * B.length := by
  unfold outN
  rw [bytesN_length]
  have := bitsW_len B
  omega
theorem take_more {α : Type} (l : List α) (p j : Nat) : l.take p ++ (l.drop p).take j = l.take (p + j) := (List.take_add ..).symm
theorem max_blocks (n : Nat) (hn : n ≤ 20000) : nb n + 1 ≤ max ((n + 4095) / 4096) 1 := by unfold nb; omega
set_option maxRecDepth 100000 in
set_option maxHeartbeats 1000000 in
theorem pieces_any (w : World) (v0 v1 : Value) (b : List Nat) (cs : List Int) (hb : Nums .u8 256 w v0 b) (hc : Seq goInt w v1 cs) (hcz : ∀ z ∈ cs, -9223372036854775808 ≤ z ∧ z ≤ 9223372036854775807) :
    Calls Try.prog 5 #[v0, v1] w fun e w' => e = .returned (.bool true) ∧ Below w.heap.size w w' := by
  obtain ⟨a0, c0, rfl, hc0, hm0, hn0⟩ := hb.shape
  obtain ⟨a1, c1, rfl, hc1, hm1, hn1⟩ := hc.shape
  obtain ⟨n, hn⟩ : ∃ n, n = b.length := ⟨_, rfl⟩
  obtain ⟨m, hm⟩ : ∃ m, m = cs.length := ⟨_, rfl⟩
  rw [← hn] at hb hc0 hn0 ⊢
  rw [← hm] at hc hc1 hn1 ⊢
  have HB := Lib.hid hb
  have HC := Lib.hid hc
  have HZ := Lib.hid hcz
  have HN := Lib.hid hn
  have HM := Lib.hid hm
  clear hb hc hcz hn hm hn0 hn1
  by_cases hbig : n ≤ 20000
  rotate_left
  · have d : decide ((20000 : Int) < (n : Int)) = true := decide_eq_true (by omega)
    go_enter Try.func5, Try.ntmps5
    go_wp2_with fail
    refine (awake_any _).mono ?_
    rintro e w1 ⟨rfl, hb1⟩
    go_wp2_with fail
    go_ret
    exact ⟨rfl, hb1⟩
  have d : decide ((20000 : Int) < (n : Int)) = false := decide_eq_false (by omega)
  go_enter Try.func5, Try.ntmps5
  go_wp2_with fail
  refine (new_any w.heap.size w (Nat.le_refl _)).mono ?_
  rintro e w1 ⟨s, rfl, hs, hb1, hown⟩
  obtain ⟨g, hg⟩ : ∃ g, g = s.gW := ⟨_, rfl⟩
  have HP := Lib.hid (show Pc w w1 g s [] (.slice none 0 0) from ⟨hs, hg.symm, by
    have : outN (bitsW []) 0 = [] := by decide +kernel
    rw [this]; exact Own.nil _ _ _ _ _, fun k hk => by simp [Value.ownBlock] at hk, hb1⟩)
  have HSM := Lib.hid hm1
  rw [← hg]
  clear hs hb1 hown hg hm1
  go_wp2_with fail
  go_loopw [6, 7, 8] (fun v6 v7 v8 wr => ∃ (i p : Nat) (s1 : Dg) (a7 : Option Addr) (c7 : Nat), i ≤ m ∧ i ≤ 30 ∧ p ≤ n ∧ v8 = .int .i64 (i : Int) ∧ v7 = .slice a7 (n - p) c7 ∧ Nums .u8 256 w v7 (b.drop p) ∧ Pc w wr g s1 (b.take p) v6) (fun _ _ v8 _ => 30 - (intOf v8).toNat)
  case atStart => exact ⟨0, 0, s, a0, c0, Nat.zero_le _, Nat.zero_le _, Nat.zero_le _, rfl, rfl, HB.out, HP.out⟩
  case round =>
    obtain ⟨i, p, s1, a7, c7, him, hi30, hp, rfl, rfl, h7, hpc⟩ := hrel
    have H7 := Lib.hid h7
    have HPC := Lib.hid hpc
    obtain ⟨R, hR⟩ : ∃ R, R = n - p := ⟨_, rfl⟩
    rw [← hR] at H7
    rw [← hR]
    have HR := Lib.hid hR
    have hRn : R ≤ n := by omega
    have hpR : p + R = n := by omega
    clear h7 hpc hR HP
    by_cases hlt : i < m ∧ i < 30
    · obtain ⟨h1, h2⟩ := hlt
      have d1 : decide ((i : Int) < (m : Int)) = true := decide_eq_true (by omega)
      have d2 : decide ((i : Int) < 30) = true := decide_eq_true (by omega)
      obtain ⟨bc, oc, cc, e, hbc, hcell⟩ := HC.out.cells (by intro e; have := HM.out; rw [e] at this; simp at this; omega)
      simp only [Value.slice.injEq] at e
      obtain ⟨rfl, -, -⟩ := e
      have hci := hcell i (by rw [← HM.out]; exact h1)
      have hzi := HZ.out _ (List.getElem_mem (show i < cs.length by rw [← HM.out]; exact h1))
      obtain ⟨z, hz⟩ : ∃ z, z = cs[i]'(by rw [← HM.out]; exact h1) := ⟨_, rfl⟩
      rw [← hz] at hci hzi
      have hcw : wr.cell? ⟨bc, oc + i, none⟩ = some (.int .i64 z) := (HPC.out.below.cell (p := ⟨bc, oc + i, none⟩) hbc).trans hci
      have e1 : IntKind.i64.wrap ((R : Int) + 1) = ((R + 1 : Nat) : Int) := by rw [IntKind.wrap_i64]; omega
      obtain ⟨j, hj⟩ : ∃ j, j = pick z (R + 1) := ⟨_, rfl⟩
      have hjR : j ≤ R := by have := pick_lt z (R + 1) (by omega); omega
      have HPK := Lib.hid (show Calls Try.prog 15 #[.int .i64 z, .int .i64 ((R + 1 : Nat) : Int)] wr (fun e w' => e = .returned (.int .i64 (j : Int)) ∧ wr = w') from by
        rw [hj]; exact pick_any z (R + 1) hzi.1 hzi.2 (by omega) wr)
      have HZ2 := Lib.hid hzi
      have H7r := Lib.hid (H7.out.below HPC.out.below (Nat.le_refl _))
      clear hcell hci hz hj hzi hbc
      go_wp2_with fail
      refine HPK.out.mono ?_
      rintro e w2 ⟨rfl, rfl⟩
      go_wp2_with (with_reducible (refine wpList_slice_h rfl 25 5 (.tmp 43) (.tmp 44) rfl .u8 256 1 u8s a7 R c7 (b.drop p) rfl H7r.out .i64 j rfl hjR ?_); intro a8 c8 h8 ho8; have H8 := Lib.hid (h8 _ H7r.out); clear h8 ho8)
      have hwr := write_any w.heap.size wr s1 (b.take p) ((b.drop p).take j) HPC.out.ws _ H8.out (by simp; omega)
      rw [HPC.out.g] at hwr
      have HW := Lib.hid hwr
      clear hwr
      refine HW.out.mono ?_
      rintro e w3 ⟨x, s3, rfl, ⟨hx, ax, nx, rfl⟩, hs3, he3, hf3⟩
      rw [take_more] at hx hs3
      have HX := Lib.hid hx
      have HS3 := Lib.hid hs3
      have HE3 := Lib.hid he3
      have HF3 := Lib.hid hf3
      have HO3 := Lib.hid (HPC.out.out.frame he3.keeps (fun k hk => HPC.out.dis k hk))
      have hbl3 : Below w.heap.size w w3 := HPC.out.below.trans (he3.keeps.below _ HPC.out.below.size (fun k hk => (HPC.out.ws.low k hk).1))
      have HBL3 := Lib.hid hbl3
      have hl1 : ((outN (bitsW (b.take p)) 0).length + (outN (bitsW (b.take (p + j))) ((bitsW (b.take p)).length / 8)).length) * 1 ≤ 140737488355328 := by
        have h1 := out_len_le (b.take p)
        have h2 := out_len_le2 (b.take (p + j)) ((bitsW (b.take p)).length / 8)
        rw [List.length_take] at h1 h2
        omega
      have HL1 := Lib.hid hl1
      have HL2 := Lib.hid (show (outN (bitsW (b.take p)) 0).length + (outN (bitsW (b.take (p + j))) ((bitsW (b.take p)).length / 8)).length ≤ 140737488355328 by omega)
      have hbs := hbl3.size
      have hdw := HPC.out.dis
      clear hx hs3 he3 hf3 hbl3 hl1 HW HPK H8 hcw d1 d2
      go_wp2_with (first
        | (at_builtin; refine wpList_append_nums_at rfl (.tmp 51) (.tmp 52) 25 5 rfl .u8 256 1 w.heap.size u8s u6 _ rfl HO3.out _ _ rfl HX.out HL1.out HL2.out hbs ?_; intro v4 w4 hown4 hgr4 hfr4; have HO4 := Lib.hid hown4; have HG4 := Lib.hid hgr4; have HR4 := Lib.hid hfr4; clear hown4 hgr4 hfr4)
        | (with_reducible (refine wpList_slice_l rfl 25 5 (.tmp 54) (.tmp 55) rfl .u8 256 1 u8s a7 R c7 (b.drop p) rfl (H7.out.below (below_grown HBL3.out HO3.out HG4.out (Nat.le_refl _) hbs) (Nat.le_refl _)) .i64 j rfl hjR ?_); intro a9 c9 h9 ho9; have HO9 := Lib.hid ho9; have H9 := Lib.hid (h9 _ H7.out); clear h9 ho9))
      have hlt3 := (HS3.out.low)
      have hu6 : ∀ k, u6.ownBlock = some k → ¬ s3.own k := fun k hk h => by
        rcases HE3.out.fresh k h with h | h
        · exact hdw k hk h
        · have := (HPC.out.out.lt k hk).2; omega
      have hk4 : Keeps (fun k => u6.ownBlock = some k) w3 w4 := (Keeps.refl _ w3).grown HG4.out (fun k hk => .inl hk)
      have ht : b.take (p + j) = b.take p ++ (b.drop p).take j := (take_more b p j).symm
      refine ⟨⟨i + 1, p + j, s3, a9, c9, by omega, by omega, by omega, rfl, by rw [show R - j = n - (p + j) by omega], by rw [← List.drop_drop]; exact H9.out, ⟨HS3.out.frame hk4 (fun k h1 h2 => hu6 k h2 h1), HE3.out.gW.trans HPC.out.g, ?_, ?_, below_grown HBL3.out HO3.out HG4.out (Nat.le_refl _) hbs⟩⟩, by simp only [intOf]; omega⟩
      · have := HO4.out
        rw [ht, bitsW_ahead'] at this
        rw [ht]; exact this
      · intro k hk h
        rcases HR4.out with e | e
        · exact hu6 k (e ▸ hk) h
        · have := e k hk; have := (hlt3 k h).2; omega
    · have hways : (¬ i < m ∧ decide (i < m) = false) ∨ (i = 30 ∧ 30 < m ∧ decide ((30 : Int) < (m : Int)) = true) := by
        by_cases h : i < m
        · exact .inr ⟨by omega, by omega, decide_eq_true (by omega)⟩
        · exact .inl ⟨h, decide_eq_false h⟩
      have H7r := Lib.hid (H7.out.below HPC.out.below (Nat.le_refl _))
      have htd : b.take p ++ b.drop p = b := List.take_append_drop ..
      have hwr := write_any w.heap.size wr s1 (b.take p) (b.drop p) HPC.out.ws _ H7r.out (by rw [htd, ← HN.out]; omega)
      rw [HPC.out.g, htd] at hwr
      have HW := Lib.hid hwr
      clear hwr
      have hwl := whole_len b
      rw [← HN.out] at hwl
      have hmb := max_blocks n hbig
      obtain ⟨n5, hn5⟩ : ∃ n5, n5 = n + 4095 := ⟨_, rfl⟩
      obtain ⟨q, hq⟩ : ∃ q, q = n5 / 4096 := ⟨_, rfl⟩
      obtain ⟨M, hM⟩ : ∃ M, M = max q 1 := ⟨_, rfl⟩
      rw [← hn5, ← hq, ← hM] at hmb
      have hMle : M ≤ 6 := by rw [hM, hq]; omega
      have hlo : (wholeF b).length ≤ n + 5 * M := by omega
      obtain ⟨lo, hlo2⟩ : ∃ lo, lo = (wholeF b).length := ⟨_, rfl⟩
      rw [← hlo2] at hlo
      have HLO := Lib.hid hlo2
      have e1 : IntKind.i64.wrap ((n : Int) + 4095) = (n5 : Int) := by rw [IntKind.wrap_i64]; omega
      have e2 : (n5 : Int).tdiv 4096 = (q : Int) := by rw [hq]; rfl
      have e2b : (n5 : Int) / 4096 = (q : Int) := by rw [hq]; rfl
      have e6 : IntKind.i64.wrap (q : Int) = (q : Int) := by rw [IntKind.wrap_i64]; omega
      obtain ⟨f5, hf5⟩ : ∃ f5, f5 = 5 * M := ⟨_, rfl⟩
      obtain ⟨f6, hf6⟩ : ∃ f6, f6 = n + f5 := ⟨_, rfl⟩
      have e4 : IntKind.i64.wrap ((5 : Int) * (M : Int)) = (f5 : Int) := by rw [IntKind.wrap_i64]; omega
      have e5 : IntKind.i64.wrap ((n : Int) + (f5 : Int)) = (f6 : Int) := by rw [IntKind.wrap_i64]; omega
      have d6 : decide (lo ≤ f6) = true := decide_eq_true (by omega)
      have p6 : lo ≤ f6 := by omega
      have hqw : (1 ≤ q ∧ M = q) ∨ (q = 0 ∧ M = 1 ∧ f5 = 5 ∧ ¬ ((n : Int) + 5 < (lo : Int))) := by omega
      have hlo9 : lo ≤ 30000 := by omega
      clear hn5 hq hM hmb hwl hlo2 hlt hlo hf5 hf6
      rcases hqw with ⟨q1, rfl⟩ | ⟨rfl, rfl, rfl, p7⟩
      all_goals
        rcases hways with ⟨p1, d1⟩ | ⟨rfl, p1, d1⟩
        all_goals
          go_wp2_with fail
          refine HW.out.mono ?_
          rintro e w3 ⟨x, s3, rfl, ⟨hx, ax, nx, rfl⟩, hs3, he3, hf3⟩
          have HX := Lib.hid hx
          have HS3 := Lib.hid hs3
          have HE3 := Lib.hid he3
          have HF3 := Lib.hid hf3
          have HO3 := Lib.hid (HPC.out.out.frame he3.keeps (fun k hk => HPC.out.dis k hk))
          have hu6 := Lib.hid (show ∀ k, u6.ownBlock = some k → ¬ s3.own k from fun k hk h => by
            rcases he3.fresh k h with h | h
            · exact HPC.out.dis k hk h
            · have := (HPC.out.out.lt k hk).2; omega)
          have HBL3 := Lib.hid (HPC.out.below.trans (he3.keeps.below _ HPC.out.below.size (fun k hk => (HPC.out.ws.low k hk).1)))
          have hen := end_any w.heap.size w3 s3 b 0 HS3.out (by rw [← HN.out]; omega) (fun w4 N h4 => prune_ds h4 (Nat.zero_le _) (by have := HN.out; unfold nb; omega) (by have := HN.out; unfold nb; omega))
          rw [he3.gW, HPC.out.g] at hen
          have HEN := Lib.hid hen
          clear hx hs3 he3 hf3 hen HW
          go_wp2_with fail
          refine HEN.out.mono ?_
          rintro e w4 ⟨y, rfl, hy, -, hk4, hyb⟩
          have HY := Lib.hid hy
          have HX4 := Lib.hid (HX.out.frame hk4 (fun k hk => (HF3.out k hk).1))
          have HO4 := Lib.hid (HO3.out.frame hk4 (fun k hk => hu6.out k hk))
          have HBL4 := Lib.hid (HBL3.out.trans (hk4.below _ HBL3.out.size (fun k hk => (HS3.out.low k hk).1)))
          have HYB := Lib.hid (show ∀ k, y.ownBlock = some k → ¬ u6.ownBlock = some k from fun k h1 h2 => by
            rcases (hyb k h1).1 with h | h
            · exact hu6.out k h2 h
            · have := (HPC.out.out.lt k h2).2; have := HE3.out.keeps.size; omega)
          have h1 := out_len_le (b.take p)
          have h2 := out_len_le2 b ((bitsW (b.take p)).length / 8)
          have hwc : outN (bitsW (b.take p)) 0 ++ outN (bitsW b) ((bitsW (b.take p)).length / 8) = outN (bitsW b) 0 := by
            have := bitsW_ahead' (b.take p) (b.drop p)
            rw [htd] at this; exact this
          have hwc2 : outN (bitsW b) 0 ++ outN (endL b) ((bitsW b).length / 8) = wholeF b := out_append (endL_ahead b)
          have hl4 : (outN (bitsW b) 0).length + (outN (endL b) ((bitsW b).length / 8)).length = lo := by rw [← List.length_append, hwc2, ← HLO.out]
          have HL1 := Lib.hid (show ((outN (bitsW (b.take p)) 0).length + (outN (bitsW b) ((bitsW (b.take p)).length / 8)).length) * 1 ≤ 140737488355328 by rw [← List.length_append, hwc]; omega)
          have HL2 := Lib.hid (show (outN (bitsW (b.take p)) 0).length + (outN (bitsW b) ((bitsW (b.take p)).length / 8)).length ≤ 140737488355328 by rw [← List.length_append, hwc]; omega)
          have HL3 := Lib.hid (show ((outN (bitsW b) 0).length + (outN (endL b) ((bitsW b).length / 8)).length) * 1 ≤ 140737488355328 by omega)
          have HL4 := Lib.hid (show (outN (bitsW b) 0).length + (outN (endL b) ((bitsW b).length / 8)).length ≤ 140737488355328 by omega)
          have hbs := HBL4.out.size
          have HWC := Lib.hid hwc
          have HWC2 := Lib.hid hwc2
          clear hy hk4 hyb HEN HX HO3 h1 h2 hl4 hwc hwc2
          go_wp2_with (first
            | (at_builtin; refine wpList_append_nums_at rfl (.tmp 68) (.tmp 69) 25 5 rfl .u8 256 1 w.heap.size u8s u6 _ rfl HO4.out _ _ rfl HX4.out HL1.out HL2.out hbs ?_; intro v5 w5 hown5 hgr5 hfr5; rw [HWC.out] at hown5; have HO5 := Lib.hid hown5; have HBL5 := Lib.hid (below_grown HBL4.out HO4.out hgr5 (Nat.le_refl _) hbs); have HY5 := Lib.hid (HY.out.frame ((Keeps.refl (fun k => u6.ownBlock = some k) w4).grown hgr5 (fun k hk => .inl hk)) (fun k hk => HYB.out k hk)); have hbs5 := HBL5.out.size; clear hown5 hgr5 hfr5)
            | (at_builtin; refine wpList_append_nums_at rfl (.tmp 70) (.tmp 71) 25 5 rfl .u8 256 1 w.heap.size u8s v5 _ rfl HO5.out _ _ rfl HY5.out HL3.out HL4.out hbs5 ?_; intro v6 w6 hown6 hgr6 hfr6; rw [HWC2.out] at hown6; obtain ⟨a6, n6, c6, rfl⟩ := hown6.slice_; have hn6 := (nums_len hown6.nums).1; rw [← HLO.out] at hn6; subst hn6; have HO6 := Lib.hid hown6; have HBL6 := Lib.hid (below_grown HBL5.out HO5.out hgr6 (Nat.le_refl _) hbs5); clear hown6 hgr6 hfr6))
          refine (whole_small w6 _ b (HB.out.below HBL6.out (Nat.le_refl _)) (by rw [← HN.out]; omega)).mono ?_
          rintro e w7 ⟨x9, rfl, hx9, -, hb7⟩
          have HX9 := Lib.hid hx9
          have HB7 := Lib.hid hb7
          clear hx9 hb7
          go_wp2_with fail
          refine (sameBytes_any _ _ _ _ _ (HO6.out.nums.below HB7.out (Nat.le_refl _)) HX9.out).mono ?_
          rintro e w8 ⟨rfl, rfl⟩
          go_wp2_with fail
          refine (awake_any _).mono ?_
          rintro e w9 ⟨rfl, hb9⟩
          have HB9 := Lib.hid hb9
          clear hb9
          go_wp2_with fail
          go_ret
          exact ⟨rfl, HBL6.out.trans ((HB7.out.trans (HB9.out.mono HB7.out.size)).mono HBL6.out.size)⟩
end Go.Proofs.Ytcchekkedgajpaa.DefDd
