/- Package lightwellref06: Match, Tokens. -/
import Derived.Test.YtighlefajekloaaDefEb
import Derived.Test.YtighlefajekloaaDefY
set_option linter.unusedVariables false
set_option linter.unusedSimpArgs false
namespace Go.Proofs.Ytighlefajekloaa.DefEc
open Go.RowKit Go.Sort BitsM Base Low Bits5 Bits6 Bits8 DefM DefN Qb Qt Qp Qy Rec DefEa DefEb
theorem mat_zero (B : List Nat) (i m d : Nat) (s : Nat × Nat) : mat B i m 0 d s = s := rfl
theorem mat_next (B : List Nat) (i m k d : Nat) (s : Nat × Nat) : mat B i m (k + 1) d s = mat B i m k (d + 1) (upd s (com B (i - d) i m) d) := rfl
theorem cell_nums {w : World} {b off n cap : Nat} {B : List Nat} (h : Nums .u8 256 w (.slice (some ⟨b, off, none⟩) n cap) B) (i : Nat) (hi : i < B.length) : w.cell? ⟨b, off + i, none⟩ = some (.int .u8 ((B.getD i 0 : Nat) : Int)) := by
  obtain ⟨b', o', c', e, -, h2⟩ := h.cells (by intro e; rw [e] at hi; simp at hi)
  simp only [Value.slice.injEq, Option.some.injEq, Addr.mk.injEq, and_true] at e
  obtain ⟨⟨rfl, rfl⟩, -, -⟩ := e
  rw [h2 i hi]
  simp [List.getD_eq_getElem?_getD, List.getElem?_eq_getElem hi]
set_option maxRecDepth 100000 in
set_option maxHeartbeats 1000000 in
theorem match_any (v : Value) (B : List Nat) (w : World) (hv : Nums .u8 256 w v B) (i tz : Nat) (hi : i < tz) (hto : tz ≤ B.length) (hB : B.length ≤ 100000) :
    Calls Try.prog 80 #[v, .int .i64 (i : Int), .int .i64 (tz : Int)] w fun e w' => ∃ a : Nat, e = .returned (.tuple #[.int .i64 (((matchF B i tz).1 : Nat) : Int), .int .i64 (a : Int)]) ∧ (1 ≤ (matchF B i tz).1 → a + (matchF B i tz).2 = i) ∧ Below w.heap.size w w' := by
  obtain ⟨bb, ob, cap, rfl, hbw, -⟩ := hv.cells (by intro e; rw [e] at hto; simp at hto; omega)
  obtain ⟨N, hN⟩ : ∃ N, N = B.length := ⟨_, rfl⟩
  rw [← hN] at hv hto hB ⊢
  have HC := Lib.hid (fun (w' : World) (hb : Below w.heap.size w w') (k : Nat) (hk : k < N) => cell_nums (hv.below hb (Nat.le_refl _)) k (by rw [← hN]; exact hk))
  have HMF := Lib.hid (show matchF B i tz = mat B i (min 258 (tz - i)) (min i 32768) 1 (0, 0) from rfl)
  obtain ⟨M, hM⟩ : ∃ M, M = matchF B i tz := ⟨_, rfl⟩
  rw [← hM] at HMF ⊢
  obtain ⟨m, hm⟩ : ∃ m, m = min 258 (tz - i) := ⟨_, rfl⟩
  rw [← hm] at HMF
  obtain ⟨D, hD⟩ : ∃ D, D = min i 32768 := ⟨_, rfl⟩
  rw [← hD] at HMF
  have hm1 : m ≤ 258 ∧ m + i ≤ tz ∧ (m = 258 ∨ m + i = tz) := by omega
  have hD1 : D ≤ i ∧ D ≤ 32768 ∧ (D = i ∨ D = 32768) := by omega
  clear hv hN hM hm hD
  have e0 : IntKind.i64.wrap ((i : Int) - 1) = (i : Int) - 1 := by rw [IntKind.wrap_i64]; omega
  have e9 : IntKind.i64.wrap ((i : Int) - 32768) = (i : Int) - 32768 := by rw [IntKind.wrap_i64]; omega
  go_enter Try.func80, Try.ntmps80
  go_wp2_with fail
  go_loopw [8, 9, 10] (fun v8 v9 v10 wr => ∃ (q d a : Nat) (s : Nat × Nat), 1 ≤ d ∧ q + d = i + 1 ∧ d ≤ D + 1 ∧ v8 = .int .i64 ((s.1 : Nat) : Int) ∧ v9 = .int .i64 (a : Int) ∧ v10 = .int .i64 ((q : Int) - 1) ∧ s.1 ≤ m ∧ (1 ≤ s.1 → a + s.2 = i) ∧ mat B i m (D + 1 - d) d s = M ∧ Below w.heap.size w wr) (fun _ _ v10 _ => (intOf v10 + 1).toNat)
  case atStart => exact ⟨i, 1, 0, (0, 0), by omega, by omega, by omega, rfl, rfl, rfl, Nat.zero_le _, fun h => absurd h (by simp), by rw [HMF.out]; rfl, Below.refl _ _⟩
  case round =>
    obtain ⟨q, d, a, s, hd, hqd, hdD, rfl, rfl, rfl, hsm, hsa, hmat, hb⟩ := hrel
    have HB := Lib.hid hb
    have HMT := Lib.hid hmat
    have HSA := Lib.hid hsa
    obtain ⟨lg, hlg⟩ : ∃ lg, lg = s.1 := ⟨_, rfl⟩
    have HLG := Lib.hid hlg
    rw [← hlg] at hsm HSA ⊢
    clear hb hmat hsa hlg
    by_cases hin : 1 ≤ q ∧ d ≤ D
    · obtain ⟨h1, h2⟩ := hin
      obtain ⟨p, rfl⟩ : ∃ p, q = p + 1 := ⟨q - 1, by omega⟩
      have hp : ((p + 1 : Nat) : Int) - 1 = (p : Int) := by omega
      rw [hp]
      have d1 : decide ((i : Int) - 32768 ≤ (p : Int)) = true := decide_eq_true (by omega)
      have hpi : p < i := by omega
      have hpd : i - d = p := by omega
      go_wp2_with fail
      clear d1 hp
      go_loopw [11] (fun v11 wr5 => ∃ n : Nat, n ≤ m ∧ v11 = .int .i64 (n : Int) ∧ (∀ t, t < n → B.getD (p + t) 0 = B.getD (i + t) 0) ∧ Below w.heap.size w wr5) (fun v11 _ => m - (intOf v11).toNat)
      case atStart => exact ⟨0, by omega, rfl, fun t ht => absurd ht (by omega), HB.out⟩
      case round =>
        obtain ⟨n, hnm, rfl, hsame, hb5⟩ := hrel
        have HB5 := Lib.hid hb5
        have HSM := Lib.hid hsame
        clear hb5 hsame
        obtain ⟨pn, hpn⟩ : ∃ x, x = p + n := ⟨_, rfl⟩
        obtain ⟨iN, hiN⟩ : ∃ x, x = i + n := ⟨_, rfl⟩
        have e1 : IntKind.i64.wrap ((p : Int) + (n : Int)) = (pn : Int) := by rw [IntKind.wrap_i64]; omega
        have e2 : IntKind.i64.wrap ((i : Int) + (n : Int)) = (iN : Int) := by rw [IntKind.wrap_i64]; omega
        obtain ⟨x1, hx1⟩ : ∃ e, B.getD pn 0 = e := ⟨_, rfl⟩
        obtain ⟨x2, hx2⟩ : ∃ e, B.getD iN 0 = e := ⟨_, rfl⟩
        have hle : pn ≤ iN ∧ (n < m → iN < tz) ∧ (¬ n < m → n = 258 ∨ ¬ iN < tz) := by omega
        have HX1 := Lib.hid hx1
        have HX2 := Lib.hid hx2
        have HPN := Lib.hid hpn
        have HIN := Lib.hid hiN
        have hn258 : n ≤ 258 := by omega
        clear hx1 hx2 hpn hiN
        by_cases hgo : n < m ∧ x1 = x2
        · obtain ⟨hn, hee⟩ := hgo
          have d5 : decide ((n : Int) < 258) = true := decide_eq_true (by omega)
          have h6 : iN < tz := hle.2.1 hn
          have d6 : decide (iN < tz) = true := decide_eq_true h6
          have hpN : pn < N := by omega
          have hiN2 : iN < N := by omega
          have g1 := fun d os => cell_regrown ((HC.out wr HB5.out pn hpN).trans (by rw [HX1.out])) d os
          have g2 := fun d os => cell_regrown ((HC.out wr HB5.out iN hiN2).trans (by rw [HX2.out])) d os
          have de : ((x1 : Int) == (x2 : Int)) = true := by simp [hee]
          go_upto_region 6 with (fail)
          refine wp_region_quiet_below (by kernel_rfl) (by kernel_rfl) ?_
          repeat (go_big_quiet_step (fail))
          refine wpQuiet_nil ?_
          first | (rintro _ ⟨⟨dq, odq⟩, rfl⟩) | (rintro ⟨dq, odq⟩)
          have hW6 := below_regrown wr dq odq
          obtain ⟨W6, eW6⟩ : ∃ ww, ww = grow (redrawn wr dq) odq := ⟨_, rfl⟩
          rw [← eW6] at hW6 ⊢
          clear eW6
          have HB6 := Lib.hid hW6
          clear hW6
          clear g1 g2
          have en : IntKind.i64.wrap ((n : Int) + 1) = ((n + 1 : Nat) : Int) := by rw [IntKind.wrap_i64]; omega
          go_wp2_with fail
          refine ⟨⟨n + 1, by omega, rfl, fun t ht => ?_, HB5.out.trans (HB6.out.mono HB5.out.size)⟩, by simp only [intOf]; omega⟩
          rcases Nat.lt_or_ge t n with h9 | h9
          · exact HSM.out t h9
          · obtain rfl : t = n := by omega
            rw [← HPN.out, ← HIN.out, HX1.out, HX2.out]; exact hee
        · have hcom : com B p i m = n := by
            refine com_unique B m p i n hnm HSM.out (fun h => ?_)
            rw [← HPN.out, ← HIN.out, HX1.out, HX2.out]
            exact fun e => hgo ⟨h, e⟩
          have HCOM := Lib.hid hcom
          have hways : (n = 258) ∨ (n < 258 ∧ ¬ iN < tz) ∨ (n < 258 ∧ iN < tz ∧ ¬ x1 = x2) := by
            by_cases h7 : n < m
            · exact .inr (.inr ⟨by omega, hle.2.1 h7, fun e => hgo ⟨h7, e⟩⟩)
            · rcases hle.2.2 h7 with h8 | h8
              · exact .inl h8
              · by_cases h9 : n = 258
                · exact .inl h9
                · exact .inr (.inl ⟨by omega, h8⟩)
          have hup2 : (lg < n ∧ decide (lg < n) = true) ∨ (¬ lg < n ∧ decide (lg < n) = false) := by
            by_cases h : lg < n
            · exact .inl ⟨h, decide_eq_true h⟩
            · exact .inr ⟨h, decide_eq_false h⟩
          have ep : IntKind.i64.wrap ((p : Int) - 1) = (p : Int) - 1 := by rw [IntKind.wrap_i64]; omega
          have hmn := mat_next B i m (D - d) d s
          rw [show D - d + 1 = D + 1 - d by omega, HMT.out, hpd, hcom] at hmn
          have HMN := Lib.hid hmn
          clear hcom hmn hgo hle
          rcases hways with h5 | ⟨h5, h6⟩ | ⟨h5, h6, h7⟩
          · have d5 : decide ((n : Int) < 258) = false := decide_eq_false (by omega)
            have p5 : ¬ (n : Int) < 258 := by omega
            go_upto_region 6 with (fail)
            refine wp_region_quiet_below (by kernel_rfl) (by kernel_rfl) ?_
            repeat (go_big_quiet_step (fail))
            refine wpQuiet_nil ?_
            first | (rintro _ ⟨⟨dq, odq⟩, rfl⟩) | (rintro ⟨dq, odq⟩)
            have hW6 := below_regrown wr dq odq
            obtain ⟨W6, eW6⟩ : ∃ ww, ww = grow (redrawn wr dq) odq := ⟨_, rfl⟩
            rw [← eW6] at hW6 ⊢
            clear eW6
            have HB6 := Lib.hid hW6
            clear hW6
            rcases hup2 with ⟨hup, d7⟩ | ⟨hup, d7⟩
            · go_wp2_with fail
              refine ⟨⟨p, d + 1, p, upd s n d, by omega, by omega, by omega, by unfold upd; rw [← HLG.out, if_pos hup], rfl, rfl, by unfold upd; rw [← HLG.out, if_pos hup]; exact hnm, fun _ => by unfold upd; rw [← HLG.out, if_pos hup]; show p + d = i; omega, ?_, HB5.out.trans (HB6.out.mono HB5.out.size)⟩, by simp only [intOf]; omega⟩
              rw [show D + 1 - (d + 1) = D - d by omega]; exact HMN.out.symm
            · go_wp2_with fail
              refine ⟨⟨p, d + 1, a, upd s n d, by omega, by omega, by omega, by unfold upd; rw [← HLG.out, if_neg hup, ← HLG.out], rfl, rfl, by unfold upd; rw [← HLG.out, if_neg hup, ← HLG.out]; exact hsm, fun h => by unfold upd at h ⊢; rw [← HLG.out, if_neg hup] at h ⊢; exact HSA.out (by rw [HLG.out]; exact h), ?_, HB5.out.trans (HB6.out.mono HB5.out.size)⟩, by simp only [intOf]; omega⟩
              rw [show D + 1 - (d + 1) = D - d by omega]; exact HMN.out.symm
          · have d5 : decide ((n : Int) < 258) = true := decide_eq_true (by omega)
            have d6 : decide (iN < tz) = false := decide_eq_false h6
            go_upto_region 6 with (fail)
            refine wp_region_quiet_below (by kernel_rfl) (by kernel_rfl) ?_
            repeat (go_big_quiet_step (fail))
            refine wpQuiet_nil ?_
            first | (rintro _ ⟨⟨dq, odq⟩, rfl⟩) | (rintro ⟨dq, odq⟩)
            have hW6 := below_regrown wr dq odq
            obtain ⟨W6, eW6⟩ : ∃ ww, ww = grow (redrawn wr dq) odq := ⟨_, rfl⟩
            rw [← eW6] at hW6 ⊢
            clear eW6
            have HB6 := Lib.hid hW6
            clear hW6
            rcases hup2 with ⟨hup, d7⟩ | ⟨hup, d7⟩
            · go_wp2_with fail
              refine ⟨⟨p, d + 1, p, upd s n d, by omega, by omega, by omega, by unfold upd; rw [← HLG.out, if_pos hup], rfl, rfl, by unfold upd; rw [← HLG.out, if_pos hup]; exact hnm, fun _ => by unfold upd; rw [← HLG.out, if_pos hup]; show p + d = i; omega, ?_, HB5.out.trans (HB6.out.mono HB5.out.size)⟩, by simp only [intOf]; omega⟩
              rw [show D + 1 - (d + 1) = D - d by omega]; exact HMN.out.symm
            · go_wp2_with fail
              refine ⟨⟨p, d + 1, a, upd s n d, by omega, by omega, by omega, by unfold upd; rw [← HLG.out, if_neg hup, ← HLG.out], rfl, rfl, by unfold upd; rw [← HLG.out, if_neg hup, ← HLG.out]; exact hsm, fun h => by unfold upd at h ⊢; rw [← HLG.out, if_neg hup] at h ⊢; exact HSA.out (by rw [HLG.out]; exact h), ?_, HB5.out.trans (HB6.out.mono HB5.out.size)⟩, by simp only [intOf]; omega⟩
              rw [show D + 1 - (d + 1) = D - d by omega]; exact HMN.out.symm
          · have d5 : decide ((n : Int) < 258) = true := decide_eq_true (by omega)
            have d6 : decide (iN < tz) = true := decide_eq_true h6
            have hpN : pn < N := by have := HPN.out; have := HIN.out; omega
            have hiN2 : iN < N := by omega
            have g1 := fun d os => cell_regrown ((HC.out wr HB5.out pn hpN).trans (by rw [HX1.out])) d os
            have g2 := fun d os => cell_regrown ((HC.out wr HB5.out iN hiN2).trans (by rw [HX2.out])) d os
            have de : ((x1 : Int) == (x2 : Int)) = false := by simp; omega
            go_upto_region 6 with (fail)
            refine wp_region_quiet_below (by kernel_rfl) (by kernel_rfl) ?_
            repeat (go_big_quiet_step (fail))
            refine wpQuiet_nil ?_
            first | (rintro _ ⟨⟨dq, odq⟩, rfl⟩) | (rintro ⟨dq, odq⟩)
            have hW6 := below_regrown wr dq odq
            obtain ⟨W6, eW6⟩ : ∃ ww, ww = grow (redrawn wr dq) odq := ⟨_, rfl⟩
            rw [← eW6] at hW6 ⊢
            clear eW6
            have HB6 := Lib.hid hW6
            clear hW6
            clear g1 g2
            rcases hup2 with ⟨hup, d7⟩ | ⟨hup, d7⟩
            · go_wp2_with fail
              refine ⟨⟨p, d + 1, p, upd s n d, by omega, by omega, by omega, by unfold upd; rw [← HLG.out, if_pos hup], rfl, rfl, by unfold upd; rw [← HLG.out, if_pos hup]; exact hnm, fun _ => by unfold upd; rw [← HLG.out, if_pos hup]; show p + d = i; omega, ?_, HB5.out.trans (HB6.out.mono HB5.out.size)⟩, by simp only [intOf]; omega⟩
              rw [show D + 1 - (d + 1) = D - d by omega]; exact HMN.out.symm
            · go_wp2_with fail
              refine ⟨⟨p, d + 1, a, upd s n d, by omega, by omega, by omega, by unfold upd; rw [← HLG.out, if_neg hup, ← HLG.out], rfl, rfl, by unfold upd; rw [← HLG.out, if_neg hup, ← HLG.out]; exact hsm, fun h => by unfold upd at h ⊢; rw [← HLG.out, if_neg hup] at h ⊢; exact HSA.out (by rw [HLG.out]; exact h), ?_, HB5.out.trans (HB6.out.mono HB5.out.size)⟩, by simp only [intOf]; omega⟩
              rw [show D + 1 - (d + 1) = D - d by omega]; exact HMN.out.symm
    · have hdD2 : d = D + 1 := by omega
      have hend : s = M := by
        have := HMT.out
        rw [hdD2, Nat.sub_self] at this
        exact this
      have HE := Lib.hid hend
      have HD2 := Lib.hid hdD2
      clear hend hdD2
      rcases Nat.eq_zero_or_pos q with h0 | h0
      · subst h0
        have hq0 : ((0 : Nat) : Int) - 1 = -1 := rfl
        rw [hq0]
        go_wp2_with fail
        go_ret2
        exact ⟨a, by rw [HLG.out, HE.out]; rfl, by rw [← HE.out, ← HLG.out]; exact HSA.out, HB.out⟩
      · obtain ⟨p, rfl⟩ : ∃ p, q = p + 1 := ⟨q - 1, by omega⟩
        have hp : ((p + 1 : Nat) : Int) - 1 = (p : Int) := by omega
        rw [hp]
        have d1 : decide ((i : Int) - 32768 ≤ (p : Int)) = false := decide_eq_false (by have := HD2.out; omega)
        go_wp2_with fail
        go_ret2
        exact ⟨a, by rw [HLG.out, HE.out]; rfl, by rw [← HE.out, ← HLG.out]; exact HSA.out, HB.out⟩
end Go.Proofs.Ytighlefajekloaa.DefEc
