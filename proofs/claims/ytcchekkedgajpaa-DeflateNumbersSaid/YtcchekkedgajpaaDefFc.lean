/- The law DeflateNumbers. -/
import Derived.Test.YtcchekkedgajpaaDefEh
import Derived.Test.YtcchekkedgajpaaDefFb
import Derived.Test.YtcchekkedgajpaaRepP
set_option linter.unusedVariables false
set_option linter.unusedSimpArgs false
namespace Go.Proofs.Ytcchekkedgajpaa.DefFc
open Go.RowKit Go.Sort BitsM Base Low DefM DefN DefO DefP DefQ DefS DefBa DefCa DefCb DefDa DefDb DefFa DefFb NumSl NumAp Qb Qt
theorem rep (s : ByteArray) (c : Nat) (z : Int) (hz : z = (c : Int)) (w : World) (h : s.size * c ≤ 10000) (hc : c ≤ 10000) : Calls Try.prog 17 #[.string s, .int .i64 z] w fun e w' => ∃ s', e = .returned (.string s') ∧ s'.size ≤ 10000 ∧ Below w.heap.size w w' := by
  subst hz
  refine (Try.strings_Repeat s c w (by omega) (by omega)).mono ?_
  rintro e w' ⟨rfl, hb⟩
  refine ⟨_, rfl, ?_, hb⟩
  show (Lib.repeatL s.data.toList c).toArray.size ≤ 10000
  rw [List.size_toArray, Lib.repeatL_length, Nat.mul_comm]
  exact h
theorem whole_v (w : World) (u : Value) (B : List Nat) (hu : Nums .u8 256 w u B) (hlen : B.length ≤ 20000) :
    Calls Try.prog 16 #[u] w fun e w' => ∃ x, e = .returned x ∧ Nums .u8 256 w' x (wholeF B) ∧ Below w.heap.size w w' := by
  refine (whole_le w u B hu (by omega)).mono ?_
  rintro e w' ⟨a, c, rfl, hn, hb⟩
  exact ⟨_, rfl, hn, hb⟩
theorem same_true (v u : Value) (l : List Nat) (w : World) (hv : Nums .u8 256 w v l) (hu : Nums .u8 256 w u l) :
    Calls Try.prog 11 #[v, u] w fun e w' => e = .returned (.bool true) ∧ w = w' := by
  have := sameBytes_any v u l l w hv hu
  rw [decide_eq_true rfl] at this
  exact this
set_option maxRecDepth 100000 in
set_option maxHeartbeats 2000000 in
theorem numbers_any (w : World) : Calls Try.prog 6 #[] w fun e w' => e = .returned (.bool true) ∧ Below w.heap.size w w' := by
  have kc := fun (w : World) (C : Array Value) (n c : Nat) => Lib.run_convert_bytes_const (P := Try.prog) w 25 5 C n c Try.underlying25 Try.underlying5
  go_enter Try.func6, Try.ntmps6
  go_wp2_with fail
  refine (rep { data := #[97] } 259 259 rfl _ (by decide) (by decide)).mono ?_
  rintro e w1 ⟨s1, rfl, hs1, hb1⟩
  go_wp2_with fail
  refine (rep { data := #[97] } 260 260 rfl _ (by decide) (by decide)).mono ?_
  rintro e w2 ⟨s2, rfl, hs2, hb2⟩
  go_wp2_with fail
  refine (rep { data := #[97, 98, 99] } 100 100 rfl _ (by decide) (by decide)).mono ?_
  rintro e w3 ⟨s3, rfl, hs3, hb3⟩
  go_wp2_with fail
  refine (rep { data := #[97] } 4096 4096 rfl _ (by decide) (by decide)).mono ?_
  rintro e w4 ⟨s4, rfl, hs4, hb4⟩
  go_wp2_with fail
  refine (rep { data := #[97] } 4097 4097 rfl _ (by decide) (by decide)).mono ?_
  rintro e w5 ⟨s5, rfl, hs5, hb5⟩
  go_wp2_with fail
  refine (rep { data := #[97, 98] } 4500 4500 rfl _ (by decide) (by decide)).mono ?_
  rintro e w6 ⟨s6, rfl, hs6, hb6⟩
  go_wp2_with fail
  refine (rep { data := #[98] } 300 300 rfl _ (by decide) (by decide)).mono ?_
  rintro e w7 ⟨s7, rfl, hs7, hb7⟩
  go_upto_region 2 with (fail)
  obtain ⟨g, hg⟩ : ∃ g, g = w7.heap.size := ⟨_, rfl⟩
  obtain ⟨L, hL⟩ : ∃ L : Array Value, L = #[Value.string s1, Value.string s2, Value.string s3, Value.string s4, Value.string s5, Value.string s6, Value.string { data := #[97, 98, 99, 100, 101, 97, 98, 99, 100, 120, 97, 98, 99, 100, 101] }, Value.string { data := #[97, 97, 97, 97] }, Value.string ({ data := #[97, 97, 97, 98] } ++ s7)] := ⟨_, rfl⟩
  rw [← hL, ← hg]
  have hr := heap_alloc_new w7 (.cells L 9)
  rw [← hg] at hr
  have hba := ext_alloc w7 (.cells L 9)
  have hbw7 : Below w.heap.size w w7 := hb1.trans ((hb2.trans ((hb3.trans ((hb4.trans ((hb5.trans ((hb6.trans (hb7.mono hb6.size)).mono hb5.size)).mono hb4.size)).mono hb3.size)).mono hb2.size)).mono hb1.size)
  have hgw : w.heap.size ≤ g := by have := hbw7.size; omega
  have hbx := hbw7.trans (hba.mono hbw7.size)
  have hst : ∀ i, i < 9 → ∃ s : ByteArray, L[i]? = some (.string s) ∧ s.size ≤ 20000 := by
    intro i hi
    subst hL
    match i, hi with
    | 0, _ => exact ⟨s1, rfl, by omega⟩
    | 1, _ => exact ⟨s2, rfl, by omega⟩
    | 2, _ => exact ⟨s3, rfl, by omega⟩
    | 3, _ => exact ⟨s4, rfl, by omega⟩
    | 4, _ => exact ⟨s5, rfl, by omega⟩
    | 5, _ => exact ⟨s6, rfl, by omega⟩
    | 6, _ => exact ⟨_, rfl, by decide⟩
    | 7, _ => exact ⟨_, rfl, by decide⟩
    | 8, _ => exact ⟨_, rfl, by rw [ByteArray.size_append]; have : (⟨#[97, 97, 97, 98]⟩ : ByteArray).size = 4 := rfl; omega⟩
    | n + 9, h => omega
  obtain ⟨W, hW⟩ : ∃ ww, ww = w7.alloc (.cells L 9) := ⟨_, rfl⟩
  rw [← hW] at hr hbx ⊢
  have HR := Lib.hid hr
  have HBX := Lib.hid hbx
  have HST := Lib.hid hst
  clear hL hg hr hba hbw7 hbx hst hW hs1 hs2 hs3 hs4 hs5 hs6 hs7 hb1 hb2 hb3 hb4 hb5 hb6 hb7
  go_loopw [17] (fun v17 wr => ∃ k : Nat, k ≤ 9 ∧ v17 = .int .i64 (k : Int) ∧ Below W.heap.size W wr) (fun v17 _ => 9 - (intOf v17).toNat)
  case atStart => exact ⟨0, by omega, rfl, Below.refl _ _⟩
  case round =>
    obtain ⟨k, hk, rfl, hb⟩ := hrel
    have HB := Lib.hid hb
    clear hb
    by_cases hk9 : k < 9
    · have d1 : decide ((k : Int) < 9) = true := decide_eq_true (by omega)
      obtain ⟨s, hs, hs2⟩ := HST.out k hk9
      have y0 : wr.cell? ⟨g, k, none⟩ = some (.string s) := cell_of_row _ _ k _ _ _ ((HB.out.block g (Base.lt_of_heap HR.out)).trans HR.out) |>.trans hs
      have HZ := Lib.hid (show s.size ≤ maxLen by unfold maxLen; omega)
      have HL := Lib.hid (show (bts s).length ≤ 20000 by rw [bts_len]; exact hs2)
      clear hs hs2
      go_wp2_with (first
        | (with_reducible (refine wpList_toBytes rfl 9 25 5 (.tmp 22) rfl Try.underlying9 Try.underlying25 Try.underlying5 s HZ.out rfl ?_); intro v1 x1 h1 hb1; have H1 := Lib.hid h1; have HB1 := Lib.hid hb1; clear h1 hb1)
        | fail)
      refine (whole_v x1 v1 (bts s) H1.out (by have := HL.out; omega)).mono ?_
      rintro e x2 ⟨v2, rfl, hv2, hb2⟩
      have HV2 := Lib.hid hv2
      have HB2 := Lib.hid (HB1.out.trans (hb2.mono HB1.out.size))
      clear hv2 hb2 HB1 H1
      go_wp2_with (first
        | (with_reducible (refine wpList_toBytes rfl 9 25 5 (.tmp 25) rfl Try.underlying9 Try.underlying25 Try.underlying5 s HZ.out rfl ?_); intro v3 x3 h3 hb3; have H3 := Lib.hid h3; have HB3 := Lib.hid hb3; clear h3 hb3)
        | fail)
      have HV3 := Lib.hid (HV2.out.below HB3.out (Nat.le_refl _))
      have HBB := Lib.hid (HB2.out.trans (HB3.out.mono HB2.out.size))
      clear HV2 HB2 HB3
      refine (DefEh.rwhole_any v3 (bts s) x3 H3.out HL.out).mono ?_
      rintro e x4 ⟨v4, rfl, ho4, hb4⟩
      have HO4 := Lib.hid ho4.nums
      have HV4 := Lib.hid (HV3.out.below hb4 (Nat.le_refl _))
      have HB4 := Lib.hid (HBB.out.trans (hb4.mono HBB.out.size))
      clear ho4 hb4 HV3 HBB H3
      go_wp2_with fail
      refine (same_true v2 v4 _ x4 HV4.out HO4.out).mono ?_
      rintro e x5 ⟨rfl, rfl⟩
      have e1 : IntKind.i64.wrap ((k : Int) + 1) = ((k + 1 : Nat) : Int) := by rw [IntKind.wrap_i64]; omega
      go_wp2_with fail
      exact ⟨⟨k + 1, by omega, rfl, HB.out.trans (HB4.out.mono HB.out.size)⟩, by simp only [intOf]; omega⟩
    · have d1 : decide ((k : Int) < 9) = false := decide_eq_false (by omega)
      have HBW := Lib.hid (HBX.out.trans (HB.out.mono HBX.out.size))
      clear HB HBX HR HST
      generalize wr = z0 at *
      go_upto_region 8 with (fail)
      clear d1
      clear hk9 hk
      generalize k = k1 at *
      obtain ⟨g2, hg2⟩ : ∃ g, g = z0.heap.size := ⟨_, rfl⟩
      obtain ⟨R, hR⟩ : ∃ R : Array Value, R = #[Value.int IntKind.i64 2, Value.int IntKind.i64 3, Value.int IntKind.i64 4, Value.int IntKind.i64 7, Value.int IntKind.i64 100, Value.int IntKind.i64 300, Value.int IntKind.i64 1000, Value.int IntKind.i64 2100, Value.int IntKind.i64 4000] := ⟨_, rfl⟩
      rw [← hR, ← hg2]
      have hr := heap_alloc_new z0 (.cells R 3)
      rw [← hg2] at hr
      have hbx := HBW.out.trans ((ext_alloc z0 (.cells R 3)).mono HBW.out.size)
      have hst : ∀ i, i < 9 → ∃ G : Nat, R[i]? = some (.int .i64 (G : Int)) ∧ 2 ≤ G ∧ G ≤ 4000 := by
        intro i hi
        subst hR
        match i, hi with
        | 0, _ => exact ⟨2, rfl, by omega, by omega⟩
        | 1, _ => exact ⟨3, rfl, by omega, by omega⟩
        | 2, _ => exact ⟨4, rfl, by omega, by omega⟩
        | 3, _ => exact ⟨7, rfl, by omega, by omega⟩
        | 4, _ => exact ⟨100, rfl, by omega, by omega⟩
        | 5, _ => exact ⟨300, rfl, by omega, by omega⟩
        | 6, _ => exact ⟨1000, rfl, by omega, by omega⟩
        | 7, _ => exact ⟨2100, rfl, by omega, by omega⟩
        | 8, _ => exact ⟨4000, rfl, by omega, by omega⟩
        | n + 9, h => omega
      obtain ⟨Z, hZ⟩ : ∃ ww, ww = z0.alloc (.cells R 3) := ⟨_, rfl⟩
      rw [← hZ] at hr hbx ⊢
      have HR := Lib.hid hr
      have HBX := Lib.hid hbx
      have HST := Lib.hid hst
      clear hR hg2 hr hbx hst hZ HBW
      go_loopw [35] (fun v35 wr => ∃ k : Nat, k ≤ 9 ∧ v35 = .int .i64 (k : Int) ∧ Below Z.heap.size Z wr) (fun v35 _ => 9 - (intOf v35).toNat)
      case atStart => exact ⟨0, by omega, rfl, Below.refl _ _⟩
      case round =>
        obtain ⟨k, hk, rfl, hb⟩ := hrel
        have HB := Lib.hid hb
        clear hb
        generalize wr = w0 at *
        by_cases hk9 : k < 9
        · have d1 : decide ((k : Int) < 9) = true := decide_eq_true (by omega)
          obtain ⟨G, hs, hG2, hG⟩ := HST.out k hk9
          have y0 : w0.cell? ⟨g2, k, none⟩ = some (.int .i64 (G : Int)) := cell_of_row _ _ k _ _ _ ((HB.out.block g2 (Base.lt_of_heap HR.out)).trans HR.out) |>.trans hs
          clear hs
          go_wp2_with fail
          have hn7 : Nums .u8 256 (w0.alloc (.cells #[.int .u8 120, .int .u8 121, .int .u8 122, .int .u8 120, .int .u8 121, .int .u8 122, .int .u8 33] 5 (7, 8))) (.slice (some ⟨w0.heap.size, 0, none⟩) 7 7) [120, 121, 122, 120, 121, 122, 33] :=
            nums_blk .u8 256 (heap_alloc_new _ _) [120, 121, 122, 120, 121, 122, 33] (by decide) (by decide) rfl 7 rfl
          have HN7 := Lib.hid hn7
          clear hn7 d1 y0
          go_loopw [5, 6] (fun v5 v6 wr => ∃ (i : Nat) (B : List Nat), i ≤ G ∧ v6 = .int .i64 (i : Int) ∧ B.length = 7 + i ∧ Ap .u8 256 5 w0.heap.size wr v5 B ∧ (i = 0 ∨ Own .u8 256 5 w0.heap.size wr v5 B) ∧ Below w0.heap.size w0 wr) (fun _ v6 _ => 4000 - (intOf v6).toNat)
          case atStart => exact ⟨0, _, by omega, rfl, rfl, .inr ⟨⟨_, _, rfl⟩, HN7.out, fun b hb => by simp only [Value.ownBlock, Option.some.injEq] at hb; omega⟩, .inl rfl, ext_alloc _ _⟩
          case round =>
            obtain ⟨i, B, hi, rfl, hBl, hap, how, hb2⟩ := hrel
            have HAP := Lib.hid hap
            have HOW := Lib.hid how
            have HB2 := Lib.hid hb2
            have HBL := Lib.hid hBl
            clear hap how hb2 hBl
            by_cases hlt : i < G
            · have d2 : decide (i < G) = true := decide_eq_true hlt
              obtain ⟨m7, hm7⟩ : ∃ m, m = i * 7 := ⟨_, rfl⟩
              have e1 : IntKind.i64.wrap ((i : Int) * 7) = (m7 : Int) := by rw [IntKind.wrap_i64]; omega
              obtain ⟨r, hr⟩ : ∃ r, r = m7 % 97 := ⟨_, rfl⟩
              have e2 : (m7 : Int).tmod 97 = (r : Int) := by rw [hr]; rfl
              have e2b : (m7 : Int) % 97 = (r : Int) := by omega
              obtain ⟨x, hx⟩ : ∃ x, x = 128 + r := ⟨_, rfl⟩
              have e3 : IntKind.i64.wrap (128 + (r : Int)) = (x : Int) := by rw [IntKind.wrap_i64]; omega
              obtain ⟨q, hq⟩ : ∃ q, q = i / 97 := ⟨_, rfl⟩
              have e4 : (i : Int).tdiv 97 = (q : Int) := by rw [hq]; rfl
              have e4b : (i : Int) / 97 = (q : Int) := by omega
              obtain ⟨y, hy⟩ : ∃ y, y = x + q := ⟨_, rfl⟩
              have e5 : IntKind.i64.wrap ((x : Int) + (q : Int)) = (y : Int) := by rw [IntKind.wrap_i64]; omega
              obtain ⟨z, hz⟩ : ∃ z, z = y % 256 := ⟨_, rfl⟩
              have e6 : IntKind.u8.wrap (y : Int) = (z : Int) := by rw [IntKind.wrap_u8]; omega
              have e7 : IntKind.i64.wrap ((i : Int) + 1) = ((i + 1 : Nat) : Int) := by rw [IntKind.wrap_i64]; omega
              have HN1 := Lib.hid (nums_one .u8 256 5 wr z (by omega))
              have HAP2 := Lib.hid (HAP.out.below (ext_alloc wr (.cells #[.int .u8 (z : Int)] 5)))
              have hbs : w0.heap.size ≤ (wr.alloc (.cells #[.int .u8 (z : Int)] 5)).heap.size := by have := HB2.out.size; simp; omega
              have HL1 := Lib.hid (show (B.length + [z].length) * 1 ≤ 140737488355328 by rw [HBL.out]; simp; omega)
              have HL2 := Lib.hid (show B.length + [z].length ≤ 140737488355328 by rw [HBL.out]; simp; omega)
              have HLW := Lib.hid HAP.out.low
              clear hm7 hr hx hq hy hz
              go_wp2_with (at_builtin; refine wpList_append_ap rfl (.tmp 46) (.tmp 55) 25 5 rfl .u8 256 1 w0.heap.size u8s u5 B rfl HAP2.out _ [z] (by simp) rfl HN1.out HL1.out HL2.out hbs ?_; intro v4 w4 ho4 hk4; have HO4 := Lib.hid ho4; have HK4 := Lib.hid hk4; clear ho4 hk4)
              have hb4 : Below w0.heap.size w0 w4 := (HB2.out.trans ((ext_alloc wr (.cells #[.int .u8 (z : Int)] 5)).mono HB2.out.size)).trans (HK4.out.below _ hbs (fun b hb => HLW.out b hb))
              exact ⟨⟨i + 1, B ++ [z], by omega, rfl, by rw [List.length_append, HBL.out]; rfl, .inl HO4.out, .inr HO4.out, hb4⟩, by simp only [intOf]; omega⟩
            · have d2 : decide (i < G) = false := decide_eq_false hlt
              have hown := HOW.out.resolve_left (by omega)
              have HOWN := Lib.hid hown
              have hbs := HB2.out.size
              have HNE := Lib.hid (show B ≠ [] by intro e; have := HBL.out; rw [e] at this; simp at this; omega)
              have HL9 := Lib.hid (show B.length + (6 : Nat) ≤ 140737488355328 by rw [HBL.out]; omega)
              clear hown
              go_wp2_with (at_builtin; refine wpList_append_str rfl (.tmp 57) (.const (.string { data := #[120, 121, 122, 120, 121, 122] })) 25 5 9 rfl w0.heap.size u8s Try.underlying9 u5 B rfl HOWN.out HNE.out { data := #[120, 121, 122, 120, 121, 122] } rfl HL9.out hbs ?_; intro v4 w4 ho4 hn4 hk4; have HO4 := Lib.hid ho4.nums; have HK4 := Lib.hid hk4; clear ho4 hn4 hk4)
              have hb4 : Below w0.heap.size w0 w4 := HB2.out.trans (HK4.out.below _ hbs (fun b hb => (HOWN.out.lt b hb).1))
              have HB4 := Lib.hid hb4
              clear hb4 HK4
              have HLN := Lib.hid (show (B ++ bts { data := #[120, 121, 122, 120, 121, 122] }).length ≤ 20000 by rw [List.length_append, HBL.out, bts_len]; have : (⟨#[120, 121, 122, 120, 121, 122]⟩ : ByteArray).size = 6 := rfl; omega)
              refine (whole_v w4 v4 _ HO4.out HLN.out).mono ?_
              rintro e w5 ⟨v5, rfl, hv5, hb5⟩
              have HV5 := Lib.hid hv5
              have HB5 := Lib.hid (HB4.out.trans (hb5.mono HB4.out.size))
              have HO5 := Lib.hid (HO4.out.below hb5 (Nat.le_refl _))
              clear hv5 hb5 HB4 HO4
              go_wp2_with fail
              refine (DefEh.rwhole_any v4 _ w5 HO5.out HLN.out).mono ?_
              rintro e w6 ⟨v6, rfl, ho6, hb6⟩
              have HO6 := Lib.hid ho6.nums
              have HV6 := Lib.hid (HV5.out.below hb6 (Nat.le_refl _))
              have HB6 := Lib.hid (HB5.out.trans (hb6.mono HB5.out.size))
              clear ho6 hb6 HV5 HB5 HO5
              go_wp2_with fail
              refine (same_true v5 v6 _ w6 HV6.out HO6.out).mono ?_
              rintro e w7 ⟨rfl, rfl⟩
              have e1 : IntKind.i64.wrap ((k : Int) + 1) = ((k + 1 : Nat) : Int) := by rw [IntKind.wrap_i64]; omega
              go_wp2_with fail
              exact ⟨⟨k + 1, by omega, rfl, HB.out.trans (HB6.out.mono HB.out.size)⟩, by simp only [intOf]; omega⟩
        · have d1 : decide ((k : Int) < 9) = false := decide_eq_false (by omega)
          have HBW := Lib.hid (HBX.out.trans (HB.out.mono HBX.out.size))
          clear HB HBX HR HST
          go_wp2_with fail
          refine (far_any w0).mono ?_
          rintro e w1 ⟨rfl, hb1⟩
          go_wp2_with fail
          refine (awake_any w1).mono ?_
          rintro e w2 ⟨rfl, hb2⟩
          go_wp2_with fail
          go_ret
          exact ⟨rfl, (HBW.out.trans (hb1.mono HBW.out.size)).trans (hb2.mono (HBW.out.trans (hb1.mono HBW.out.size)).size)⟩
end Go.Proofs.Ytcchekkedgajpaa.DefFc
