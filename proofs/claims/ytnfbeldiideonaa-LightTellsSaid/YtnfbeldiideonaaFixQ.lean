/- The walk of math/bits.Div64. -/
import Derived.Test.YtnfbeldiideonaaFixL
import Derived.Test.YtnfbeldiideonaaFixD
import Derived.Test.YtnfbeldiideonaaFixU
import Derived.Deep.QuietTactic
import Derived.BigQuiet
import Derived.Deep.DeepCutAuto
import Derived.Deep.CutBlock
set_option linter.unusedVariables false
set_option linter.unusedSimpArgs false
namespace Go.Proofs.Ytnfbeldiideonaa.FixQ
open Go.RowKit FixL FixD FixU FixV Base Num

theorem wrapN' (a b : Nat) (ha : a < 18446744073709551616) : IntKind.u64.wrap ((a : Int) / (b : Int)) = ((a / b : Nat) : Int) := by
  rw [natDiv]; exact wrapN _ (Nat.lt_of_le_of_lt (Nat.div_le_self a b) ha)
/-- what the first steps lay: the dividend turned up by s, by halves -/
theorem up_args (hi lo y s : Nat) (h1 : hi < y) (h2 : lo < 18446744073709551616) (s1 : s ≤ 63) (s3 : y * 2 ^ s < 18446744073709551616) :
    bits .or .u64 (IntKind.u64.wrap ((hi : Int) * 2 ^ s)) ((lo : Int) / 2 ^ (64 - s)) = ((hi * 2 ^ s + lo / 2 ^ (64 - s) : Nat) : Int) ∧
    IntKind.u64.wrap ((lo : Int) * 2 ^ s) = ((lo * 2 ^ s % 18446744073709551616 : Nat) : Int) ∧ hi * 2 ^ s + lo / 2 ^ (64 - s) < y * 2 ^ s := by
  have hb := shl_below hi lo y s (by omega) h1 h2
  refine ⟨?_, ?_, hb⟩
  · have e1 : IntKind.u64.wrap ((hi : Int) * 2 ^ s) = ((hi * 2 ^ s : Nat) : Int) := by
      rw [show (hi : Int) * 2 ^ s = ((hi * 2 ^ s : Nat) : Int) by simp]
      exact wrapN _ (Nat.lt_of_le_of_lt (Nat.le_add_right _ _) (Nat.lt_trans hb s3))
    have e2 : (lo : Int) / 2 ^ (64 - s) = ((lo / 2 ^ (64 - s) : Nat) : Int) := by simp
    rw [e1, e2, u64_or_nat _ _ (Nat.lt_of_le_of_lt (Nat.le_add_right _ _) (Nat.lt_trans hb s3)) (Nat.lt_of_le_of_lt (Nat.div_le_self _ _) h2), or_disjoint hi (lo / 2 ^ (64 - s)) s ?_]
    rw [Nat.div_lt_iff_lt_mul (Nat.two_pow_pos _), ← Nat.pow_add, show s + (64 - s) = 64 by omega]; exact h2
  · rw [show (lo : Int) * 2 ^ s = ((lo * 2 ^ s : Nat) : Int) by simp]
    exact wrap64u _
theorem two_halves (u a b : Nat) : (u * 4294967296 + a) * 4294967296 + b = u * 18446744073709551616 + (a * 4294967296 + b) := by omega
theorem div_fin {hi lo y s u z un1 un0 W un21 Q1 Q0 R : Nat} (hs : s < 64) (hU : u = hi * 2 ^ s + lo / 2 ^ (64 - s)) (hZ : z = lo * 2 ^ s % 18446744073709551616) (hu1 : un1 = z / 4294967296) (hu0 : un0 = z % 4294967296)
    (hW : W = y * 2 ^ s) (hpos : 0 < W) (h21 : un21 = (u * 4294967296 + un1) % W) (hQ1 : Q1 = (u * 4294967296 + un1) / W) (hQ0 : Q0 = (un21 * 4294967296 + un0) / W) (hR : R = (un21 * 4294967296 + un0) % W) :
    Q1 * 4294967296 + Q0 = (hi * 18446744073709551616 + lo) / y ∧ R / 2 ^ s = (hi * 18446744073709551616 + lo) % y := by
  have hz2 : un1 * 4294967296 + un0 = z := by rw [hu1, hu0]; exact Nat.div_add_mod' z 4294967296
  have hN : (u * 4294967296 + un1) * 4294967296 + un0 = (hi * 18446744073709551616 + lo) * 2 ^ s := by
    rw [← shl_two hi lo s hs, ← hU, ← hZ, two_halves, hz2]
  obtain ⟨f1, f2⟩ := whole_quo W u un1 un0 hpos
  rw [hN, ← h21, ← hQ1, ← hQ0, hW, shl_quo] at f1
  rw [hN, ← h21, ← hR, hW] at f2
  refine ⟨f1.symm, ?_⟩
  rw [← f2]
  exact shl_rem _ _ _
set_option maxRecDepth 100000 in
set_option maxHeartbeats 4000000 in
theorem div64_any (hi lo y : Nat) (h1 : hi < y) (h2 : lo < 18446744073709551616) (h3 : y < 18446744073709551616) (w : World) :
    Calls Try.prog 53 #[.int .u64 (hi : Int), .int .u64 (lo : Int), .int .u64 (y : Int)] w fun e w' => e = .returned (.tuple #[.int .u64 (((hi * 18446744073709551616 + lo) / y : Nat) : Int), .int .u64 (((hi * 18446744073709551616 + lo) % y : Nat) : Int)]) ∧ ∃ n, w' = w.drewN n := by
  have y0 : ((y : Int) == 0) = false := by simp; omega
  have y1 : 1 ≤ y := by omega
  have y2 : decide ((y : Int) ≤ (hi : Int)) = false := decide_eq_false (by omega)
  by_cases h0 : hi = 0
  · subst h0
    go_enter Try.func53, Try.ntmps53
    go_wp2_with fail
    go_quiet (fail)
    go_wp2_with fail
    go_ret2
    exact ⟨by simp only [Nat.zero_mul, Nat.zero_add]; rw [wrapN' lo y h2]; rfl, _, rfl⟩
  · have hi0 : ((hi : Int) == 0) = false := by simp; omega
    have hi1 : 1 ≤ hi := by omega
    obtain ⟨s1, s2, s3⟩ := lz_spec y1 h3
    have c1 := lz_any y y1 h3 w
    generalize lz y = s at *
    have e1 : IntKind.u64.wrap ((y : Int) * 2 ^ s) = ((y * 2 ^ s : Nat) : Int) := by
      rw [show (y : Int) * 2 ^ s = ((y * 2 ^ s : Nat) : Int) by simp]; exact wrapN _ s3
    obtain ⟨Y, hY⟩ : ∃ Y, Y = y * 2 ^ s := ⟨_, rfl⟩
    rw [← hY] at e1 s2 s3
    obtain ⟨yn1, hyn1⟩ : ∃ q, q = Y / 4294967296 := ⟨_, rfl⟩
    obtain ⟨yn0, hyn0⟩ : ∃ q, q = Y % 4294967296 := ⟨_, rfl⟩
    have e2 : (Y : Int) / 4294967296 = (yn1 : Int) := by rw [hyn1]; omega
    have e3 : bits .and .u64 (Y : Int) 4294967295 = (yn0 : Int) := by rw [hyn0]; exact maskN Y s3
    have n1 : 2147483648 ≤ yn1 := by omega
    have n2 : yn1 < 4294967296 := by omega
    have n3 : yn0 < 4294967296 := by omega
    obtain ⟨e4, e5, hu⟩ := up_args hi lo y s h1 h2 s1 (by omega)
    obtain ⟨u, hU⟩ : ∃ u, u = hi * 2 ^ s + lo / 2 ^ (64 - s) := ⟨_, rfl⟩
    obtain ⟨z, hZ⟩ : ∃ z, z = lo * 2 ^ s % 18446744073709551616 := ⟨_, rfl⟩
    rw [← hU] at e4 hu
    rw [← hZ] at e5
    rw [← hY] at hu
    have zb : z < 18446744073709551616 := by omega
    obtain ⟨un1, hun1⟩ : ∃ q, q = z / 4294967296 := ⟨_, rfl⟩
    obtain ⟨un0, hun0⟩ : ∃ q, q = z % 4294967296 := ⟨_, rfl⟩
    have e6 : (z : Int) / 4294967296 = (un1 : Int) := by rw [hun1]; omega
    have e7 : bits .and .u64 (z : Int) 4294967295 = (un0 : Int) := by rw [hun0]; exact maskN z zb
    have k1 : un1 < 4294967296 := by omega
    have k0 : un0 < 4294967296 := by omega
    have hYs : Y = yn1 * 4294967296 + yn0 := by omega
    have hpre : Pre yn1 yn0 u un1 := ⟨n1, n2, n3, by omega, k1⟩
    have hst := Half.start hpre
    have hqb := start_q hpre
    have hrb := start_r hpre
    obtain ⟨qa, hqa⟩ : ∃ q, q = u / yn1 := ⟨_, rfl⟩
    obtain ⟨ra, hra⟩ : ∃ q, q = u % yn1 := ⟨_, rfl⟩
    rw [← hqa] at hst hqb
    rw [← hra] at hst hrb
    have hub : u < 18446744073709551616 := by omega
    have e8 : IntKind.u64.wrap ((u : Int) / (yn1 : Int)) = (qa : Int) := by rw [hqa]; exact wrapN' u yn1 hub
    obtain ⟨pa, hpa⟩ : ∃ q, q = qa * yn1 := ⟨_, rfl⟩
    have hsum := hst.sum
    rw [← hpa] at hsum
    have e9 : IntKind.u64.wrap ((qa : Int) * (yn1 : Int)) = (pa : Int) := by rw [natMul, ← hpa]; exact wrapN pa (by omega)
    have e10 : (u : Int) - (pa : Int) = (ra : Int) := by omega
    have C1 := Lib.hid c1
    have HY := Lib.hid (And.intro hY (And.intro hyn1 hyn0))
    have HU := Lib.hid (And.intro hU (And.intro hZ (And.intro hun1 hun0)))
    have HST := Lib.hid hst
    have HP := Lib.hid hpre
    have HYS := Lib.hid hYs
    have S2 := Lib.hid s2
    have S3 := Lib.hid s3
    clear h0 c1 s2 s3 hY hyn1 hyn0 hU hZ hun1 hun0 hst hpre hYs hqa hra hpa hu hub
    go_enter Try.func53, Try.ntmps53
    go_wp2_with fail
    refine C1.out.mono ?_
    rintro e w1 ⟨rfl, rfl⟩
    go_upto_block 0 with (fail)
    clear e1 e2 e3 e4 e5 e6 e7 e8 e9 e10 hsum
    obtain ⟨Q1, hQ1⟩ : ∃ Q, Q = (u * 4294967296 + un1) / (yn1 * 4294967296 + yn0) := ⟨_, rfl⟩
    have HQ1 := Lib.hid hQ1
    clear hQ1
    go_cut [15, 16] (fun q r wc => q = .int .u64 (Q1 : Int) ∧ (∃ r', r = .int .u64 r') ∧ wc = w)
    case first =>
      go_wp2_with fail
      go_loop [15, 16] (fun vq vr => ∃ q r : Nat, q ≤ 4294967297 ∧ r < 4294967296 ∧ vq = .int .u64 (q : Int) ∧ vr = .int .u64 (r : Int) ∧ Hid (Half yn1 yn0 u un1 q r)) (fun v _ => (intOf v).toNat)
      case atStart => exact ⟨qa, ra, hqb, hrb, rfl, rfl, HST⟩
      case round =>
        obtain ⟨q, r, hq, hr, rfl, rfl, HH⟩ := hrel
        have hm := q_yn0 HP.out hq
        obtain ⟨m, hmm⟩ : ∃ m, m = q * yn0 := ⟨_, rfl⟩
        rw [← hmm] at hm
        have em : IntKind.u64.wrap ((q : Int) * (yn0 : Int)) = (m : Int) := by rw [natMul, ← hmm]; exact wrapN m (by omega)
        have HM := Lib.hid hmm
        clear hmm
        have hq' : (q : Int) ≤ 4294967297 := by omega
        have hr' : (r : Int) < 4294967296 := by omega
        have HQ := Lib.hid (And.intro hq hr)
        by_cases c : 4294967296 ≤ q ∨ 4294967296 * r + un1 < m
        · have HN := Lib.hid (HH.out.next HP.out (by rw [← HM.out]; exact c))
          have hpos := HH.out.pos HP.out (by rw [← HM.out]; exact c)
          have EQ1 := Lib.hid (show ((q - 1 : Nat) : Int) = (q : Int) - 1 by omega)
          by_cases c3 : 4294967296 ≤ r + yn1
          · have HB := Lib.hid (HN.out.broke HP.out (by omega) c3)
            have d3 : decide (4294967296 ≤ (r : Int) + (yn1 : Int)) = true := decide_eq_true (by omega)
            by_cases c1 : 4294967296 ≤ q
            · have d1 : decide (4294967296 ≤ (q : Int)) = true := decide_eq_true (by omega)
              clear c c1 c3 hq hr
              go_wp2_with fail
              go_meet
              case rel => exact ⟨by rw [HQ1.out, ← HB.out, EQ1.out], ⟨_, rfl⟩, rfl⟩
            · have d1 : decide (4294967296 ≤ (q : Int)) = false := decide_eq_false (by omega)
              have d2 : decide (4294967296 * (r : Int) + (un1 : Int) < (m : Int)) = true := decide_eq_true (by omega)
              clear c c1 c3 hq hr
              go_wp2_with fail
              go_meet
              case rel => exact ⟨by rw [HQ1.out, ← HB.out, EQ1.out], ⟨_, rfl⟩, rfl⟩
          · have d3 : decide (4294967296 ≤ (r : Int) + (yn1 : Int)) = false := decide_eq_false (by omega)
            have C3 := Lib.hid c3
            by_cases c1 : 4294967296 ≤ q
            · have d1 : decide (4294967296 ≤ (q : Int)) = true := decide_eq_true (by omega)
              clear c c1 c3 hq hr
              go_wp2_with fail
              go_round
              case rel => exact ⟨q - 1, r + yn1, by have := HQ.out; omega, by have := C3.out; omega, by rw [EQ1.out], by go_num, HN⟩
              case measure => simp [intOf]; omega
            · have d1 : decide (4294967296 ≤ (q : Int)) = false := decide_eq_false (by omega)
              have d2 : decide (4294967296 * (r : Int) + (un1 : Int) < (m : Int)) = true := decide_eq_true (by omega)
              clear c c1 c3 hq hr
              go_wp2_with fail
              go_round
              case rel => exact ⟨q - 1, r + yn1, by have := HQ.out; omega, by have := C3.out; omega, by rw [EQ1.out], by go_num, HN⟩
              case measure => simp [intOf]; omega
        · have HB := Lib.hid (HH.out.done HP.out (by rw [← HM.out]; omega))
          have d1 : decide (4294967296 ≤ (q : Int)) = false := decide_eq_false (by omega)
          have d2 : decide (4294967296 * (r : Int) + (un1 : Int) < (m : Int)) = false := decide_eq_false (by omega)
          clear c hq hr
          go_wp2_with fail
          go_meet
          case rel => exact ⟨by rw [HQ1.out, ← HB.out], ⟨_, rfl⟩, rfl⟩
    case rest =>
      obtain ⟨rfl, ⟨r', rfl⟩, rfl⟩ := hcut
      have hQl : Q1 < 4294967296 := by rw [HQ1.out]; exact quo_lt HP.out
      obtain ⟨un21, hun21⟩ : ∃ q, q = (u * 4294967296 + un1) % (yn1 * 4294967296 + yn0) := ⟨_, rfl⟩
      have hle := left_eq HP.out HQ1.out
      rw [← hun21, ← HYS.out] at hle
      have hul : un21 < Y := by rw [hun21, HYS.out]; exact left_lt HP.out
      have hYl : Y < 18446744073709551616 := S3.out
      have e11 : IntKind.u64.wrap (IntKind.u64.wrap (IntKind.u64.wrap ((u : Int) * 4294967296) + (un1 : Int)) - IntKind.u64.wrap ((Q1 : Int) * (Y : Int))) = (un21 : Int) := by
        rw [natMul Q1 Y]
        generalize Q1 * Y = pq at *
        simp only [IntKind.wrap_u64]; omega
      have hpre2 : Pre yn1 yn0 un21 un0 := ⟨n1, n2, n3, by rw [← HYS.out]; exact hul, k0⟩
      have hst := Half.start hpre2
      have hqb2 := start_q hpre2
      have hrb2 := start_r hpre2
      obtain ⟨qb, hqb'⟩ : ∃ q, q = un21 / yn1 := ⟨_, rfl⟩
      obtain ⟨rb, hrb'⟩ : ∃ q, q = un21 % yn1 := ⟨_, rfl⟩
      rw [← hqb'] at hst hqb2
      rw [← hrb'] at hst hrb2
      have e12 : IntKind.u64.wrap ((un21 : Int) / (yn1 : Int)) = (qb : Int) := by rw [hqb']; exact wrapN' un21 yn1 (by omega)
      obtain ⟨pb, hpb⟩ : ∃ q, q = qb * yn1 := ⟨_, rfl⟩
      have hsum := hst.sum
      rw [← hpb] at hsum
      have e13 : IntKind.u64.wrap ((qb : Int) * (yn1 : Int)) = (pb : Int) := by rw [natMul, ← hpb]; exact wrapN pb (by omega)
      have e14 : (un21 : Int) - (pb : Int) = (rb : Int) := by omega
      obtain ⟨Q0, hQ0⟩ : ∃ Q, Q = (un21 * 4294967296 + un0) / (yn1 * 4294967296 + yn0) := ⟨_, rfl⟩
      have HST2 := Lib.hid hst
      have HP2 := Lib.hid hpre2
      have HU21 := Lib.hid hun21
      have HUL := Lib.hid hul
      have HQ0 := Lib.hid hQ0
      clear hun21 hle hst hpre2 hqb' hrb' hpb hQ0 hul
      go_upto_block 2 with (fail)
      clear e11 e12 e13 e14 hsum
      go_cut [18, 16] (fun q r wc' => q = .int .u64 (Q0 : Int) ∧ (∃ r', r = .int .u64 r') ∧ wc' = wc)
      case first =>
        go_wp2_with fail
        go_loop [18, 16] (fun vq vr => ∃ q r : Nat, q ≤ 4294967297 ∧ r < 4294967296 ∧ vq = .int .u64 (q : Int) ∧ vr = .int .u64 (r : Int) ∧ Hid (Half yn1 yn0 un21 un0 q r)) (fun v _ => (intOf v).toNat)
        case atStart => exact ⟨qb, rb, hqb2, hrb2, rfl, rfl, HST2⟩
        case round =>
          obtain ⟨q, r, hq, hr, rfl, rfl, HH⟩ := hrel
          have hm := q_yn0 HP2.out hq
          obtain ⟨m, hmm⟩ : ∃ m, m = q * yn0 := ⟨_, rfl⟩
          rw [← hmm] at hm
          have em : IntKind.u64.wrap ((q : Int) * (yn0 : Int)) = (m : Int) := by rw [natMul, ← hmm]; exact wrapN m (by omega)
          have HM := Lib.hid hmm
          clear hmm
          have hq' : (q : Int) ≤ 4294967297 := by omega
          have hr' : (r : Int) < 4294967296 := by omega
          have HQ := Lib.hid (And.intro hq hr)
          by_cases c : 4294967296 ≤ q ∨ 4294967296 * r + un0 < m
          · have HN := Lib.hid (HH.out.next HP2.out (by rw [← HM.out]; exact c))
            have hpos := HH.out.pos HP2.out (by rw [← HM.out]; exact c)
            have EQ1 := Lib.hid (show ((q - 1 : Nat) : Int) = (q : Int) - 1 by omega)
            by_cases c3 : 4294967296 ≤ r + yn1
            · have HB := Lib.hid (HN.out.broke HP2.out (by omega) c3)
              have d3 : decide (4294967296 ≤ (r : Int) + (yn1 : Int)) = true := decide_eq_true (by omega)
              by_cases c1 : 4294967296 ≤ q
              · have d1 : decide (4294967296 ≤ (q : Int)) = true := decide_eq_true (by omega)
                clear c c1 c3 hq hr
                go_wp2_with fail
                go_meet
                case rel => exact ⟨by rw [HQ0.out, ← HB.out, EQ1.out], ⟨_, rfl⟩, rfl⟩
              · have d1 : decide (4294967296 ≤ (q : Int)) = false := decide_eq_false (by omega)
                have d2 : decide (4294967296 * (r : Int) + (un0 : Int) < (m : Int)) = true := decide_eq_true (by omega)
                clear c c1 c3 hq hr
                go_wp2_with fail
                go_meet
                case rel => exact ⟨by rw [HQ0.out, ← HB.out, EQ1.out], ⟨_, rfl⟩, rfl⟩
            · have d3 : decide (4294967296 ≤ (r : Int) + (yn1 : Int)) = false := decide_eq_false (by omega)
              have C3 := Lib.hid c3
              by_cases c1 : 4294967296 ≤ q
              · have d1 : decide (4294967296 ≤ (q : Int)) = true := decide_eq_true (by omega)
                clear c c1 c3 hq hr
                go_wp2_with fail
                go_round
                case rel => exact ⟨q - 1, r + yn1, by have := HQ.out; omega, by have := C3.out; omega, by rw [EQ1.out], by go_num, HN⟩
                case measure => simp [intOf]; omega
              · have d1 : decide (4294967296 ≤ (q : Int)) = false := decide_eq_false (by omega)
                have d2 : decide (4294967296 * (r : Int) + (un0 : Int) < (m : Int)) = true := decide_eq_true (by omega)
                clear c c1 c3 hq hr
                go_wp2_with fail
                go_round
                case rel => exact ⟨q - 1, r + yn1, by have := HQ.out; omega, by have := C3.out; omega, by rw [EQ1.out], by go_num, HN⟩
                case measure => simp [intOf]; omega
          · have HB := Lib.hid (HH.out.done HP2.out (by rw [← HM.out]; omega))
            have d1 : decide (4294967296 ≤ (q : Int)) = false := decide_eq_false (by omega)
            have d2 : decide (4294967296 * (r : Int) + (un0 : Int) < (m : Int)) = false := decide_eq_false (by omega)
            clear c hq hr
            go_wp2_with fail
            go_meet
            case rel => exact ⟨by rw [HQ0.out, ← HB.out], ⟨_, rfl⟩, rfl⟩
      case rest =>
        obtain ⟨rfl, ⟨r'', rfl⟩, rfl⟩ := hcut
        have hQl0 : Q0 < 4294967296 := by rw [HQ0.out]; exact quo_lt HP2.out
        obtain ⟨R, hR⟩ : ∃ q, q = (un21 * 4294967296 + un0) % (yn1 * 4294967296 + yn0) := ⟨_, rfl⟩
        have hle := left_eq HP2.out HQ0.out
        rw [← hR, ← HYS.out] at hle
        have hul : R < Y := by rw [hR, HYS.out]; exact left_lt HP2.out
        have e15 : IntKind.u64.wrap (IntKind.u64.wrap (IntKind.u64.wrap ((un21 : Int) * 4294967296) + (un0 : Int)) - IntKind.u64.wrap ((Q0 : Int) * (Y : Int))) = (R : Int) := by
          rw [natMul Q0 Y]
          generalize Q0 * Y = pq at *
          simp only [IntKind.wrap_u64]; omega
        have hfin := div_fin (hi := hi) (lo := lo) (y := y) (R := R) (W := Y) (u := u) (z := z) (un1 := un1) (un0 := un0) (un21 := un21) (Q1 := Q1) (Q0 := Q0) (show s < 64 by omega) HU.out.1 HU.out.2.1 HU.out.2.2.1 HU.out.2.2.2 HY.out.1 (show 0 < Y by omega) (by rw [HYS.out]; exact HU21.out) (by rw [HYS.out]; exact HQ1.out) (by rw [HYS.out]; exact HQ0.out) (by rw [HYS.out]; exact hR)
        have HF := Lib.hid hfin
        have HR2 := Lib.hid (show (R : Int) / 2 ^ s = ((R / 2 ^ s : Nat) : Int) by simp)
        clear hfin hle hR hul
        go_wp2_with fail
        rw [HR2.out, HF.out.2, show (Q1 : Int) * 4294967296 + (Q0 : Int) = ((Q1 * 4294967296 + Q0 : Nat) : Int) by simp, HF.out.1]
        go_ret2
        exact ⟨rfl, 0, rfl⟩
end Go.Proofs.Ytnfbeldiideonaa.FixQ
