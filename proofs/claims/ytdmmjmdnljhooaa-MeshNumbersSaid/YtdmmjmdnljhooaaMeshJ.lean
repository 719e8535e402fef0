/- Numbers read of bytes: mesh.Read's take, ref12's number. -/
import Derived.Test.YtdmmjmdnljhooaaMeshI
set_option linter.unusedVariables false
set_option linter.unusedSimpArgs false
namespace Go.Proofs.Ytdmmjmdnljhooaa.MeshJ
open Go.RowKit Go.Sort FixM Base Num Qb Qt VecW VecV VecU LightQ LightC MeshM Rec MeshA MeshB MeshC MeshD MeshE MeshF MeshG MeshH

/-- the number of k bytes from place p on -/
def numF (B : List Nat) (p : Nat) : Nat → Nat
  | 0 => 0
  | k + 1 => numF B p k * 256 + B.getD (p + k) 0
theorem numF_lt (B : List Nat) (hB : ∀ x ∈ B, x < 256) (p k : Nat) : numF B p k < 256 ^ k := by
  induction k with
  | zero => simp [numF]
  | succ k ih =>
    have h : B.getD (p + k) 0 < 256 := by
      rw [List.getD_eq_getElem?_getD]
      by_cases hj : p + k < B.length
      · rw [List.getElem?_eq_getElem hj]; exact hB _ (List.getElem_mem hj)
      · rw [List.getElem?_eq_none (by omega)]; simp
    unfold numF; rw [Nat.pow_succ]; omega
theorem numF_small (B : List Nat) (hB : ∀ x ∈ B, x < 256) (p k : Nat) (hk : k ≤ 7) : numF B p k < 72057594037927936 := by
  have h1 := numF_lt B hB p k
  have h2 : 256 ^ k ≤ 256 ^ 7 := Nat.pow_le_pow_right (by decide) hk
  have h3 : (256 : Nat) ^ 7 = 72057594037927936 := by decide
  omega
theorem numF_64 (B : List Nat) (hB : ∀ x ∈ B, x < 256) (p k : Nat) (hk : k ≤ 8) : numF B p k < 18446744073709551616 := by
  have h1 := numF_lt B hB p k
  have h2 : 256 ^ k ≤ 256 ^ 8 := Nat.pow_le_pow_right (by decide) hk
  have h3 : (256 : Nat) ^ 8 = 18446744073709551616 := by decide
  omega
theorem or_next (N y : Nat) (hN : N < 72057594037927936) (hy : y < 256) : bits BinOp.or IntKind.u64 ((N : Int) * 256) (y : Int) = ((N * 256 + y : Nat) : Int) := by
  have h := bits_or_u64_nat (N * 256) y (by omega) (by omega)
  have e : N * 256 ||| y = N * 256 + y := by
    have := Nat.two_pow_add_eq_or_of_lt (i := 8) (b := y) (by simpa using hy) N
    rw [show (2 : Nat) ^ 8 * N = N * 256 by omega] at this
    exact this.symm
  rw [e] at h
  rw [← h]; simp
set_option maxRecDepth 100000 in
set_option maxHeartbeats 2000000 in
theorem number_any (w : World) (v : Value) (B : List Nat) (p k : Nat) (hv : Nums .u8 256 w v B) (hk : k ≤ 8) (hp : p + k ≤ B.length) (hB : B.length ≤ 1000000000) :
    Calls Try.prog 39 #[v, .int .i64 (p : Int), .int .i64 (k : Int)] w (fun e w' => e = .returned (.int .u64 ((numF B p k : Nat) : Int)) ∧ w = w') := by
  obtain ⟨a, cap, rfl, -, -⟩ := hv.shape
  have HV := Lib.hid hv
  clear hv
  go_enter Try.func39, Try.ntmps39
  go_wp2_with fail
  go_loopg [7, 8] k (fun r n7 n8 wr => ∃ i : Nat, i + r = k ∧ n7 = .int .u64 ((numF B p i : Nat) : Int) ∧ n8 = .int .i64 (i : Int) ∧ w = wr)
  case atStart => exact ⟨0, by omega, rfl, rfl, rfl⟩
  case round =>
    obtain ⟨i, hir, rfl, rfl, rfl⟩ := hrel
    by_cases hi : i < k
    · obtain ⟨b, off, cap', e, hb, hc⟩ := HV.out.cells (by intro h0; subst h0; simp at hp; omega)
      simp only [Value.slice.injEq] at e
      obtain ⟨rfl, -, rfl⟩ := e
      have c0 := hc (p + i) (by omega)
      obtain ⟨y, hy⟩ : ∃ y, y = B[p + i] := ⟨_, rfl⟩
      rw [← hy] at c0
      have hy256 : y < 256 := by rw [hy]; exact HV.out.bound _ (List.getElem_mem _)
      obtain ⟨N, hN⟩ : ∃ N, N = numF B p i := ⟨_, rfl⟩
      have hNs : N < 72057594037927936 := by rw [hN]; exact numF_small B HV.out.bound p i (by omega)
      have hnx : numF B p (i + 1) = N * 256 + y := by
        have e1 : numF B p (i + 1) = numF B p i * 256 + B.getD (p + i) 0 := rfl
        rw [e1, hN, hy, List.getD_eq_getElem?_getD, List.getElem?_eq_getElem (by omega)]; rfl
      rw [← hN]
      have HNX := Lib.hid hnx
      have d3 : decide (i < k) = true := decide_eq_true hi
      have d2 : decide ((i : Int) < (k : Int)) = true := decide_eq_true (by omega)
      have wi : IntKind.i64.wrap ((p : Int) + (i : Int)) = ((p + i : Nat) : Int) := by rw [wrap_in (by omega) (by omega)]; omega
      obtain ⟨q, hq⟩ : ∃ q, q = p + i := ⟨_, rfl⟩
      rw [← hq] at wi c0
      have hql : (q : Int) < (B.length : Int) := by omega
      have hql2 : q < B.length := by omega
      have w1 : IntKind.u64.wrap (256 * (N : Int)) = 256 * (N : Int) := by rw [u64N_wrap]; unfold u64N; omega
      have w2 : IntKind.u64.wrap (y : Int) = (y : Int) := by rw [u64N_wrap]; unfold u64N; omega
      have w3 : IntKind.u64.wrap (256 * (N : Int) + (y : Int)) = 256 * (N : Int) + (y : Int) := by rw [u64N_wrap]; unfold u64N; omega
      clear hN hnx hy hq hc
      go_wp2_with fail
      go_roundg (k - (i + 1))
      case measure => omega
      case rel => exact ⟨i + 1, by omega, by rw [HNX.out]; congr 1; omega, by go_num, rfl⟩
    · have d3 : decide (i < k) = false := decide_eq_false hi
      have d2 : decide ((i : Int) < (k : Int)) = false := decide_eq_false (by omega)
      go_wp2_with fail
      go_ret
      exact ⟨by rw [show i = k by omega]; rfl, rfl⟩
/-- what take leaves -/
def TkTo (w : World) (ga : Nat) (B : List Nat) (p k : Nat) (e : Ending) (w' : World) : Prop := e = .returned (.int .u64 ((numF B p k : Nat) : Int)) ∧ w' = w.setCell ⟨ga, 0, none⟩ (.int .i64 ((p + k : Nat) : Int))
set_option maxRecDepth 100000 in
set_option maxHeartbeats 2000000 in
theorem take_any (w : World) (gb ga : Nat) (v : Value) (B : List Nat) (p k : Nat) (hv : Nums .u8 256 w v B) (h1 : w.heap[gb]? = some (.cells #[v] 33)) (h2 : w.heap[ga]? = some (.cells #[.int .i64 (p : Int)] 3)) (hk0 : 1 ≤ k) (hk : k ≤ 8) (hp : p + k ≤ B.length) (hB : B.length ≤ 1000000000) :
    Calls Try.prog 36 #[.int .i64 (k : Int), .pointer (some ⟨gb, 0, none⟩), .pointer (some ⟨ga, 0, none⟩)] w (TkTo w ga B p k) := by
  obtain ⟨b, off, cap, rfl, hb, hc⟩ := hv.cells (by intro h0; subst h0; simp at hp; omega)
  obtain ⟨_, cap', e, hcap, hmx, -⟩ := hv.shape
  simp only [Value.slice.injEq] at e
  obtain ⟨-, -, rfl⟩ := e
  have c1 := cell_row h1 0 _ rfl
  have c2 := cell_row h2 0 _ rfl
  have f2 := frozen_of_row _ _ 0 _ _ h2
  have HV := Lib.hid hv
  have HC := Lib.hid hc
  have HM := Lib.hid hmx
  have wi : IntKind.i64.wrap ((p : Int) + (k : Int)) = (p : Int) + (k : Int) := wrap_in (by omega) (by omega)
  have g1 : (0 : Int) ≤ (p : Int) := by omega
  have g2 : (p : Int) ≤ (p : Int) + (k : Int) := by omega
  have g3 : (p : Int) + (k : Int) ≤ (cap : Int) := by omega
  clear hv hc h1 h2 hmx
  go_enter Try.func36, Try.ntmps36
  have hpk : p + k - p = k := by omega
  go_wp2_with fail
  clear c1 wi g1 g2 g3 hpk
  go_loopg [5, 15] k (fun r n7 n8 wr => ∃ i : Nat, i + r = k ∧ n7 = .int .u64 ((numF B p i : Nat) : Int) ∧ n8 = .int .i64 (i : Int) ∧ w = wr)
  case atStart => exact ⟨0, by omega, rfl, rfl, rfl⟩
  case round =>
    obtain ⟨i, hir, rfl, rfl, rfl⟩ := hrel
    by_cases hi : i < k
    · have c0 := HC.out (p + i) (by omega)
      rw [← Nat.add_assoc] at c0
      obtain ⟨y, hy⟩ : ∃ y, y = B[p + i] := ⟨_, rfl⟩
      rw [← hy] at c0
      have hy256 : y < 256 := by rw [hy]; exact HV.out.bound _ (List.getElem_mem _)
      obtain ⟨N, hN⟩ : ∃ N, N = numF B p i := ⟨_, rfl⟩
      have hNs : N < 72057594037927936 := by rw [hN]; exact numF_small B HV.out.bound p i (by omega)
      have hnx : numF B p (i + 1) = N * 256 + y := by
        have e1 : numF B p (i + 1) = numF B p i * 256 + B.getD (p + i) 0 := rfl
        rw [e1, hN, hy, List.getD_eq_getElem?_getD, List.getElem?_eq_getElem (by omega)]; rfl
      rw [← hN]
      have HNX := Lib.hid hnx
      have d3 : decide (i < k) = true := decide_eq_true hi
      have d2 : decide ((i : Int) < (k : Int)) = true := decide_eq_true (by omega)
      have hil : (i : Int) < (k : Int) := by omega
      have ho := or_next N y hNs hy256
      obtain ⟨M, hM⟩ : ∃ M, M = N * 256 + y := ⟨_, rfl⟩
      rw [← hM] at ho HNX
      clear hN hnx hy hM
      go_wp2_with fail
      go_roundg (k - (i + 1))
      case measure => omega
      case rel => exact ⟨i + 1, by omega, by rw [HNX.out], by go_num, rfl⟩
    · have d3 : decide (i < k) = false := decide_eq_false hi
      have d2 : decide ((i : Int) < (k : Int)) = false := decide_eq_false (by omega)
      have wi : IntKind.i64.wrap ((p : Int) + (k : Int)) = ((p + k : Nat) : Int) := by rw [wrap_in (by omega) (by omega)]; omega
      obtain ⟨q, hq⟩ : ∃ q, q = p + k := ⟨_, rfl⟩
      have HQ := Lib.hid hq
      rw [← hq] at wi
      clear hq
      go_wp2_with fail
      go_ret
      exact ⟨by rw [show i = k by omega]; rfl, by rw [← HQ.out]⟩
end Go.Proofs.Ytdmmjmdnljhooaa.MeshJ
