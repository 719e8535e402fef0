/- The walk of a reader's Get. -/
import Derived.Test.YtdjnpgkgiofnnaaBitsR
set_option linter.unusedVariables false
set_option linter.unusedSimpArgs false
namespace Go.Proofs.Ytdjnpgkgiofnnaa.BitsG
open Go.RowKit BitsM Base Low BitsW BitsX BitsR

theorem shr_part (x a : Nat) : (x : Int) / 2 ^ a = ((x / 2 ^ a : Nat) : Int) := by simp
theorem mask_part (x s : Nat) (hx : x < 256) (hs : s ≤ 8) : bits BinOp.and IntKind.u32 (x : Int) ((2 ^ s - 1 : Nat) : Int) = ((x % 2 ^ s : Nat) : Int) := by
  have h2 : 2 ^ s ≤ 2 ^ 8 := Nat.pow_le_pow_right (by omega) hs
  have h := u32_and_nat x (2 ^ s - 1) (by omega) (by omega)
  rw [Nat.and_two_pow_sub_one_eq_mod] at h; exact h

theorem mask_eq (x a s : Nat) (hx : x < 256) (hs : s ≤ 8) : bits BinOp.and IntKind.u32 ((x : Int) / 2 ^ a % 4294967296) ((2 ^ s - 1) % 4294967296) = ((x / 2 ^ a % 2 ^ s : Nat) : Int) := by
  have h1 : x / 2 ^ a ≤ x := Nat.div_le_self _ _
  have h2 : 2 ^ s ≤ 2 ^ 8 := Nat.pow_le_pow_right (by omega) hs
  have h3 : 0 < 2 ^ s := Nat.pow_pos (by omega)
  have e1 : (x : Int) / 2 ^ a % 4294967296 = ((x / 2 ^ a : Nat) : Int) := by
    rw [shr_part]; generalize x / 2 ^ a = q at *; omega
  have e2 : ((2 : Int) ^ s - 1) % 4294967296 = ((2 ^ s - 1 : Nat) : Int) := by
    have : ((2 : Int) ^ s) = ((2 ^ s : Nat) : Int) := by simp
    rw [this]; omega
  rw [e1, e2]
  exact mask_part _ s (by omega) hs
theorem or_eq (r y got st z : Nat) (hr : r < 2 ^ got) (hy : y < 2 ^ st) (hg : got + st ≤ 32) (h : r ||| y * 2 ^ got = z) : bits BinOp.or IntKind.u32 (r : Int) ((y : Int) * 2 ^ got % 4294967296) = (z : Int) := by
  have h1 : 2 ^ st * 2 ^ got ≤ 2 ^ 32 := by rw [← Nat.pow_add]; exact Nat.pow_le_pow_right (by omega) (by omega)
  have h2 : (y + 1) * 2 ^ got ≤ 2 ^ st * 2 ^ got := Nat.mul_le_mul_right _ hy
  have h3 : 0 < 2 ^ got := Nat.pow_pos (by omega)
  have h4 : 2 ^ got ≤ 2 ^ 32 := Nat.pow_le_pow_right (by omega) (by omega)
  rw [Nat.add_mul, Nat.one_mul] at h2
  have e1 : (y : Int) * 2 ^ got % 4294967296 = ((y * 2 ^ got : Nat) : Int) := by
    have : (y : Int) * 2 ^ got = ((y * 2 ^ got : Nat) : Int) := by simp
    rw [this]; omega
  rw [e1, u32_or_nat r (y * 2 ^ got) (by omega) (by omega), h]

set_option maxRecDepth 100000 in
set_option maxHeartbeats 2000000 in
theorem get_any (base g p : Nat) (v : Value) (B : List Nat) (w : World) (h : Rd base w g v B p) (k : Nat) (hk : k ≤ 32) (hs : p + k ≤ 8 * B.length) (hB : B.length ≤ 70368744177664) :
    Calls Try.prog 13 #[.pointer (some ⟨g, 0, none⟩), .int .i64 (k : Int)] w (ReadTo base g v B w (.tuple #[.int .u32 ((valB B / 2 ^ p % 2 ^ k : Nat) : Int), .int .i64 0]) (p + k)) := by
  have c0 := (cell_of_row _ _ 0 _ _ _ h.blk)
  have c1 := (cell_of_row _ _ 1 _ _ _ h.blk)
  have c2 := (cell_of_row _ _ 2 _ _ _ h.blk)
  simp only [List.getElem?_toArray, List.getElem?_cons_succ, List.getElem?_cons_zero] at c0 c1 c2
  have hH := Lib.hid h
  have hok := h.ok
  obtain ⟨a, cap, rfl, -, -, -⟩ := h.own.nums.shape
  have d1 : decide ((k : Int) < 0) = false := by simp
  have d2 : decide ((32 : Int) < (k : Int)) = false := by simp; omega
  have e1 : IntKind.i64.wrap ((B.length : Int) * 8) = ((8 * B.length : Nat) : Int) := by rw [IntWalk.i64_in _ (by omega)]; omega
  have e2 : IntKind.i64.wrap (((8 * B.length : Nat) : Int) - (p : Int)) = ((8 * B.length - p : Nat) : Int) := by rw [IntWalk.i64_in _ (by omega)]; omega
  have d3 : decide (((8 * B.length - p : Nat) : Int) < (k : Int)) = false := by simp; omega
  clear h
  go_enter Try.func13, Try.ntmps13
  go_wp2
  go_quiet (fail)
  clear e1 e2 d3 c1 c2
  go_wp2
  go_loopg [6, 7] k (fun r n1 n2 wr => ∃ got : Nat, got + r = k ∧ n2 = .int .i64 (got : Int) ∧ n1 = .int .u32 ((valB B / 2 ^ p % 2 ^ got : Nat) : Int) ∧ Rd base wr g (.slice a B.length cap) B (p + got) ∧ Keeps (fun k => k = g) w wr)
  case atStart => exact ⟨0, by omega, rfl, by simp [Nat.mod_one], by simpa using hH.out.drewN _, keeps_drewN (Keeps.refl _ _) _⟩
  case round =>
    obtain ⟨got, hgr, rfl, rfl, hrd, hkp⟩ := hrel
    have hG := Lib.hid hgr
    have hgk : got ≤ k := by omega
    have hR := Lib.hid hrd
    have hK := Lib.hid hkp
    clear hgr hrd hkp
    by_cases hpos : got < k
    · have c1 := (cell_of_row _ _ 1 _ _ _ hR.out.blk)
      have c2 := (cell_of_row _ _ 2 _ _ _ hR.out.blk)
      have f2 := frozen_of_row _ _ 2 _ _ hR.out.blk
      simp only [List.getElem?_toArray, List.getElem?_cons_succ, List.getElem?_cons_zero] at c1 c2
      obtain ⟨b, cap', e, -, -, -, hcl, -, -⟩ := hR.out.own.at_ (by omega)
      simp only [Value.slice.injEq] at e
      obtain ⟨rfl, -, rfl⟩ := e
      obtain ⟨at_, hat⟩ : ∃ a, a = (p + got) % 8 := ⟨_, rfl⟩
      obtain ⟨st, hst⟩ : ∃ s, s = min (8 - at_) (k - got) := ⟨_, rfl⟩
      have hidx : (p + got) / 8 < B.length := by omega
      have c3 := hcl ((p + got) / 8) hidx
      have hx := hR.out.own.bound _ (List.getElem_mem hidx)
      have hv := valB_at B hR.out.own.bound ((p + got) / 8) hidx
      have hpart := byte_part (valB B) (p + got) st (by omega)
      rw [hv, ← hat] at hpart
      have hor := part_or (valB B / 2 ^ p) got st
      rw [Nat.div_div_eq_div_mul, ← Nat.pow_add, ← hpart] at hor
      have hHX := Lib.hid (And.intro hat (And.intro hst hor))
      have ha8 : at_ < 8 := by omega
      have hs1 : 1 ≤ st := by omega
      have hle1 : got + st ≤ k := by omega
      have hle2 : p + got + st ≤ 8 * B.length := by omega
      have hs8 : st ≤ 8 := by omega
      clear hat hst hor hv hpart hcl
      generalize B[(p + got) / 8] = x at *
      have hin := fun W (hc : W.cell? ⟨g, 2, none⟩ = some (.int .i64 ((p + got : Nat) : Int))) => inside_at g (p + got) at_ (by have := hHX.out.1; omega) (by omega) W hc
      have hI := Lib.hid hin
      have hpg : p + got ≤ 562949953421312 := by omega
      clear hin
      obtain ⟨r0, hr0⟩ : ∃ r0, r0 = valB B / 2 ^ p % 2 ^ got := ⟨_, rfl⟩
      rw [← hr0] at hHX ⊢
      have hr32 : r0 < 2 ^ got := by rw [hr0]; exact Nat.mod_lt _ (Nat.pow_pos (by omega))
      have hR0 := Lib.hid hr0
      have hR1 := Lib.hid hr32
      obtain ⟨P, hP⟩ : ∃ P, P = p + got := ⟨_, rfl⟩
      rw [← hP] at c2 c3 hI hidx hpg hHX hR hle2
      have hP1 := Lib.hid hP
      have e3 : IntKind.i64.wrap ((P : Int).tdiv 8) = ((P / 8 : Nat) : Int) := by rw [IntWalk.i64_quo _ _ (by omega)]; omega
      have hx8 : x / 2 ^ at_ ≤ x := Nat.div_le_self _ _
      have hi2 : ((P / 8 : Nat) : Int) < (B.length : Int) := by omega
      clear hr0 hr32 hP hok hs
      rcases (show (st = k - got ∧ (k : Int) - got < 8 - at_) ∨ (st = 8 - at_ ∧ 8 - at_ ≤ (k : Int) - got) from by have := hHX.out.2.1; omega) with ⟨hsg, hle⟩ | ⟨hsg, hle⟩
      · have hSg := Lib.hid hsg
        clear hsg
        go_upto_region 12 with (go_at_call 16; refine (hI.out _ c2).mono ?_; rintro e w1 ⟨rfl, rfl⟩)
        rw [show (k : Int) - (got : Int) = (st : Int) from by have := hSg.out; omega] at hle ⊢
        go_quiet (fail)
        rw [mask_eq x at_ st hx hs8]
        obtain ⟨W, hW⟩ : ∃ W, W = wr.drewN nq := ⟨_, rfl⟩
        rw [← hW]
        have hRW : Rd base W g (.slice (some ⟨b, 0, none⟩) B.length cap) B P := by rw [hW]; exact hR.out.drewN nq
        have hKW : Keeps (fun k => k = g) w W := by rw [hW]; exact keeps_drewN hK.out nq
        have hd2 := (cell_of_row _ _ 2 _ _ _ hRW.blk)
        have hf2 := frozen_of_row _ _ 2 _ _ hRW.blk
        simp only [List.getElem?_toArray, List.getElem?_cons_succ, List.getElem?_cons_zero] at hd2
        have hy : x / 2 ^ at_ % 2 ^ st < 2 ^ st := Nat.mod_lt _ (Nat.pow_pos (by omega))
        have ho := or_eq r0 _ got st _ hR1.out hy (by omega) hHX.out.2.2
        have hset := hRW.set (P + st) (by have := hP1.out; omega)
        have hS := Lib.hid (And.intro hset hKW)
        clear hW hset hKW hRW c1 c2 c3 f2 hR hI hHX hy e3
        generalize x / 2 ^ at_ % 2 ^ st = y at *
        go_wp2
        go_roundg (k - got - st)
        case measure => have := hG.out; omega
        case rel =>
          have hS2 := hS.out
          rw [show ((P + st : Nat) : Int) = (P : Int) + st from by omega] at hS2
          exact ⟨got + st, by omega, by go_num, rfl, by rw [show p + (got + st) = P + st from by have := hP1.out; omega]; exact hS2.1.1, hS2.2.trans hS2.1.2 (fun k hk => .inl hk)⟩
      · have hSg := Lib.hid hsg
        clear hsg
        go_upto_region 12 with (go_at_call 16; refine (hI.out _ c2).mono ?_; rintro e w1 ⟨rfl, rfl⟩)
        rw [show (8 : Int) - (at_ : Int) = (st : Int) from by have := hSg.out; omega] at hle ⊢
        go_quiet (fail)
        rw [mask_eq x at_ st hx hs8]
        obtain ⟨W, hW⟩ : ∃ W, W = wr.drewN nq := ⟨_, rfl⟩
        rw [← hW]
        have hRW : Rd base W g (.slice (some ⟨b, 0, none⟩) B.length cap) B P := by rw [hW]; exact hR.out.drewN nq
        have hKW : Keeps (fun k => k = g) w W := by rw [hW]; exact keeps_drewN hK.out nq
        have hd2 := (cell_of_row _ _ 2 _ _ _ hRW.blk)
        have hf2 := frozen_of_row _ _ 2 _ _ hRW.blk
        simp only [List.getElem?_toArray, List.getElem?_cons_succ, List.getElem?_cons_zero] at hd2
        have hy : x / 2 ^ at_ % 2 ^ st < 2 ^ st := Nat.mod_lt _ (Nat.pow_pos (by omega))
        have ho := or_eq r0 _ got st _ hR1.out hy (by omega) hHX.out.2.2
        have hset := hRW.set (P + st) (by have := hP1.out; omega)
        have hS := Lib.hid (And.intro hset hKW)
        clear hW hset hKW hRW c1 c2 c3 f2 hR hI hHX hy e3
        generalize x / 2 ^ at_ % 2 ^ st = y at *
        go_wp2
        go_roundg (k - got - st)
        case measure => have := hG.out; omega
        case rel =>
          have hS2 := hS.out
          rw [show ((P + st : Nat) : Int) = (P : Int) + st from by omega] at hS2
          exact ⟨got + st, by omega, by go_num, rfl, by rw [show p + (got + st) = P + st from by have := hP1.out; omega]; exact hS2.1.1, hS2.2.trans hS2.1.2 (fun k hk => .inl hk)⟩
    · obtain rfl : got = k := by omega
      go_wp2
      go_ret2
      exact ⟨rfl, hR.out, hK.out⟩
end Go.Proofs.Ytdjnpgkgiofnnaa.BitsG
