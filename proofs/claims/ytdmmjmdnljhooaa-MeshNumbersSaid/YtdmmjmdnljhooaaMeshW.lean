/- Plain: a mesh's bytes read give the mesh back; what is read has these bytes; a box holds its points. -/
import Derived.Test.YtdmmjmdnljhooaaMeshL
import Derived.Test.YtdmmjmdnljhooaaMeshP
set_option linter.unusedVariables false
set_option linter.unusedSimpArgs false
namespace Go.Proofs.Ytdmmjmdnljhooaa.MeshW
open FixM VecW MeshM MeshF MeshG MeshJ MeshK MeshL

/-- k bytes from place p on -/
def seg (B : List Nat) (p k : Nat) : List Nat := (B.drop p).take k
theorem seg_add (B : List Nat) (p a b : Nat) : seg B p (a + b) = seg B p a ++ seg B (p + a) b := by
  unfold seg
  rw [List.take_add, List.drop_drop]
theorem seg_succ (B : List Nat) (p k : Nat) (h : p + k < B.length) : seg B p (k + 1) = seg B p k ++ [B.getD (p + k) 0] := by
  rw [seg_add]
  congr 1
  unfold seg
  rw [List.drop_eq_getElem_cons h, List.take_succ_cons, List.take_zero]
  simp [h]
theorem seg_len (B : List Nat) (p k : Nat) (h : p + k ≤ B.length) : (seg B p k).length = k := by unfold seg; rw [List.length_take, List.length_drop]; omega
theorem seg_all (B : List Nat) : seg B 0 B.length = B := by unfold seg; simp
theorem beL_snoc (x : Nat) : ∀ n, beL x (n + 1) = beL (x / 256) n ++ [x % 256] := by
  intro n
  induction n with
  | zero => simp [beL]
  | succ n ih =>
    rw [beL, ih]
    have : x / 256 ^ (n + 1) % 256 = x / 256 / 256 ^ n % 256 := by rw [Nat.pow_succ, Nat.mul_comm, Nat.div_div_eq_div_mul]
    rw [this]
    rfl
theorem getD_lt (B : List Nat) (hB : ∀ x ∈ B, x < 256) (i : Nat) : B.getD i 0 < 256 := by
  rw [List.getD_eq_getElem?_getD]
  by_cases hj : i < B.length
  · rw [List.getElem?_eq_getElem hj]; exact hB _ (List.getElem_mem hj)
  · rw [List.getElem?_eq_none (by omega)]; simp
theorem be_num (B : List Nat) (hB : ∀ x ∈ B, x < 256) (p : Nat) : ∀ k, p + k ≤ B.length → beL (numF B p k) k = seg B p k := by
  intro k
  induction k with
  | zero => intro _; simp [beL, seg]
  | succ k ih =>
    intro h
    have hy := getD_lt B hB (p + k)
    rw [beL_snoc, numF, seg_succ B p k (by omega), ← ih (by omega)]
    congr 1
    · congr 1; omega
    · congr 1; omega
theorem num_be (B : List Nat) (p : Nat) : ∀ k x, p + k ≤ B.length → seg B p k = beL x k → numF B p k = x % 256 ^ k := by
  intro k
  induction k with
  | zero => intro x _ _; simp [numF, Nat.mod_one]
  | succ k ih =>
    intro x h e
    rw [seg_succ B p k (by omega), beL_snoc] at e
    have e' := List.append_inj e (by rw [seg_len B p k (by omega), beL_len])
    rw [numF, ih (x / 256) (by omega) e'.1]
    have : B.getD (p + k) 0 = x % 256 := by simpa using e'.2
    rw [this, Nat.pow_succ, Nat.mul_comm (256 ^ k) 256, Nat.mod_mul]
    omega
theorem u64_i64 (n : Nat) (h : n < 18446744073709551616) : u64N (i64F n) = n := by
  unfold u64N i64F
  show ((if IntKind.i64.signed && decide ((n : Int) % 18446744073709551616 ≥ 9223372036854775808) then (n : Int) % 18446744073709551616 - 18446744073709551616 else (n : Int) % 18446744073709551616) % 18446744073709551616).toNat = n
  split <;> omega
theorem i64_u64 (x : Int) (h : In x) : i64F (u64N x) = x := by
  obtain ⟨h1, h2⟩ := h
  unfold i64F
  have hu : ((u64N x : Nat) : Int) = x % 18446744073709551616 := by unfold u64N; omega
  rw [hu]
  show (if IntKind.i64.signed && decide (x % 18446744073709551616 % 18446744073709551616 ≥ 9223372036854775808) then x % 18446744073709551616 % 18446744073709551616 - 18446744073709551616 else x % 18446744073709551616 % 18446744073709551616) = x
  simp only [IntKind.signed, Bool.true_and, decide_eq_true_eq]
  split <;> omega
theorem i64_small (n : Nat) (h : n < 9223372036854775808) : i64F n = (n : Int) := by
  have := i64_u64 (n : Int) ⟨by omega, by omega⟩
  have e : u64N (n : Int) = n := by unfold u64N; omega
  rwa [e] at this
theorem num8 (B : List Nat) (hB : ∀ x ∈ B, x < 256) (p : Nat) : numF B p 8 < 18446744073709551616 := numF_64 B hB p 8 (by decide)
/-! what is read has these bytes -/
theorem be_vec (B : List Nat) (hB : ∀ x ∈ B, x < 256) (p : Nat) (h : p + 24 ≤ B.length) : be3 (vecF B p) = seg B p 24 := by
  unfold be3 vecF
  dsimp only
  rw [u64_i64 _ (num8 B hB p), u64_i64 _ (num8 B hB (p + 8)), u64_i64 _ (num8 B hB (p + 16)), be_num B hB p 8 (by omega), be_num B hB (p + 8) 8 (by omega), be_num B hB (p + 16) 8 (by omega)]
  rw [show 24 = 8 + 8 + 8 from rfl, seg_add, seg_add]
theorem be_tri (B : List Nat) (hB : ∀ x ∈ B, x < 256) (p : Nat) (h : p + 12 ≤ B.length) : be3t (MeshL.triF B p) = seg B p 12 := by
  unfold be3t MeshL.triF
  dsimp only
  have h0 := num4_lt B hB p
  have h1 := num4_lt B hB (p + 4)
  have h2 := num4_lt B hB (p + 8)
  rw [u64_i64 _ (by omega), u64_i64 _ (by omega), u64_i64 _ (by omega), be_num B hB p 4 (by omega), be_num B hB (p + 4) 4 (by omega), be_num B hB (p + 8) 4 (by omega)]
  rw [show 12 = 4 + 4 + 4 from rfl, seg_add, seg_add]
theorem be_bal (B : List Nat) (hB : ∀ x ∈ B, x < 256) (p : Nat) (h : p + 32 ≤ B.length) : be4 (balF B p) = seg B p 32 := by
  unfold be4 balF
  dsimp only
  rw [be_vec B hB p (by omega), u64_i64 _ (num8 B hB (p + 24)), be_num B hB (p + 24) 8 (by omega)]
  rw [show 32 = 24 + 8 from rfl, seg_add]
theorem be_ps (B : List Nat) (hB : ∀ x ∈ B, x < 256) : ∀ n, 12 + 24 * n ≤ B.length → (psF B n).flatMap be3 = seg B 12 (24 * n) := by
  intro n
  induction n with
  | zero => intro _; simp [psF, seg]
  | succ n ih =>
    intro h
    rw [psF_next, List.flatMap_append, ih (by omega), List.flatMap_singleton, be_vec B hB _ (by omega), Nat.mul_add, Nat.mul_one, seg_add]
theorem be_ts (B : List Nat) (hB : ∀ x ∈ B, x < 256) (o : Nat) : ∀ n, o + 12 * n ≤ B.length → (tsF B o n).flatMap be3t = seg B o (12 * n) := by
  intro n
  induction n with
  | zero => intro _; simp [tsF, seg]
  | succ n ih =>
    intro h
    rw [tsF_next, List.flatMap_append, ih (by omega), List.flatMap_singleton, be_tri B hB _ (by omega), Nat.mul_add, Nat.mul_one, seg_add]
theorem be_bs (B : List Nat) (hB : ∀ x ∈ B, x < 256) (o : Nat) : ∀ n, o + 32 * n ≤ B.length → (bsF B o n).flatMap be4 = seg B o (32 * n) := by
  intro n
  induction n with
  | zero => intro _; simp [bsF, seg]
  | succ n ih =>
    intro h
    rw [bsF_next, List.flatMap_append, ih (by omega), List.flatMap_singleton, be_bal B hB _ (by omega), Nat.mul_add, Nat.mul_one, seg_add]
theorem read_back (B : List Nat) (hB : ∀ x ∈ B, x < 256) (h : codeF B = 0) : checkF (readF B) = 0 ∧ outF (readF B) = B := by
  have hr : readF B = meshOf B := by unfold readF; rw [if_pos h]
  have hc := h
  unfold codeF at hc
  split at hc
  · cases hc
  split at hc
  · cases hc
  split at hc
  · cases hc
  split at hc
  · cases hc
  have hs : sizeF B = B.length := by omega
  rw [hr]
  refine ⟨hc, ?_⟩
  unfold outF
  rw [if_pos hc]
  unfold bytesF meshOf
  dsimp only
  unfold sizeF at hs
  rw [psF_len, tsF_len, bsF_len, be_num B hB 0 4 (by omega), be_num B hB 4 4 (by omega), be_num B hB 8 4 (by omega), be_ps B hB _ (by omega), be_ts B hB _ _ (by omega), be_bs B hB _ _ (by omega)]
  have e := seg_all B
  rw [← hs] at e
  conv => rhs; rw [← e]
  rw [seg_add, seg_add, seg_add, show 12 = 4 + 4 + 4 from rfl, seg_add B 0 (4 + 4) 4, seg_add B 0 4 4]
  simp only [Nat.zero_add]
/-! a mesh's bytes read give the mesh back -/
theorem seg_left (A B : List Nat) (p k : Nat) (h : p + k ≤ A.length) : seg (A ++ B) p k = seg A p k := by
  unfold seg
  rw [List.drop_append_of_le_length (by omega), List.take_append_of_le_length (by rw [List.length_drop]; omega)]
theorem seg_right (A B : List Nat) (p k : Nat) (h : A.length ≤ p) : seg (A ++ B) p k = seg B (p - A.length) k := by
  unfold seg
  rw [List.drop_append, List.drop_eq_nil_of_le h, List.nil_append]
theorem seg_flat {α : Type} {f : α → List Nat} {c : Nat} (hf : ∀ x, (f x).length = c) : ∀ (l : List α) (i : Nat) (h : i < l.length), seg (l.flatMap f) (c * i) c = f l[i] := by
  intro l
  induction l with
  | nil => intro i h; simp at h
  | cons x l ih =>
    intro i h
    rw [List.flatMap_cons]
    cases i with
    | zero =>
      rw [Nat.mul_zero, seg_left _ _ _ _ (by rw [hf]; omega)]
      have := seg_all (f x)
      rw [hf] at this
      rw [this]; rfl
    | succ i =>
      rw [seg_right _ _ _ _ (by rw [hf, Nat.mul_add]; omega), hf, show c * (i + 1) - c = c * i by rw [Nat.mul_add]; omega, ih i (by simpa using h)]
      rfl
theorem vec_of_seg (B : List Nat) (p : Nat) (v : V3) (hv : v.ok) (h : p + 24 ≤ B.length) (e : seg B p 24 = be3 v) : vecF B p = v := by
  obtain ⟨x, y, z⟩ := v
  obtain ⟨hx, hy, hz⟩ := hv
  rw [show 24 = 8 + 8 + 8 from rfl, seg_add, seg_add] at e
  unfold be3 at e
  have e1 := List.append_inj e (by simp only [List.length_append, beL_len]; rw [seg_len _ _ _ (by omega), seg_len _ _ _ (by omega)])
  have e2 := List.append_inj e1.1 (by rw [seg_len _ _ _ (by omega), beL_len])
  have n0 := num_be B p 8 _ (by omega) e2.1
  have n1 := num_be B (p + 8) 8 _ (by omega) e2.2
  have n2 := num_be B (p + 16) 8 _ (by omega) e1.2
  have hp : (256 : Nat) ^ 8 = 18446744073709551616 := by decide
  rw [hp, Nat.mod_eq_of_lt (u64N_lt _)] at n0 n1 n2
  unfold vecF
  rw [n0, n1, n2, i64_u64 _ hx, i64_u64 _ hy, i64_u64 _ hz]
theorem num4_of (B : List Nat) (p : Nat) (x : Int) (h0 : 0 ≤ x) (h1 : x < 4096) (h : p + 4 ≤ B.length) (e : seg B p 4 = beL (u64N x) 4) : i64F (numF B p 4) = x := by
  have n0 := num_be B p 4 _ h e
  have hp : (256 : Nat) ^ 4 = 4294967296 := by decide
  have hu : u64N x = x.toNat := by unfold u64N; omega
  rw [hp, hu, Nat.mod_eq_of_lt (by omega)] at n0
  rw [n0, i64_small _ (by omega)]
  omega
theorem tri_of_seg (B : List Nat) (p n : Nat) (v : V3) (hn : n ≤ 4096) (hv : hasF n v = true) (h : p + 12 ≤ B.length) (e : seg B p 12 = be3t v) : MeshL.triF B p = v := by
  obtain ⟨x, y, z⟩ := v
  simp only [hasF, placeI, Bool.and_eq_true, decide_eq_true_eq] at hv
  obtain ⟨⟨⟨x0, x1⟩, y0, y1⟩, z0, z1⟩ := hv
  rw [show 12 = 4 + 4 + 4 from rfl, seg_add, seg_add] at e
  unfold be3t at e
  have e1 := List.append_inj e (by simp only [List.length_append, beL_len]; rw [seg_len _ _ _ (by omega), seg_len _ _ _ (by omega)])
  have e2 := List.append_inj e1.1 (by rw [seg_len _ _ _ (by omega), beL_len])
  unfold MeshL.triF
  rw [num4_of B p x x0 (by omega) (by omega) e2.1, num4_of B (p + 4) y y0 (by omega) (by omega) e2.2, num4_of B (p + 8) z z0 (by omega) (by omega) e1.2]
theorem near_in {x : Int} (h : nearI x = true) : In x := by
  simp only [nearI, Bool.and_eq_true, decide_eq_true_eq] at h
  exact ⟨by omega, by omega⟩
theorem near_ok {v : V3} (h : nearV v = true) : v.ok := by
  simp only [nearV, Bool.and_eq_true] at h
  exact ⟨near_in h.1.1, near_in h.1.2, near_in h.2⟩
theorem bal_of_seg (B : List Nat) (p : Nat) (b : B4) (hv : ballF b = true) (h : p + 32 ≤ B.length) (e : seg B p 32 = be4 b) : balF B p = b := by
  obtain ⟨v, r⟩ := b
  simp only [ballF, Bool.and_eq_true, decide_eq_true_eq] at hv
  obtain ⟨⟨hv, r0⟩, r1⟩ := hv
  rw [show 32 = 24 + 8 from rfl, seg_add] at e
  unfold be4 at e
  have e1 := List.append_inj e (by rw [seg_len _ _ _ (by omega), be3_len])
  have n0 := num_be B (p + 24) 8 _ (by omega) e1.2
  have hp : (256 : Nat) ^ 8 = 18446744073709551616 := by decide
  rw [hp, Nat.mod_eq_of_lt (u64N_lt _)] at n0
  unfold balF
  rw [vec_of_seg B p v (near_ok hv) (by omega) e1.1, n0, i64_u64 _ (show In r from ⟨by omega, by omega⟩)]
theorem check_0 {m : Msh} (h : checkF m = 0) : m.ps.length ≤ 4096 ∧ m.ts.length + m.bs.length ≤ 4096 ∧ (∀ p ∈ m.ps, nearV p = true) ∧ (∀ t ∈ m.ts, hasF m.ps.length t = true) ∧ (∀ b ∈ m.bs, ballF b = true) := by
  unfold checkF at h
  split at h
  · cases h
  rename_i ht
  split at h
  · rename_i hr
    simp only [rightF, Bool.and_eq_true, List.all_eq_true] at hr
    unfold tooF at ht
    exact ⟨by omega, by omega, hr.1.1, hr.1.2, hr.2⟩
  · cases h
theorem check_14 {m : Msh} (h : checkF m ≠ 0) : checkF m = 14 ∧ outF m = [] := by
  refine ⟨?_, by unfold outF; rw [if_neg h]⟩
  unfold checkF at *
  split
  · rfl
  rename_i ht
  rw [if_neg ht] at h
  split
  · rename_i hr; rw [if_pos hr] at h; exact absurd rfl h
  · rfl
theorem bytes_len (m : Msh) : (bytesF m).length = 12 + 24 * m.ps.length + 12 * m.ts.length + 32 * m.bs.length := by
  unfold bytesF
  simp only [List.length_append, beL_len]
  rw [flatN_len be3_len, flatN_len be3t_len, flatN_len be4_len]
theorem cnt_of (B : List Nat) (p n : Nat) (hn : n ≤ 4096) (h : p + 4 ≤ B.length) (e : seg B p 4 = beL n 4) : numF B p 4 = n := by
  have n0 := num_be B p 4 _ h e
  have hp : (256 : Nat) ^ 4 = 4294967296 := by decide
  rw [hp, Nat.mod_eq_of_lt (by omega)] at n0
  exact n0
theorem back_read (m : Msh) (h : checkF m = 0) : codeF (bytesF m) = 0 ∧ readF (bytesF m) = m := by
  obtain ⟨b0, b1, hp, ht, hb⟩ := check_0 h
  have hlen := bytes_len m
  obtain ⟨B, hB⟩ : ∃ B, B = bytesF m := ⟨_, rfl⟩
  have hB' := hB
  unfold bytesF at hB'
  rw [← hB] at hlen ⊢
  have L0 : (beL m.ps.length 4).length = 4 := beL_len _ _
  have L1 : (beL m.ts.length 4).length = 4 := beL_len _ _
  have L2 : (beL m.bs.length 4).length = 4 := beL_len _ _
  have L3 : (m.ps.flatMap be3).length = 24 * m.ps.length := flatN_len be3_len _
  have L4 : (m.ts.flatMap be3t).length = 12 * m.ts.length := flatN_len be3t_len _
  have L5 : (m.bs.flatMap be4).length = 32 * m.bs.length := flatN_len be4_len _
  have s0 : seg B 0 4 = beL m.ps.length 4 := by
    rw [hB', List.append_assoc, List.append_assoc, List.append_assoc, List.append_assoc, seg_left _ _ _ _ (by omega)]
    have := seg_all (beL m.ps.length 4); rwa [L0] at this
  have s1 : seg B 4 4 = beL m.ts.length 4 := by
    rw [hB', List.append_assoc, List.append_assoc, List.append_assoc, List.append_assoc, seg_right _ _ _ _ (by omega), L0, Nat.sub_self, seg_left _ _ _ _ (by omega)]
    have := seg_all (beL m.ts.length 4); rwa [L1] at this
  have s2 : seg B 8 4 = beL m.bs.length 4 := by
    rw [hB', List.append_assoc, List.append_assoc, List.append_assoc, List.append_assoc, seg_right _ _ _ _ (by omega), L0, show 8 - 4 = 4 from rfl, seg_right _ _ _ _ (by omega), L1, Nat.sub_self, seg_left _ _ _ _ (by omega)]
    have := seg_all (beL m.bs.length 4); rwa [L2] at this
  have n0 := cnt_of B 0 _ b0 (by omega) s0
  have n1 := cnt_of B 4 _ (by omega) (by omega) s1
  have n2 := cnt_of B 8 _ (by omega) (by omega) s2
  have e0 : psF B m.ps.length = m.ps := by
    apply List.ext_getElem
    · rw [psF_len]
    intro i h1 h2
    simp only [psF, List.getElem_map, List.getElem_range]
    refine vec_of_seg B _ _ (near_ok (hp _ (List.getElem_mem h2))) (by omega) ?_
    rw [← seg_flat be3_len m.ps i h2, hB', List.append_assoc, List.append_assoc, seg_right _ _ _ _ (by simp only [List.length_append]; omega)]
    simp only [List.length_append, L0, L1, L2]
    rw [show 12 + 24 * i - (4 + 4 + 4) = 24 * i by omega, seg_left _ _ _ _ (by omega)]
  have e1 : tsF B (12 + 24 * m.ps.length) m.ts.length = m.ts := by
    apply List.ext_getElem
    · rw [tsF_len]
    intro i h1 h2
    simp only [tsF, List.getElem_map, List.getElem_range]
    refine tri_of_seg B _ m.ps.length _ b0 (ht _ (List.getElem_mem h2)) (by omega) ?_
    rw [← seg_flat be3t_len m.ts i h2, hB', List.append_assoc, seg_right _ _ _ _ (by simp only [List.length_append]; omega)]
    simp only [List.length_append, L0, L1, L2, L3]
    rw [show 12 + 24 * m.ps.length + 12 * i - (4 + 4 + 4 + 24 * m.ps.length) = 12 * i by omega, seg_left _ _ _ _ (by omega)]
  have e2 : bsF B (12 + 24 * m.ps.length + 12 * m.ts.length) m.bs.length = m.bs := by
    apply List.ext_getElem
    · rw [bsF_len]
    intro i h1 h2
    simp only [bsF, List.getElem_map, List.getElem_range]
    refine bal_of_seg B _ _ (hb _ (List.getElem_mem h2)) (by omega) ?_
    rw [← seg_flat be4_len m.bs i h2, hB', seg_right _ _ _ _ (by simp only [List.length_append]; omega)]
    simp only [List.length_append, L0, L1, L2, L3, L4]
    rw [show 12 + 24 * m.ps.length + 12 * m.ts.length + 32 * i - (4 + 4 + 4 + 24 * m.ps.length + 12 * m.ts.length) = 32 * i by omega]
  have em : meshOf B = m := by
    unfold meshOf
    rw [n0, n1, n2, e0, e1, e2]
  have es : sizeF B = B.length := by unfold sizeF; rw [n0, n1, n2, hlen]
  have ec : codeF B = 0 := by
    unfold codeF
    rw [if_neg (by omega), if_neg (by omega), if_neg (by omega), if_neg (by omega), em]
    exact h
  exact ⟨ec, by unfold readF; rw [if_pos ec]; exact em⟩
/-! a box holds its points -/
open MeshP
def inB (p : V3) (b : Bx) : Prop := b.lo.x ≤ p.x ∧ p.x ≤ b.hi.x ∧ b.lo.y ≤ p.y ∧ p.y ≤ b.hi.y ∧ b.lo.z ≤ p.z ∧ p.z ≤ b.hi.z
theorem min3_le (x y z : Int) : min3 x y z ≤ x ∧ min3 x y z ≤ y ∧ min3 x y z ≤ z := by
  unfold min3
  refine ⟨?_, ?_, ?_⟩ <;> (repeat' split) <;> omega
theorem le_max3 (x y z : Int) : x ≤ max3 x y z ∧ y ≤ max3 x y z ∧ z ≤ max3 x y z := by
  unfold max3
  refine ⟨?_, ?_, ?_⟩ <;> (repeat' split) <;> omega
theorem tri_in (a b c : V3) : inB a (triB a b c) ∧ inB b (triB a b c) ∧ inB c (triB a b c) := by
  have hx := min3_le a.x b.x c.x
  have hy := min3_le a.y b.y c.y
  have hz := min3_le a.z b.z c.z
  have ux := le_max3 a.x b.x c.x
  have uy := le_max3 a.y b.y c.y
  have uz := le_max3 a.z b.z c.z
  exact ⟨⟨hx.1, ux.1, hy.1, uy.1, hz.1, uz.1⟩, ⟨hx.2.1, ux.2.1, hy.2.1, uy.2.1, hz.2.1, uz.2.1⟩, ⟨hx.2.2, ux.2.2, hy.2.2, uy.2.2, hz.2.2, uz.2.2⟩⟩
theorem sub_le' {c r : Int} (hc : In c) (hr : 0 ≤ r) : subF c r ≤ c := by
  obtain ⟨h1, h2⟩ := hc
  unfold subF clamp
  (repeat' split) <;> omega
theorem le_add' {c r : Int} (hc : In c) (hr : 0 ≤ r) : c ≤ addF c r := by
  obtain ⟨h1, h2⟩ := hc
  unfold addF clamp
  (repeat' split) <;> omega
theorem ball_in (b : B4) (hc : b.c.ok) (hr : 0 ≤ b.r) : inB b.c (ballB b) := ⟨sub_le' hc.1 hr, le_add' hc.1 hr, sub_le' hc.2.1 hr, le_add' hc.2.1 hr, sub_le' hc.2.2 hr, le_add' hc.2.2 hr⟩
theorem in_tri (m : Msh) (h : checkF m = 0) (i : Nat) (hi : i < m.ts.length) (k : Int) (hk : k = m.ts[i].x ∨ k = m.ts[i].y ∨ k = m.ts[i].z) : 0 ≤ k ∧ k < (m.ps.length : Int) ∧ inB (ptF m k) (boxF m (i : Int)) := by
  obtain ⟨_, _, _, ht, _⟩ := check_0 h
  have hh := ht _ (List.getElem_mem hi)
  have hb : boxF m (i : Int) = triB (ptF m m.ts[i].x) (ptF m m.ts[i].y) (ptF m m.ts[i].z) := by
    unfold boxF MeshP.triF
    rw [if_neg (by omega), if_pos (by omega)]
    have e1 : m.ts.getD (i : Int).toNat v0 = m.ts[i] := by simp [hi]
    rw [e1, if_pos hh]
  simp only [hasF, placeI, Bool.and_eq_true, decide_eq_true_eq] at hh
  obtain ⟨⟨⟨x0, x1⟩, y0, y1⟩, z0, z1⟩ := hh
  have hin := tri_in (ptF m m.ts[i].x) (ptF m m.ts[i].y) (ptF m m.ts[i].z)
  rw [hb]
  rcases hk with rfl | rfl | rfl
  · exact ⟨x0, x1, hin.1⟩
  · exact ⟨y0, y1, hin.2.1⟩
  · exact ⟨z0, z1, hin.2.2⟩
theorem in_ball (m : Msh) (h : checkF m = 0) (i : Nat) (hi : i < m.bs.length) : inB m.bs[i].c (boxF m ((m.ts.length : Int) + (i : Int))) := by
  obtain ⟨_, _, _, _, hb⟩ := check_0 h
  have hh := hb _ (List.getElem_mem hi)
  simp only [ballF, Bool.and_eq_true, decide_eq_true_eq] at hh
  unfold boxF
  rw [if_neg (by omega), if_neg (by omega)]
  have e1 : m.bs.getD ((m.ts.length : Int) + (i : Int) - (m.ts.length : Int)).toNat ⟨v0, 0⟩ = m.bs[i] := by
    rw [show (m.ts.length : Int) + (i : Int) - (m.ts.length : Int) = (i : Int) by omega]; simp [hi]
  rw [e1]
  exact ball_in _ (near_ok hh.1.1) (by omega)
end Go.Proofs.Ytdmmjmdnljhooaa.MeshW
