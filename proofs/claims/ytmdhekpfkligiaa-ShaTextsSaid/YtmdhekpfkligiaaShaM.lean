/- The plain mathematics of SHA-256 (chapter 11) over natural numbers. Nothing of a program is named here. -/
set_option linter.unusedVariables false
set_option linter.unusedSimpArgs false
namespace Go.Proofs.Ytmdhekpfkligiaa.ShaM

def rot (x n : Nat) : Nat := x / 2 ^ n + x % 2 ^ n * 2 ^ (32 - n)
def bigA (a : Nat) : Nat := rot a 2 ^^^ rot a 13 ^^^ rot a 22
def bigE (e : Nat) : Nat := rot e 6 ^^^ rot e 11 ^^^ rot e 25
def smallX (x : Nat) : Nat := rot x 17 ^^^ rot x 19 ^^^ x / 1024
def smallY (y : Nat) : Nat := rot y 7 ^^^ rot y 18 ^^^ y / 8
def ch (e f g : Nat) : Nat := (e &&& f) ^^^ ((4294967295 - e) &&& g)
def maj (a b c : Nat) : Nat := (a &&& b) ^^^ (a &&& c) ^^^ (b &&& c)
/-- the number of four bytes from a place on -/
def word (l : List Nat) (i : Nat) : Nat := ((l.getD i 0 * 256 + l.getD (i + 1) 0) * 256 + l.getD (i + 2) 0) * 256 + l.getD (i + 3) 0
/-- the first t numbers W of a block that begins at a place -/
def wl (l : List Nat) (at_ : Nat) : Nat → List Nat
  | 0 => []
  | t + 1 => wl l at_ t ++ [if t < 16 then word l (at_ + 4 * t) else
      (smallX ((wl l at_ t).getD (t - 2) 0) + (wl l at_ t).getD (t - 7) 0 + smallY ((wl l at_ t).getD (t - 15) 0) + (wl l at_ t).getD (t - 16) 0) % 4294967296]
def wf (l : List Nat) (at_ t : Nat) : Nat := (wl l at_ 64).getD t 0
structure S8 where
  a : Nat
  b : Nat
  c : Nat
  d : Nat
  e : Nat
  f : Nat
  g : Nat
  h : Nat
def S8.at (s : S8) : Nat → Nat
  | 0 => s.a
  | 1 => s.b
  | 2 => s.c
  | 3 => s.d
  | 4 => s.e
  | 5 => s.f
  | 6 => s.g
  | _ => s.h
def one (k w : Nat) (s : S8) : Nat := (s.h + bigE s.e + ch s.e s.f s.g + k + w) % 4294967296
def two (s : S8) : Nat := (bigA s.a + maj s.a s.b s.c) % 4294967296
def step (k w : Nat) (s : S8) : S8 := ⟨(one k w s + two s) % 4294967296, s.a, s.b, s.c, (s.d + one k w s) % 4294967296, s.e, s.f, s.g⟩
def rounds (k w : Nat → Nat) (s : S8) : Nat → S8
  | 0 => s
  | t + 1 => step (k t) (w t) (rounds k w s t)
def S8.add (s t : S8) : S8 := ⟨(s.a + t.a) % 4294967296, (s.b + t.b) % 4294967296, (s.c + t.c) % 4294967296, (s.d + t.d) % 4294967296, (s.e + t.e) % 4294967296, (s.f + t.f) % 4294967296, (s.g + t.g) % 4294967296, (s.h + t.h) % 4294967296⟩
/-- behind one block -/
def block (k : Nat → Nat) (l : List Nat) (at_ : Nat) (s : S8) : S8 := s.add (rounds k (wf l at_) s 64)
/-- behind the first n blocks -/
def blocks (k : Nat → Nat) (l : List Nat) (s : S8) : Nat → S8
  | 0 => s
  | n + 1 => block k l (64 * n) (blocks k l s n)

structure S8.ok (s : S8) : Prop where
  a : s.a < 4294967296
  b : s.b < 4294967296
  c : s.c < 4294967296
  d : s.d < 4294967296
  e : s.e < 4294967296
  f : s.f < 4294967296
  g : s.g < 4294967296
  h : s.h < 4294967296
theorem S8.ok.at {s : S8} (h : s.ok) (i : Nat) : s.at i < 4294967296 := by
  obtain ⟨a, b, c, d, e, f, g, i'⟩ := h
  unfold S8.at
  split <;> assumption
theorem rot_lt (x n : Nat) (hx : x < 4294967296) (h1 : n ≤ 32) : rot x n < 4294967296 := by
  unfold rot
  have e : 4294967296 = 2 ^ n * 2 ^ (32 - n) := by rw [← Nat.pow_add, show n + (32 - n) = 32 from by omega]
  have h2 : x / 2 ^ n < 2 ^ (32 - n) := Nat.div_lt_of_lt_mul (by rw [← e]; exact hx)
  have h3 : x % 2 ^ n < 2 ^ n := Nat.mod_lt _ (Nat.pow_pos (by omega))
  have h4 : (x % 2 ^ n + 1) * 2 ^ (32 - n) ≤ 2 ^ n * 2 ^ (32 - n) := Nat.mul_le_mul_right _ h3
  rw [← e, Nat.add_mul] at h4
  omega
theorem xor_lt {a b : Nat} (ha : a < 4294967296) (hb : b < 4294967296) : a ^^^ b < 4294967296 := Nat.xor_lt_two_pow (n := 32) ha hb
theorem and_lt {a b : Nat} (ha : a < 4294967296) : a &&& b < 4294967296 := by rw [Nat.and_comm]; exact Nat.and_lt_two_pow (n := 32) b ha
theorem bigA_lt (a : Nat) (h : a < 4294967296) : bigA a < 4294967296 := xor_lt (xor_lt (rot_lt _ _ h (by omega)) (rot_lt _ _ h (by omega))) (rot_lt _ _ h (by omega))
theorem bigE_lt (a : Nat) (h : a < 4294967296) : bigE a < 4294967296 := xor_lt (xor_lt (rot_lt _ _ h (by omega)) (rot_lt _ _ h (by omega))) (rot_lt _ _ h (by omega))
theorem smallX_lt (a : Nat) (h : a < 4294967296) : smallX a < 4294967296 := xor_lt (xor_lt (rot_lt _ _ h (by omega)) (rot_lt _ _ h (by omega))) (by omega)
theorem smallY_lt (a : Nat) (h : a < 4294967296) : smallY a < 4294967296 := xor_lt (xor_lt (rot_lt _ _ h (by omega)) (rot_lt _ _ h (by omega))) (by omega)
theorem ch_lt (e f g : Nat) (h : e < 4294967296) : ch e f g < 4294967296 := xor_lt (and_lt h) (and_lt (by omega))
theorem maj_lt (a b c : Nat) (h : a < 4294967296) (h2 : b < 4294967296) : maj a b c < 4294967296 := xor_lt (xor_lt (and_lt h) (and_lt h)) (and_lt h2)
theorem one_lt (k w : Nat) (s : S8) : one k w s < 4294967296 := Nat.mod_lt _ (by omega)
theorem two_lt (s : S8) : two s < 4294967296 := Nat.mod_lt _ (by omega)
theorem step_ok (k w : Nat) (s : S8) (h : s.ok) : (step k w s).ok := ⟨Nat.mod_lt _ (by omega), h.a, h.b, h.c, Nat.mod_lt _ (by omega), h.e, h.f, h.g⟩
theorem rounds_ok (k w : Nat → Nat) (s : S8) (h : s.ok) (t : Nat) : (rounds k w s t).ok := by
  induction t with
  | zero => exact h
  | succ t ih => exact step_ok _ _ _ ih
theorem add_ok (s t : S8) : (s.add t).ok := ⟨Nat.mod_lt _ (by omega), Nat.mod_lt _ (by omega), Nat.mod_lt _ (by omega), Nat.mod_lt _ (by omega), Nat.mod_lt _ (by omega), Nat.mod_lt _ (by omega), Nat.mod_lt _ (by omega), Nat.mod_lt _ (by omega)⟩
theorem block_ok (k : Nat → Nat) (l : List Nat) (at_ : Nat) (s : S8) : (block k l at_ s).ok := add_ok _ _
theorem blocks_ok (k : Nat → Nat) (l : List Nat) (s : S8) (h : s.ok) (n : Nat) : (blocks k l s n).ok := by
  cases n with
  | zero => exact h
  | succ n => exact block_ok _ _ _ _
theorem wl_length (l : List Nat) (at_ t : Nat) : (wl l at_ t).length = t := by
  induction t with
  | zero => rfl
  | succ t ih => simp [wl, ih]
theorem wl_at (l : List Nat) (at_ : Nat) : ∀ (n t : Nat), t < n → (wl l at_ n).getD t 0 = (wl l at_ (t + 1)).getD t 0 := by
  intro n
  induction n with
  | zero => intro t h; omega
  | succ n ih =>
    intro t h
    by_cases e : t = n
    · rw [e]
    · rw [← ih t (by omega)]
      rw [wl, List.getD_eq_getElem?_getD, List.getD_eq_getElem?_getD, List.getElem?_append_left (by rw [wl_length]; omega), List.getD_eq_getElem?_getD]
theorem wf_eq (l : List Nat) (at_ t : Nat) (h : t < 64) : wf l at_ t = if t < 16 then word l (at_ + 4 * t) else (smallX (wf l at_ (t - 2)) + wf l at_ (t - 7) + smallY (wf l at_ (t - 15)) + wf l at_ (t - 16)) % 4294967296 := by
  have e : wf l at_ t = (wl l at_ (t + 1)).getD t 0 := wl_at l at_ 64 t h
  rw [e, wl, List.getD_eq_getElem?_getD, List.getElem?_append_right (by rw [wl_length]; omega), wl_length, Nat.sub_self]
  simp only [List.getElem?_cons_zero, Option.getD_some]
  by_cases h16 : t < 16
  · rw [if_pos h16, if_pos h16]
  · rw [if_neg h16, if_neg h16]
    unfold wf
    rw [wl_at l at_ 64 (t - 2) (by omega), wl_at l at_ 64 (t - 7) (by omega), wl_at l at_ 64 (t - 15) (by omega), wl_at l at_ 64 (t - 16) (by omega)]
    rw [wl_at l at_ t (t - 2) (by omega), wl_at l at_ t (t - 7) (by omega), wl_at l at_ t (t - 15) (by omega), wl_at l at_ t (t - 16) (by omega)]
theorem word_lt (l : List Nat) (hl : ∀ x ∈ l, x < 256) (i : Nat) : word l i < 4294967296 := by
  have h : ∀ j, l.getD j 0 < 256 := by
    intro j
    rw [List.getD_eq_getElem?_getD]
    by_cases hj : j < l.length
    · rw [List.getElem?_eq_getElem hj]; exact hl _ (List.getElem_mem hj)
    · rw [List.getElem?_eq_none (by omega)]; simp
  have := h i; have := h (i + 1); have := h (i + 2); have := h (i + 3)
  unfold word; omega
theorem wf_lt (l : List Nat) (hl : ∀ x ∈ l, x < 256) (at_ t : Nat) (h : t < 64) : wf l at_ t < 4294967296 := by
  rw [wf_eq l at_ t h]
  split
  · exact word_lt l hl _
  · exact Nat.mod_lt _ (by omega)
/-- a block depends on its 64 bytes alone -/
theorem wl_congr (l m : List Nat) (p q : Nat) (h : ∀ i, i < 64 → l.getD (p + i) 0 = m.getD (q + i) 0) (t : Nat) : t ≤ 64 → wl l p t = wl m q t := by
  induction t with
  | zero => intro _; rfl
  | succ t ih =>
    intro ht
    rw [wl, wl, ih (by omega)]
    by_cases h16 : t < 16
    · rw [if_pos h16, if_pos h16]
      unfold word
      have e := fun j (hj : j < 4) => h (4 * t + j) (by omega)
      have e0 := e 0 (by omega); have e1 := e 1 (by omega); have e2 := e 2 (by omega); have e3 := e 3 (by omega)
      simp only [Nat.add_zero, ← Nat.add_assoc] at e0 e1 e2 e3
      rw [e0, e1, e2, e3]
    · rw [if_neg h16, if_neg h16]
theorem block_congr (k : Nat → Nat) (l m : List Nat) (p q : Nat) (s : S8) (h : ∀ i, i < 64 → l.getD (p + i) 0 = m.getD (q + i) 0) : block k l p s = block k m q s := by
  have : wf l p = wf m q := by funext t; unfold wf; rw [wl_congr l m p q h 64 (by omega)]
  unfold block; rw [this]
theorem blocks_congr (k : Nat → Nat) (l m : List Nat) (s : S8) (n : Nat) (h : ∀ i, i < 64 * n → l.getD i 0 = m.getD i 0) : blocks k l s n = blocks k m s n := by
  induction n with
  | zero => rfl
  | succ n ih =>
    rw [blocks, blocks, ih (fun i hi => h i (by omega))]
    exact block_congr k l m _ _ _ (fun i hi => h _ (by omega))
/-- the bytes and their padding -/
def zerosOf (n : Nat) : Nat := (119 - n % 64) % 64
def sizeBytes (n : Nat) : List Nat := (List.range 8).map fun i => 8 * n % 18446744073709551616 / 2 ^ (56 - 8 * i) % 256
def padded (l : List Nat) : List Nat := l ++ [128] ++ List.replicate (zerosOf l.length) 0 ++ sizeBytes l.length
def hashBytes (s : S8) : List Nat := (List.range 32).map fun i => s.at (i / 4) / 2 ^ (24 - 8 * (i % 4)) % 256
theorem padded_length (l : List Nat) : (padded l).length = 64 * ((l.length + 9 + 63) / 64) := by
  simp [padded, zerosOf, sizeBytes]; omega
end Go.Proofs.Ytmdhekpfkligiaa.ShaM
