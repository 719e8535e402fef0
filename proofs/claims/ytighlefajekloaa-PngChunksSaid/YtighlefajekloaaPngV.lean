/- Plain: what all Puts tell is a head and chunks. -/
import Derived.Test.YtighlefajekloaaPj
set_option linter.unusedVariables false
set_option linter.unusedSimpArgs false
namespace Go.Proofs.Ytighlefajekloaa.PngV
open BitsM DefN DefO SumsM PngC PngD PngE PngF PngM PngG PngH PngK PngO
abbrev Ck := List Nat × List Nat
def sigL : List Nat := [137, 80, 78, 71, 13, 10, 26, 10]
def kHDR : List Nat := [73, 72, 68, 82]
def kDAT : List Nat := [73, 68, 65, 84]
def kEND : List Nat := [73, 69, 78, 68]
def flatC (C : List Ck) : List Nat := C.flatMap fun c => chunkL c.1 c.2
theorem flatC_append (C D : List Ck) : flatC (C ++ D) = flatC C ++ flatC D := List.flatMap_append
theorem flatC_one (c : Ck) : flatC [c] = chunkL c.1 c.2 := by unfold flatC; simp
def headC (wd ht : Nat) : Ck := (kHDR, (fourL wd ++ fourL ht) ++ [8, 6, 0, 0, 1])
def restC (lf at_ : Nat) (bg : Bool) (B px : List Nat) : List Ck := (if toldL lf at_ bg B px = [] then [] else [(kDAT, toldL lf at_ bg B px)]) ++ (if lf = 1 then [(kEND, [])] else [])
theorem put_chunks (wd ht lf at_ : Nat) (bg : Bool) (B px : List Nat) : putL wd ht lf at_ bg B px = (if lf = wd * ht then sigL ++ flatC [headC wd ht] else []) ++ flatC (restC lf at_ bg B px) := by
  unfold putL restC
  rw [flatC_append, ← List.append_assoc, show headL wd ht = sigL ++ flatC [headC wd ht] by rw [flatC_one]; rfl]
  congr 1
  · congr 1
    by_cases h : toldL lf at_ bg B px = []
    · rw [if_pos h, if_pos h]; rfl
    · rw [if_neg h, if_neg h, flatC_one]; rfl
  · by_cases h : lf = 1
    · rw [if_pos h, if_pos h, flatC_one]; rfl
    · rw [if_neg h, if_neg h]; rfl
def Ck.ok (c : Ck) : Prop := (c.1 = kHDR ∨ c.1 = kDAT ∨ c.1 = kEND) ∧ c.2.length < 65536
theorem Ck.four {c : Ck} (h : c.ok) : c.1.length = 4 := by
  rcases h.1 with e | e | e <;> rw [e] <;> rfl
/-- what was told up to the i-th pixel -/
structure CI (wd ht n i : Nat) (all : List Nat) (C : List Ck) : Prop where
  zero : i = 0 → all = [] ∧ C = []
  more : 0 < i → all = sigL ++ flatC C ∧ C.head? = some (headC wd ht)
  ok : ∀ c ∈ C, c.ok
  last : i = n → ∃ D, C = D ++ [(kEND, [])]
  len : all.length ≤ i * 100000
theorem told_len (lf at_ : Nat) (bg : Bool) (B : List Nat) (p : Px) (hB : B.length ≤ 2000) : (toldL lf at_ bg B (pxL p)).length ≤ 60000 := by
  unfold toldL
  have h5 := inL_len at_ p
  have h1 := bits_out_len B (inL at_ (pxL p))
  rw [List.length_append] at h1
  have h2 : (headZ bg).length ≤ 2 := by cases bg <;> decide
  rw [List.length_append, List.length_append]
  have h3 : (if lf = 1 then outN (endL (B ++ inL at_ (pxL p))) ((bitsW (B ++ inL at_ (pxL p))).length / 8) ++ fourL (adler 1 (B ++ inL at_ (pxL p))) else []).length ≤ 30000 := by
    split
    · rw [List.length_append, fourL_len]
      have h0 := end_len (B ++ inL at_ (pxL p)) ((bitsW (B ++ inL at_ (pxL p))).length / 8)
      have h6 := fin_len (B ++ inL at_ (pxL p))
      have h7 := al8_ge (finL (B ++ inL at_ (pxL p))).length
      have h8 := nb_le (B ++ inL at_ (pxL p)).length
      have h9 : (endL (B ++ inL at_ (pxL p))).length ≤ 29000 := by
        unfold endL alig
        rw [List.length_append, List.length_replicate]
        rw [List.length_append] at h6 h8
        omega
      omega
    · simp
  omega
theorem put_len (wd ht lf at_ : Nat) (bg : Bool) (B : List Nat) (p : Px) (hB : B.length ≤ 2000) : (putL wd ht lf at_ bg B (pxL p)).length ≤ 100000 := by
  have h1 := told_len lf at_ bg B p hB
  unfold putL
  rw [List.length_append, List.length_append]
  have h2 : (if lf = wd * ht then headL wd ht else []).length ≤ 100 := by
    split
    · simp [headL, chunkL, fourL]
    · simp
  have h3 : (if toldL lf at_ bg B (pxL p) = [] then [] else chunkL [73, 68, 65, 84] (toldL lf at_ bg B (pxL p))).length ≤ 60012 := by
    split
    · simp
    · rw [chunk_len]; simp only [List.length_cons, List.length_nil]; omega
  have h4 : (if lf = 1 then chunkL [73, 69, 78, 68] [] else []).length ≤ 12 := by
    split
    · rw [chunk_len]; simp
    · simp
  omega
theorem ci_zero (wd ht n : Nat) (hn : 0 < n) : CI wd ht n 0 [] [] := ⟨fun _ => ⟨rfl, rfl⟩, fun h => by omega, fun c hc => by simp at hc, fun h => by omega, by simp⟩
theorem ci_next {wd ht n i : Nat} {all : List Nat} {C : List Ck} (h : CI wd ht n i all C) (hn : n = wd * ht) (hi : i < n) (at_ : Nat) (bg : Bool) (B : List Nat) (p : Px) (hB : B.length ≤ 2000) :
    CI wd ht n (i + 1) (all ++ putL wd ht (n - i) at_ bg B (pxL p)) ((C ++ (if i = 0 then [headC wd ht] else [])) ++ restC (n - i) at_ bg B (pxL p)) := by
  have hpl := put_len wd ht (n - i) at_ bg B p hB
  have htl := told_len (n - i) at_ bg B p hB
  refine ⟨fun e => by omega, fun _ => ?_, fun c hc => ?_, fun e => ?_, ?_⟩
  · rw [put_chunks]
    by_cases h0 : i = 0
    · obtain ⟨rfl, rfl⟩ := h.zero h0
      rw [if_pos (show n - i = wd * ht by omega), if_pos h0, List.nil_append, List.nil_append, flatC_append, List.append_assoc]
      exact ⟨rfl, rfl⟩
    · obtain ⟨e1, e2⟩ := h.more (by omega)
      rw [if_neg (show ¬ n - i = wd * ht by omega), if_neg h0, List.nil_append, List.append_nil, flatC_append, e1, List.append_assoc]
      refine ⟨rfl, ?_⟩
      cases C with
      | nil => simp at e2
      | cons c D => exact e2
  · rcases List.mem_append.1 hc with hc | hc
    · rcases List.mem_append.1 hc with hc | hc
      · exact h.ok c hc
      · split at hc
        · simp only [List.mem_singleton] at hc
          subst hc
          exact ⟨.inl rfl, by show (13 : Nat) < 65536; omega⟩
        · simp at hc
    · unfold restC at hc
      rcases List.mem_append.1 hc with hc | hc
      · split at hc
        · simp at hc
        · simp only [List.mem_singleton] at hc
          subst hc
          exact ⟨.inr (.inl rfl), by show (toldL _ _ _ _ _).length < 65536; omega⟩
      · split at hc
        · simp only [List.mem_singleton] at hc
          subst hc
          exact ⟨.inr (.inr rfl), by show (0 : Nat) < 65536; omega⟩
        · simp at hc
  · unfold restC
    rw [if_pos (show n - i = 1 by omega), ← List.append_assoc]
    exact ⟨_, rfl⟩
  · have := h.len
    rw [List.length_append, Nat.add_mul]; omega
/-- a chunk within -/
structure At (all : List Nat) (at_ : Nat) (c : Ck) : Prop where
  b0 : all.getD at_ 0 = 0
  b1 : all.getD (at_ + 1) 0 = 0
  b2 : all.getD (at_ + 2) 0 = c.2.length / 256
  b3 : all.getD (at_ + 3) 0 = c.2.length % 256
  kind : (all.take (at_ + 8)).drop (at_ + 4) = c.1
  fits : at_ + 12 + c.2.length ≤ all.length
theorem at_of (P R : List Nat) (c : Ck) (hc : c.ok) : At (P ++ (chunkL c.1 c.2 ++ R)) P.length c := by
  have h4 := Ck.four hc
  have hl := hc.2
  have hlen : (chunkL c.1 c.2).length = 12 + c.2.length := by rw [chunk_len, h4]
  have hg : ∀ j, j < 4 → (P ++ (chunkL c.1 c.2 ++ R)).getD (P.length + j) 0 = (fourL c.2.length).getD j 0 := by
    intro j hj
    rw [List.getD_eq_getElem?_getD, List.getD_eq_getElem?_getD, List.getElem?_append_right (by omega), show P.length + j - P.length = j by omega, List.getElem?_append_left (by rw [hlen]; omega)]
    unfold chunkL
    rw [List.append_assoc, List.append_assoc, List.getElem?_append_left (by rw [fourL_len]; exact hj)]
  refine ⟨?_, ?_, ?_, ?_, ?_, ?_⟩
  · have := hg 0 (by omega); rw [Nat.add_zero] at this; rw [this]
    show c.2.length / 16777216 % 256 = 0
    omega
  · rw [hg 1 (by omega)]
    show c.2.length / 65536 % 256 = 0
    omega
  · rw [hg 2 (by omega)]
    show c.2.length / 256 % 256 = _
    omega
  · rw [hg 3 (by omega)]; rfl
  · rw [List.take_append, List.take_of_length_le (by omega), List.drop_append, List.drop_of_length_le (by omega), List.nil_append, show P.length + 8 - P.length = 8 by omega, show P.length + 4 - P.length = 4 by omega]
    rw [List.take_append_of_le_length (by rw [hlen]; omega)]
    unfold chunkL
    rw [List.append_assoc, List.append_assoc, List.take_append, List.take_of_length_le (by rw [fourL_len]; omega), List.drop_append, List.drop_of_length_le (by rw [fourL_len]; omega), List.nil_append, fourL_len, Nat.sub_self, List.drop_zero, List.take_append_of_le_length (by omega), List.take_of_length_le (by omega)]
  · rw [List.length_append, List.length_append, hlen]; omega
def atK (C : List Ck) (k : Nat) : Nat := (sigL ++ flatC (C.take k)).length
theorem at_k {wd ht n i : Nat} {all : List Nat} {C : List Ck} (h : CI wd ht n i all C) (hi : 0 < i) (k : Nat) (hk : k < C.length) : At all (atK C k) (C[k]) ∧ atK C (k + 1) = atK C k + 12 + (C[k]).2.length := by
  have hok := h.ok (C[k]) (List.getElem_mem hk)
  have e : all = (sigL ++ flatC (C.take k)) ++ (chunkL (C[k]).1 (C[k]).2 ++ flatC (C.drop (k + 1))) := by
    rw [(h.more hi).1, List.append_assoc]
    congr 1
    rw [← flatC_one, ← flatC_append, ← flatC_append]
    congr 1
    rw [List.singleton_append, ← List.drop_eq_getElem_cons hk, List.take_append_drop]
  refine ⟨by rw [e]; exact at_of _ _ _ hok, ?_⟩
  unfold atK
  rw [List.take_succ_eq_append_getElem hk, flatC_append, flatC_one, ← List.append_assoc, List.length_append, chunk_len, Ck.four hok]
  omega
theorem at_end {wd ht n i : Nat} {all : List Nat} {C : List Ck} (h : CI wd ht n i all C) (hi : 0 < i) : atK C C.length = all.length := by
  unfold atK
  rw [List.take_length, (h.more hi).1]
theorem at_mono {wd ht n i : Nat} {all : List Nat} {C : List Ck} (h : CI wd ht n i all C) (hi : 0 < i) (k : Nat) (hk : k ≤ C.length) : 8 ≤ atK C k ∧ (0 < k → 8 < atK C k) ∧ atK C k ≤ all.length := by
  refine ⟨?_, fun h0 => ?_, ?_⟩
  · unfold atK; rw [List.length_append]; show 8 ≤ 8 + _; omega
  · obtain ⟨j, rfl⟩ : ∃ j, k = j + 1 := ⟨k - 1, by omega⟩
    have := (at_k h hi j (by omega)).2
    have h8 : 8 ≤ atK C j := by unfold atK; rw [List.length_append]; show 8 ≤ 8 + _; omega
    omega
  · rw [← at_end h hi]
    unfold atK
    rw [List.take_length, List.length_append, List.length_append]
    have : flatC C = flatC (C.take k) ++ flatC (C.drop k) := by rw [← flatC_append, List.take_append_drop]
    rw [this, List.length_append]; omega
theorem at_zero (C : List Ck) : atK C 0 = 8 := rfl
/-- the rows never run out -/
def chkR : Nat → List Nat → Nat → Bool
  | 0, _, _ => true
  | f + 1, [], _ => false
  | f + 1, r0 :: rs, a => decide (a < r0) && chkR f (if a + 1 = r0 then rs else r0 :: rs) (if a + 1 = r0 then 0 else a + 1)
set_option maxRecDepth 100000 in
theorem chkR_fin : ∀ i < 16, ∀ j < 16, chkR ((i + 1) * (j + 1)) (widthsL (i + 1) (j + 1)) 0 = true := by decide +kernel
theorem chkR_all (a b : Nat) (ha : 1 ≤ a) (ha2 : a ≤ 16) (hb : 1 ≤ b) (hb2 : b ≤ 16) : chkR (a * b) (widthsL a b) 0 = true := by
  have := chkR_fin (a - 1) (by omega) (b - 1) (by omega)
  rwa [show a - 1 + 1 = a by omega, show b - 1 + 1 = b by omega] at this
theorem chkR_next {f : Nat} {rws : List Nat} {a : Nat} (h : chkR (f + 1) rws a = true) : ∃ r0 rs, rws = r0 :: rs ∧ a < r0 ∧ chkR f (if a + 1 = r0 then rs else r0 :: rs) (if a + 1 = r0 then 0 else a + 1) = true := by
  cases rws with
  | nil => simp [chkR] at h
  | cons r0 rs =>
    simp only [chkR, Bool.and_eq_true, decide_eq_true_eq] at h
    exact ⟨r0, rs, rfl, h.1, h.2⟩
end Go.Proofs.Ytighlefajekloaa.PngV
