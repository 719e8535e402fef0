/- The walks of package bits: Take, Align, Bits, and what was not made. -/
import Derived.Test.YtighlefajekloaaBitsW
set_option linter.unusedVariables false
set_option linter.unusedSimpArgs false
namespace Go.Proofs.Ytighlefajekloaa.BitsX
open Go.RowKit BitsM Base Low BitsW

theorem rest_bytes (V R : Nat) : (bytesOf V R).drop (R / 8) = bytesOf (V / 256 ^ (R / 8)) (R % 8) := by
  rw [bytesOf, bytesN_drop _ _ _ (by omega), bytesOf]; congr 1; omega
theorem bytesOf_length (V R : Nat) : (bytesOf V R).length = (R + 7) / 8 := bytesN_length _ _
theorem first_bytes (V R : Nat) : (bytesOf V R).take (R / 8) = bytesN V (R / 8) := by rw [bytesOf, bytesN_take _ _ _ (by omega)]

/-- what Take leaves, and answers -/
def TakeTo (base g T V R : Nat) (v : Value) (w : World) (e : Ending) (w' : World) : Prop :=
  ∃ u v', e = .returned u ∧ (Nums .u8 256 w' u (bytesN V (R / 8)) ∧ ∃ a, u = .slice a (R / 8) (R / 8)) ∧ Wr base w' g v' (V / 256 ^ (R / 8)) (R % 8) (T + R / 8) ∧ Keeps (fp g v) w w' ∧ (v'.ownBlock = v.ownBlock ∨ ∀ b, v'.ownBlock = some b → w.heap.size ≤ b) ∧
    (∀ b, u.ownBlock = some b → v.ownBlock = some b ∧ v'.ownBlock ≠ some b)
/-- nothing whole -/
theorem take_none {base g T V R : Nat} {v : Value} {w : World} (h : Wr base w g v V R T) (h0 : R / 8 = 0) : TakeTo base g T V R v w (.returned (.slice none 0 0)) w := by
  refine ⟨_, v, rfl, ⟨by rw [h0]; exact Nums.nil _ _ _, none, by rw [h0]⟩, ?_, Keeps.refl _ _, .inl rfl, by simp [Value.ownBlock]⟩
  have e : R % 8 = R := by omega
  rw [h0, e]; simpa using h
/-- some whole bytes: the elder row cut off, a new one laid into the writer -/
theorem take_some {base g T V R b m cap q : Nat} {v2 : Value} {w w2 : World} (h : Wr base w g (.slice (some ⟨b, 0, none⟩) m cap) V R T) (hqe : q = R / 8) (hown : Own .u8 256 5 w.heap.size w2 v2 ([] ++ (bytesOf V R).drop q))
    (hg : w.grownBy w2 (Value.slice none 0 0).ownBlock) :
    TakeTo base g T V R (.slice (some ⟨b, 0, none⟩) m cap) w (.returned (.slice (some ⟨b, 0, none⟩) q q)) (w2.setCell ⟨g, 1, none⟩ v2) := by
  subst hqe
  have hfr : ∀ b, v2.ownBlock = some b → w.heap.size ≤ b := fun b hb => (hown.lt b hb).1
  have hgs := h.lt
  have hbg : b ≠ g := by rintro rfl; exact h.apart rfl
  have hblk : w2.heap[g]? = _ := (hg.block g hgs (Option.some_ne_none g)).trans h.blk
  have hk1 : Keeps (fun _ => False) w w2 := (Keeps.refl _ _).grown hg (fun k hk => by simp [Value.ownBlock] at hk)
  have hk2 : Keeps (fun k => k = g) w2 (w2.setCell ⟨g, 1, none⟩ v2) := (Keeps.refl _ _).setCell g _ _ (.inl rfl)
  have hk : Keeps (fun k => k = g) w (w2.setCell ⟨g, 1, none⟩ v2) := (hk1.mono (fun k hk => hk.elim)).trans hk2 (fun k hk => .inl hk)
  have hbs := (h.own.lt b rfl).2
  have hm : m = (bytesOf V R).length := by
    obtain ⟨_, _, e, _⟩ := h.own.nums.shape; simp only [Value.slice.injEq] at e; exact e.2.1
  refine ⟨_, v2, rfl, ⟨?_, _, rfl⟩, ⟨?_, ?_, top_lt V R h.val, ?_, h.low⟩, hk.mono (fun k hk => .inl hk), .inr hfr, ?_⟩
  · have hn := h.own.nums.take (R / 8) (by rw [hm, bytesOf_length]; omega) hm (by simp)
    rw [first_bytes] at hn
    have hn2 := hn.frame hk (fun b' hb' => by simp only [Value.ownBlock, Option.some.injEq] at hb'; subst hb'; exact hbg)
    refine ⟨⟨_, R / 8, by rw [bytesN_length], by rw [bytesN_length]; exact Nat.le_refl _, ?_, fun e => by simp at e⟩, hn2.bound, ?_⟩
    · obtain ⟨_, _, e, h1, h2, _⟩ := hn.shape
      simp only [Value.slice.injEq] at e
      rw [bytesN_length] at h1; omega
    · intro hne
      obtain ⟨b', off', cap', e, h1, h2⟩ := hn2.cells hne
      simp only [Value.slice.injEq, Option.some.injEq, Addr.mk.injEq, and_true] at e
      obtain ⟨⟨rfl, rfl⟩, _, rfl⟩ := e
      exact ⟨b, 0, R / 8, by rw [bytesN_length], h1, h2⟩
  · rw [heap_setCell_same _ _ _ _ _ _ hblk]
    have e : 8 * T + R = 8 * (T + R / 8) + R % 8 := by omega
    rw [e]; rfl
  · have := hown.frame hk2 (fun b' hb' => by have := hfr b' hb'; omega)
    rw [List.nil_append, rest_bytes] at this; exact this.mono (by have := h.low; omega)
  · intro e; have := hfr g e; omega
  · intro b' hb'
    simp only [Value.ownBlock, Option.some.injEq] at hb'
    subst hb'
    exact ⟨rfl, fun e => by have := hfr b e; omega⟩

set_option maxRecDepth 100000 in
set_option maxHeartbeats 2000000 in
theorem take_any (base g V R T : Nat) (v : Value) (w : World) (h : Wr base w g v V R T) (hR : 8 * T + R ≤ 562949953421312) :
    Calls Try.prog 52 #[.pointer (some ⟨g, 0, none⟩)] w (TakeTo base g T V R v w) := by
  have c0 := (cell_of_row _ _ 0 _ _ _ h.blk)
  have c1 := (cell_of_row _ _ 1 _ _ _ h.blk)
  have c2 := (cell_of_row _ _ 2 _ _ _ h.blk)
  have f1 := frozen_of_row _ _ 1 _ _ h.blk
  simp only [List.getElem?_toArray, List.getElem?_cons_succ, List.getElem?_cons_zero] at c0 c1 c2
  have hin := fun w' (hc : w'.cell? ⟨g, 2, none⟩ = some (.int .i64 ((8 * T + R : Nat) : Int))) => inside_at g (8 * T + R) (R % 8) (by omega) (by omega) w' hc
  have hI := Lib.hid hin
  obtain ⟨at_, hat⟩ : ∃ a, a = R % 8 := ⟨_, rfl⟩
  have hA := Lib.hid hat
  have hH := Lib.hid h
  have hL := Lib.hid (bytesOf_length V R)
  have hlow := h.low
  have hgl := h.lt
  clear hin h
  rw [← hat] at hI
  clear hat
  by_cases hq0 : R / 8 = 0
  · have hQ := Lib.hid hq0
    obtain ⟨a, cap, rfl, hcap, hcm, -⟩ := hH.out.own.nums.shape
    clear hq0
    by_cases h8 : at_ = 0
    · have ht : ((at_ : Int) != 0) = false := by simp; omega
      have hl0 : (bytesOf V R).length = 0 := by rw [hL.out]; have := hA.out; have := hQ.out; omega
      rw [hl0] at c1
      clear hl0 hcap
      go_enter Try.func52, Try.ntmps52
      go_wp2_with (go_at_call 64; refine (hI.out _ c2).mono ?_; rintro e w1 ⟨rfl, rfl⟩)
      go_ret
      exact take_none hH.out hQ.out
    · have ht : ((at_ : Int) != 0) = true := by simp; omega
      have hl0 : (bytesOf V R).length = 1 := by rw [hL.out]; have := hA.out; have := hQ.out; omega
      rw [hl0] at c1
      clear hl0 hcap
      go_enter Try.func52, Try.ntmps52
      go_wp2_with (go_at_call 64; refine (hI.out _ c2).mono ?_; rintro e w1 ⟨rfl, rfl⟩)
      go_ret
      exact take_none hH.out hQ.out
  · have hQ := Lib.hid hq0
    obtain ⟨b, cap, rfl, hcap, hbb, hbs, -, -, -⟩ := hH.out.own.at_ (by rw [hL.out]; omega)
    obtain ⟨q, hq⟩ : ∃ q, q = R / 8 := ⟨_, rfl⟩
    have hqb : q ≤ 70368744177664 := by omega
    have hq1 : 1 ≤ q := by omega
    have hqz : ((q : Int) == 0) = false := by simp; omega
    have hE := Lib.hid hq
    clear hq hq0
    have hdl : ((bytesOf V R).drop q).length ≤ 1 := by rw [List.length_drop, hL.out]; have := hE.out; omega
    have hb1 := Lib.hid (show (([] : List Nat).length + ((bytesOf V R).drop q).length) * 1 ≤ 140737488355328 by simp only [List.length_nil]; omega)
    have hb2 := Lib.hid (show ([] : List Nat).length + ((bytesOf V R).drop q).length ≤ 140737488355328 by simp only [List.length_nil]; omega)
    have hO := Lib.hid (Own.nil .u8 256 5 w.heap.size w)
    clear hdl
    by_cases h8 : at_ = 0
    · have ht : ((at_ : Int) != 0) = false := by simp; omega
      have hl0 : (bytesOf V R).length = q := by rw [hL.out]; have := hA.out; have := hE.out; omega
      rw [hl0] at c1 hcap hH ⊢
      have hD : (bytesOf V R).drop q = [] := List.drop_eq_nil_of_le (by omega)
      have hcm : cap ≤ maxLen := by obtain ⟨_, _, e, h1, h2, _⟩ := hH.out.own.nums.shape; simp only [Value.slice.injEq] at e; omega
      by_cases hcq : cap = q
      · subst hcq
        have hN := Lib.hid (show Nums .u8 256 w (.slice (some ⟨b, 0, none⟩) 0 0) ((bytesOf V R).drop cap) by rw [hD]; exact Nums.empty _ _ _ _ _ _ (by unfold maxLen; omega))
        clear hl0 hD hcm
        go_enter Try.func52, Try.ntmps52
        go_wp2_with (first
          | (go_at_call 64; refine (hI.out _ c2).mono ?_; rintro e w1 ⟨rfl, rfl⟩)
          | (at_builtin; refine wpList_append_nums_at rfl (.const (Value.slice none 0 0)) (.tmp 45) 33 5 rfl .u8 256 1 w.heap.size u8s (.slice none 0 0) [] rfl hO.out _ _ rfl hN.out hb1.out hb2.out (Nat.le_refl _) ?_; intro v2 w2 hown2 hgr2 _; have c3 := (World.cell?_of_block (a := ⟨g, 1, none⟩) (hgr2.block g hgl (Option.some_ne_none g))).trans c1; have f3 := (World.frozen?_of_block (a := ⟨g, 1, none⟩) (hgr2.block g hgl (Option.some_ne_none g))).trans f1; obtain ⟨a2, n2, cap2, rfl⟩ := hown2.slice_))
        go_ret
        exact take_some hH.out hE.out hown2 hgr2
      · have hcq2 : q < cap := by omega
        have hN := Lib.hid (show Nums .u8 256 w (.slice (some ⟨b, q, none⟩) 0 (cap - q)) ((bytesOf V R).drop q) by rw [hD]; exact Nums.empty _ _ _ _ _ _ (by omega))
        clear hl0 hD hcm
        go_enter Try.func52, Try.ntmps52
        go_wp2_with (first
          | (go_at_call 64; refine (hI.out _ c2).mono ?_; rintro e w1 ⟨rfl, rfl⟩)
          | (at_builtin; refine wpList_append_nums_at rfl (.const (Value.slice none 0 0)) (.tmp 45) 33 5 rfl .u8 256 1 w.heap.size u8s (.slice none 0 0) [] rfl hO.out _ _ rfl hN.out hb1.out hb2.out (Nat.le_refl _) ?_; intro v2 w2 hown2 hgr2 _; have c3 := (World.cell?_of_block (a := ⟨g, 1, none⟩) (hgr2.block g hgl (Option.some_ne_none g))).trans c1; have f3 := (World.frozen?_of_block (a := ⟨g, 1, none⟩) (hgr2.block g hgl (Option.some_ne_none g))).trans f1; obtain ⟨a2, n2, cap2, rfl⟩ := hown2.slice_))
        go_ret
        exact take_some hH.out hE.out hown2 hgr2
    · have ht : ((at_ : Int) != 0) = true := by simp; omega
      have hl0 : (bytesOf V R).length = q + 1 := by rw [hL.out]; have := hA.out; have := hE.out; omega
      rw [hl0] at c1 hcap hH ⊢
      have hN := hH.out.own.nums.drop q (by omega)
      rw [Nat.zero_add, show q + 1 - q = 1 from by omega] at hN
      have hN := Lib.hid hN
      have hcq2 : q < cap := by omega
      have hcm : cap ≤ 9223372036854775807 := by obtain ⟨_, _, e, h1, h2, _⟩ := hH.out.own.nums.shape; simp only [Value.slice.injEq] at e; unfold maxLen at h2; omega
      clear hl0
      go_enter Try.func52, Try.ntmps52
      go_wp2_with (first
        | (go_at_call 64; refine (hI.out _ c2).mono ?_; rintro e w1 ⟨rfl, rfl⟩)
        | (at_builtin; refine wpList_append_nums_at rfl (.const (Value.slice none 0 0)) (.tmp 45) 33 5 rfl .u8 256 1 w.heap.size u8s (.slice none 0 0) [] rfl hO.out _ _ rfl hN.out hb1.out hb2.out (Nat.le_refl _) ?_; intro v2 w2 hown2 hgr2 _; have c3 := (World.cell?_of_block (a := ⟨g, 1, none⟩) (hgr2.block g hgl (Option.some_ne_none g))).trans c1; have f3 := (World.frozen?_of_block (a := ⟨g, 1, none⟩) (hgr2.block g hgl (Option.some_ne_none g))).trans f1; obtain ⟨a2, n2, cap2, rfl⟩ := hown2.slice_))
      go_ret
      exact take_some hH.out hE.out hown2 hgr2
end Go.Proofs.Ytighlefajekloaa.BitsX
