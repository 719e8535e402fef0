/- Package zlib: told. Printed by mkpngc.py. -/
import Derived.Test.YtighlefajekloaaPngN
import Derived.Test.YtighlefajekloaaNumSl
import Derived.Test.YtighlefajekloaaLow
import Derived.Laws.EntriesVeiled
set_option linter.unusedVariables false
set_option linter.unusedSimpArgs false
namespace Go.Proofs.Ytighlefajekloaa.PngC
open Go.RowKit Base Low NumSl
/-- what stands ahead of a stream, the first time -/
def headZ (bg : Bool) : List Nat := if bg then [] else [120, 1]
set_option maxRecDepth 100000 in
set_option maxHeartbeats 2000000 in
theorem told_write (w : World) (gz : Nat) (bg : Bool) (c7 c3 : Nat) (en pb sm : Value) (bs : List Nat) (O : Nat → Prop) (St : World → Value → Prop)
    (hrow : w.heap[gz]? = some (.cells #[.bool true, .bool bg, en, pb, sm] 77))
    (hO : ∀ k, O k → k < w.heap.size ∧ ¬ k = gz) (hbs : bs.length ≤ 1000000)
    (hC : ∀ w1, Keeps (fun k => k = gz) w w1 → Calls Try.prog 39 #[.pointer (some ⟨c7, 0, none⟩), .pointer (some ⟨c3, 0, none⟩)] w1 fun e w2 => ∃ x, e = .returned (.tuple #[x, .int .i64 0]) ∧ Nums .u8 256 w2 x bs ∧ Keeps O w1 w2 ∧ ∀ w3 v, Keeps (fun k => w.heap.size ≤ k ∧ k < w1.heap.size) w2 w3 → (∀ k, v.ownBlock = some k → (w.heap.size ≤ k ∧ k < w1.heap.size) ∨ w2.heap.size ≤ k) → St w3 v) :
    Calls Try.prog 38 #[.pointer (some ⟨gz, 0, none⟩), .func (.func 39) #[] #[.pointer (some ⟨c7, 0, none⟩), .pointer (some ⟨c3, 0, none⟩)]] w fun e w' => ∃ y, e = .returned y ∧ Own .u8 256 5 w.heap.size w' y (headZ bg ++ bs) ∧ Keeps (fun k => k = gz ∨ O k) w w' ∧ St w' y ∧ w'.heap[gz]? = some (.cells #[.bool true, .bool true, en, pb, sm] 77) := by
  have HROW := Lib.hid hrow
  have HO := Lib.hid hO
  have HC := Lib.hid hC
  have y1 : w.cell? ⟨gz, 1, none⟩ = some (.bool bg) := cell_of_row _ _ 1 _ _ _ hrow
  clear hrow hO hC
  go_enter Try.func38, Try.ntmps38
  cases bg with
  | true =>
    go_wp2_with fail
    refine (HC.out w (Keeps.refl _ w)).mono ?_
    rintro e w2 ⟨x, rfl, hx, hk2, hst⟩
    have HX := Lib.hid hx
    have HK2 := Lib.hid hk2
    have HST := Lib.hid hst
    have hbs2 := hk2.size
    have HL := Lib.hid (show (([] : List Nat).length + bs.length) * 1 ≤ 140737488355328 by simp; omega)
    have HL2 := Lib.hid (show ([] : List Nat).length + bs.length ≤ 140737488355328 by simp; omega)
    clear hx hk2 hst
    go_wp2_with (at_builtin; refine wpList_append_nums_at rfl (.tmp 24) (.tmp 25) 33 5 rfl .u8 256 1 w.heap.size u8s (.slice none 0 0) [] rfl (Own.nil _ _ _ _ _) x bs rfl HX.out HL.out HL2.out hbs2 ?_; intro v4 w4 ho4 hg4 hf4; have HO4 := Lib.hid ho4; have HG4 := Lib.hid hg4; have HF4 := Lib.hid hf4; clear ho4 hg4 hf4)
    go_ret
    have hk4 : Keeps (fun k => w.heap.size ≤ k ∧ k < w.heap.size) w2 w4 := (Keeps.refl _ w2).grown HG4.out (fun k hk => by simp [Value.ownBlock] at hk)
    refine ⟨v4, rfl, HO4.out, ?_, HST.out w4 v4 hk4 (fun k hk => ?_), ?_⟩
    · exact (HK2.out.mono (fun k h => .inr h)).trans hk4 (fun k h => .inr h.1)
    · rcases HF4.out with h | h
      · rw [h] at hk; cases hk
      · exact .inr (h k hk)
    · have h1 := HK2.out.block gz (lt_of_heap HROW.out) (fun h => (HO.out gz h).2 rfl)
      have h2 := hk4.block gz (by have := lt_of_heap HROW.out; omega) (fun h => by omega)
      rw [h2, h1]; exact HROW.out
  | false =>
    have HN := Lib.hid (nums_blk .u8 256 (heap_alloc_new w (.cells #[.int .u8 120, .int .u8 1] 5)) [120, 1] (by decide) (by decide) rfl 2 rfl)
    have hba := ext_alloc w (.cells #[.int .u8 120, .int .u8 1] 5)
    have HB := Lib.hid hba
    have hr1 := (hba.block gz (lt_of_heap HROW.out)).trans HROW.out
    have HR1 := Lib.hid hr1
    have hsz := hba.size
    have hbs0 : w.heap.size ≤ (w.alloc (.cells #[.int .u8 120, .int .u8 1] 5)).heap.size := hsz
    clear hba hr1 hsz
    go_wp2_with (at_builtin; refine wpList_append_nums_at rfl (.tmp 13) (.tmp 14) 33 5 rfl .u8 256 1 w.heap.size u8s (.slice none 0 0) [] rfl (Own.nil _ _ _ _ _) _ [120, 1] rfl HN.out (by decide) (by decide) hbs0 ?_; intro v1 w1 ho1 hg1 hf1; obtain ⟨a1, n1, c1, rfl⟩ := ho1.slice_; have HO1 := Lib.hid ho1; have hk1 := (Keeps.refl (fun _ => False) (w.alloc (.cells #[.int .u8 120, .int .u8 1] 5))).grown hg1 (fun k hk => by simp [Value.ownBlock] at hk); have hr2 := (hk1.block gz (lt_of_heap HR1.out) (fun h => h)).trans HR1.out; have HR2 := Lib.hid hr2; have HK1 := Lib.hid hk1; have z1 : w1.cell? ⟨gz, 1, none⟩ = some (.bool false) := cell_of_row _ _ 1 _ _ _ hr2; have f1 := frozen_of_row _ _ 1 _ _ hr2; clear ho1 hg1 hf1 hk1 hr2)
    have hk1s := ((Keeps.of_ext HB.out (fun k => k = gz)).trans HK1.out (fun k h => h.elim)).setCell gz 1 (.bool true) (.inl rfl)
    have hr3 := heap_setCell_same w1 gz 1 _ _ (.bool true) HR2.out
    have ho3 := HO1.out.frame ((Keeps.refl (fun b => b = gz) w1).setCell gz 1 (.bool true) (.inl rfl)) (fun k hk e => by have h1 := (HO1.out.row.lt k hk).1; have h2 := lt_of_heap HROW.out; omega)
    refine (HC.out _ hk1s).mono ?_
    have hlt1 := fun k (hk : Value.ownBlock (.slice a1 n1 c1) = some k) => HO1.out.row.lt k hk
    have hzs : (w1.setCell ⟨gz, 1, none⟩ (.bool true)).heap.size = w1.heap.size := by simp
    generalize w1.setCell ⟨gz, 1, none⟩ (.bool true) = w1s at *
    rintro e w2 ⟨x, rfl, hx, hk2, hst⟩
    have HX := Lib.hid hx
    have HK2 := Lib.hid hk2
    have HST := Lib.hid hst
    have HR3 := Lib.hid ((hk2.block gz (lt_of_heap hr3) (fun h => (HO.out gz h).2 rfl)).trans hr3)
    have HO3 := Lib.hid (ho3.frame hk2 (fun k hk h => by have h1 := (HO.out k h).1; have h2 := (hlt1 k hk).1; omega))
    have HKW := Lib.hid ((hk1s.mono (fun k h => .inl h)).trans hk2 (fun k h => .inl (.inr h)) : Keeps (fun k => k = gz ∨ O k) w w2)
    have HLT := Lib.hid hlt1
    have HZS := Lib.hid hzs
    have hbs2 := HKW.out.size
    have HL := Lib.hid (show (([] ++ [120, 1] : List Nat).length + bs.length) * 1 ≤ 140737488355328 by simp; omega)
    have HL2 := Lib.hid (show ([] ++ [120, 1] : List Nat).length + bs.length ≤ 140737488355328 by simp; omega)
    clear hx hk2 hst hr3 ho3 hlt1 hk1s hzs
    go_wp2_with (at_builtin; refine wpList_append_nums_at rfl (.tmp 24) (.tmp 25) 33 5 rfl .u8 256 1 w.heap.size u8s (.slice a1 n1 c1) ([] ++ [120, 1]) rfl HO3.out x bs rfl HX.out HL.out HL2.out hbs2 ?_; intro v4 w4 ho4 hg4 hf4; have HO4 := Lib.hid ho4; have HG4 := Lib.hid hg4; have HF4 := Lib.hid hf4; clear ho4 hg4 hf4)
    go_ret
    have hk4 : Keeps (fun k => w.heap.size ≤ k ∧ k < w1s.heap.size) w2 w4 := (Keeps.refl _ w2).grown HG4.out (fun k hk => .inl (by have := HLT.out k hk; rw [HZS.out]; exact this))
    refine ⟨v4, rfl, HO4.out, HKW.out.trans hk4 (fun k h => .inr h.1), HST.out w4 v4 hk4 (fun k hk => ?_), ?_⟩
    · rcases HF4.out with h | h
      · rw [h] at hk; exact .inl (by have := HLT.out k hk; rw [HZS.out]; exact this)
      · exact .inr (h k hk)
    rw [hk4.block gz (lt_of_heap HR3.out) (fun h => by have h2 := lt_of_heap HROW.out; omega)]
    exact HR3.out
set_option maxRecDepth 100000 in
set_option maxHeartbeats 2000000 in
theorem told_end (w : World) (gz : Nat) (bg : Bool) (gw : Nat) (en pb sm : Value) (bs : List Nat) (O : Nat → Prop) (St : World → Value → Prop)
    (hrow : w.heap[gz]? = some (.cells #[.bool true, .bool bg, en, pb, sm] 77))
    (hO : ∀ k, O k → k < w.heap.size ∧ ¬ k = gz) (hbs : bs.length ≤ 1000000)
    (hC : ∀ w1, Keeps (fun k => k = gz) w w1 → Calls Try.prog 40 #[.pointer (some ⟨gw, 0, none⟩)] w1 fun e w2 => ∃ x, e = .returned (.tuple #[x, .int .i64 0]) ∧ Nums .u8 256 w2 x bs ∧ Keeps O w1 w2 ∧ ∀ w3 v, Keeps (fun k => w.heap.size ≤ k ∧ k < w1.heap.size) w2 w3 → (∀ k, v.ownBlock = some k → (w.heap.size ≤ k ∧ k < w1.heap.size) ∨ w2.heap.size ≤ k) → St w3 v) :
    Calls Try.prog 38 #[.pointer (some ⟨gz, 0, none⟩), .func (.func 40) #[.pointer (some ⟨gw, 0, none⟩)] #[]] w fun e w' => ∃ y, e = .returned y ∧ Own .u8 256 5 w.heap.size w' y (headZ bg ++ bs) ∧ Keeps (fun k => k = gz ∨ O k) w w' ∧ St w' y ∧ w'.heap[gz]? = some (.cells #[.bool true, .bool true, en, pb, sm] 77) := by
  have HROW := Lib.hid hrow
  have HO := Lib.hid hO
  have HC := Lib.hid hC
  have y1 : w.cell? ⟨gz, 1, none⟩ = some (.bool bg) := cell_of_row _ _ 1 _ _ _ hrow
  clear hrow hO hC
  go_enter Try.func38, Try.ntmps38
  cases bg with
  | true =>
    go_wp2_with fail
    refine (HC.out w (Keeps.refl _ w)).mono ?_
    rintro e w2 ⟨x, rfl, hx, hk2, hst⟩
    have HX := Lib.hid hx
    have HK2 := Lib.hid hk2
    have HST := Lib.hid hst
    have hbs2 := hk2.size
    have HL := Lib.hid (show (([] : List Nat).length + bs.length) * 1 ≤ 140737488355328 by simp; omega)
    have HL2 := Lib.hid (show ([] : List Nat).length + bs.length ≤ 140737488355328 by simp; omega)
    clear hx hk2 hst
    go_wp2_with (at_builtin; refine wpList_append_nums_at rfl (.tmp 24) (.tmp 25) 33 5 rfl .u8 256 1 w.heap.size u8s (.slice none 0 0) [] rfl (Own.nil _ _ _ _ _) x bs rfl HX.out HL.out HL2.out hbs2 ?_; intro v4 w4 ho4 hg4 hf4; have HO4 := Lib.hid ho4; have HG4 := Lib.hid hg4; have HF4 := Lib.hid hf4; clear ho4 hg4 hf4)
    go_ret
    have hk4 : Keeps (fun k => w.heap.size ≤ k ∧ k < w.heap.size) w2 w4 := (Keeps.refl _ w2).grown HG4.out (fun k hk => by simp [Value.ownBlock] at hk)
    refine ⟨v4, rfl, HO4.out, ?_, HST.out w4 v4 hk4 (fun k hk => ?_), ?_⟩
    · exact (HK2.out.mono (fun k h => .inr h)).trans hk4 (fun k h => .inr h.1)
    · rcases HF4.out with h | h
      · rw [h] at hk; cases hk
      · exact .inr (h k hk)
    · have h1 := HK2.out.block gz (lt_of_heap HROW.out) (fun h => (HO.out gz h).2 rfl)
      have h2 := hk4.block gz (by have := lt_of_heap HROW.out; omega) (fun h => by omega)
      rw [h2, h1]; exact HROW.out
  | false =>
    have HN := Lib.hid (nums_blk .u8 256 (heap_alloc_new w (.cells #[.int .u8 120, .int .u8 1] 5)) [120, 1] (by decide) (by decide) rfl 2 rfl)
    have hba := ext_alloc w (.cells #[.int .u8 120, .int .u8 1] 5)
    have HB := Lib.hid hba
    have hr1 := (hba.block gz (lt_of_heap HROW.out)).trans HROW.out
    have HR1 := Lib.hid hr1
    have hsz := hba.size
    have hbs0 : w.heap.size ≤ (w.alloc (.cells #[.int .u8 120, .int .u8 1] 5)).heap.size := hsz
    clear hba hr1 hsz
    go_wp2_with (at_builtin; refine wpList_append_nums_at rfl (.tmp 13) (.tmp 14) 33 5 rfl .u8 256 1 w.heap.size u8s (.slice none 0 0) [] rfl (Own.nil _ _ _ _ _) _ [120, 1] rfl HN.out (by decide) (by decide) hbs0 ?_; intro v1 w1 ho1 hg1 hf1; obtain ⟨a1, n1, c1, rfl⟩ := ho1.slice_; have HO1 := Lib.hid ho1; have hk1 := (Keeps.refl (fun _ => False) (w.alloc (.cells #[.int .u8 120, .int .u8 1] 5))).grown hg1 (fun k hk => by simp [Value.ownBlock] at hk); have hr2 := (hk1.block gz (lt_of_heap HR1.out) (fun h => h)).trans HR1.out; have HR2 := Lib.hid hr2; have HK1 := Lib.hid hk1; have z1 : w1.cell? ⟨gz, 1, none⟩ = some (.bool false) := cell_of_row _ _ 1 _ _ _ hr2; have f1 := frozen_of_row _ _ 1 _ _ hr2; clear ho1 hg1 hf1 hk1 hr2)
    have hk1s := ((Keeps.of_ext HB.out (fun k => k = gz)).trans HK1.out (fun k h => h.elim)).setCell gz 1 (.bool true) (.inl rfl)
    have hr3 := heap_setCell_same w1 gz 1 _ _ (.bool true) HR2.out
    have ho3 := HO1.out.frame ((Keeps.refl (fun b => b = gz) w1).setCell gz 1 (.bool true) (.inl rfl)) (fun k hk e => by have h1 := (HO1.out.row.lt k hk).1; have h2 := lt_of_heap HROW.out; omega)
    refine (HC.out _ hk1s).mono ?_
    have hlt1 := fun k (hk : Value.ownBlock (.slice a1 n1 c1) = some k) => HO1.out.row.lt k hk
    have hzs : (w1.setCell ⟨gz, 1, none⟩ (.bool true)).heap.size = w1.heap.size := by simp
    generalize w1.setCell ⟨gz, 1, none⟩ (.bool true) = w1s at *
    rintro e w2 ⟨x, rfl, hx, hk2, hst⟩
    have HX := Lib.hid hx
    have HK2 := Lib.hid hk2
    have HST := Lib.hid hst
    have HR3 := Lib.hid ((hk2.block gz (lt_of_heap hr3) (fun h => (HO.out gz h).2 rfl)).trans hr3)
    have HO3 := Lib.hid (ho3.frame hk2 (fun k hk h => by have h1 := (HO.out k h).1; have h2 := (hlt1 k hk).1; omega))
    have HKW := Lib.hid ((hk1s.mono (fun k h => .inl h)).trans hk2 (fun k h => .inl (.inr h)) : Keeps (fun k => k = gz ∨ O k) w w2)
    have HLT := Lib.hid hlt1
    have HZS := Lib.hid hzs
    have hbs2 := HKW.out.size
    have HL := Lib.hid (show (([] ++ [120, 1] : List Nat).length + bs.length) * 1 ≤ 140737488355328 by simp; omega)
    have HL2 := Lib.hid (show ([] ++ [120, 1] : List Nat).length + bs.length ≤ 140737488355328 by simp; omega)
    clear hx hk2 hst hr3 ho3 hlt1 hk1s hzs
    go_wp2_with (at_builtin; refine wpList_append_nums_at rfl (.tmp 24) (.tmp 25) 33 5 rfl .u8 256 1 w.heap.size u8s (.slice a1 n1 c1) ([] ++ [120, 1]) rfl HO3.out x bs rfl HX.out HL.out HL2.out hbs2 ?_; intro v4 w4 ho4 hg4 hf4; have HO4 := Lib.hid ho4; have HG4 := Lib.hid hg4; have HF4 := Lib.hid hf4; clear ho4 hg4 hf4)
    go_ret
    have hk4 : Keeps (fun k => w.heap.size ≤ k ∧ k < w1s.heap.size) w2 w4 := (Keeps.refl _ w2).grown HG4.out (fun k hk => .inl (by have := HLT.out k hk; rw [HZS.out]; exact this))
    refine ⟨v4, rfl, HO4.out, HKW.out.trans hk4 (fun k h => .inr h.1), HST.out w4 v4 hk4 (fun k hk => ?_), ?_⟩
    · rcases HF4.out with h | h
      · rw [h] at hk; exact .inl (by have := HLT.out k hk; rw [HZS.out]; exact this)
      · exact .inr (h k hk)
    rw [hk4.block gz (lt_of_heap HR3.out) (fun h => by have h2 := lt_of_heap HROW.out; omega)]
    exact HR3.out
end Go.Proofs.Ytighlefajekloaa.PngC
