/- Package zlib: New, Write, End. -/
import Derived.Test.YtighlefajekloaaPngC
import Derived.Test.YtighlefajekloaaDefCb
import Derived.Test.YtighlefajekloaaSumsW
import Derived.Test.YtighlefajekloaaDefX
import Derived.Test.YtighlefajekloaaQu
set_option linter.unusedVariables false
set_option linter.unusedSimpArgs false
namespace Go.Proofs.Ytighlefajekloaa.PngD
open Go.RowKit Go.Sort Base Low NumSl DefO DefS DefCa DefCb SumsM SumsW Qb Qt Qp Qy Rec PngC
theorem state_any (w : World) (gz : Nat) (bg : Bool) (pb sm : Value) (h : w.heap[gz]? = some (.cells #[.bool true, .bool bg, .bool false, pb, sm] 77)) :
    Calls Try.prog 35 #[.pointer (some ⟨gz, 0, none⟩)] w fun e w' => e = .returned (.int .i64 0) ∧ w = w' := by
  have c0 : w.cell? ⟨gz, 0, none⟩ = some (.bool true) := cell_of_row _ _ 0 _ _ _ h
  have c2 : w.cell? ⟨gz, 2, none⟩ = some (.bool false) := cell_of_row _ _ 2 _ _ _ h
  clear h
  go_enter Try.func35, Try.ntmps35
  go_wp2_with fail
  go_ret
  exact ⟨rfl, rfl⟩
theorem bits_out_len (B b : List Nat) : (outN (bitsW (B ++ b)) ((bitsW B).length / 8)).length ≤ 10 * (B ++ b).length := by
  unfold outN
  rw [BitsM.bytesN_length]
  have := bitsW_len (B ++ b)
  omega
/-- a zlib writer: B was written to it -/
structure Zs (base : Nat) (w : World) (gz : Nat) (s : Dg) (bg : Bool) (B : List Nat) : Prop where
  row : w.heap[gz]? = some (.cells #[.bool true, .bool bg, .bool false, .pointer (some ⟨s.gW, 0, none⟩), .int .u32 (adler 1 B : Nat)] 77)
  ws : Ws base w s B
  low : base ≤ gz
  off : ¬ s.own gz
theorem Zs.frame {base : Nat} {w w' : World} {gz : Nat} {s : Dg} {bg : Bool} {B : List Nat} {D : Nat → Prop} (h : Zs base w gz s bg B) (hk : Keeps D w w') (hD : ∀ k, k = gz ∨ s.own k → ¬ D k) : Zs base w' gz s bg B :=
  ⟨(hk.block gz (lt_of_heap h.row) (hD gz (.inl rfl))).trans h.row, h.ws.frame hk (fun k hk => hD k (.inr hk)), h.low, h.off⟩
theorem new_z (base : Nat) (w : World) (hbase : base ≤ w.heap.size) :
    Calls Try.prog 21 #[] w fun e w' => ∃ gz s, e = .returned (.pointer (some ⟨gz, 0, none⟩)) ∧ Zs base w' gz s false [] ∧ Below w.heap.size w w' ∧ ∀ k, k = gz ∨ s.own k → w.heap.size ≤ k := by
  go_enter Try.func21, Try.ntmps21
  go_wp2_with fail
  refine (new_any base w hbase).mono ?_
  rintro e w1 ⟨s, rfl, hs, hb1, hown⟩
  have HS := Lib.hid hs
  have HB := Lib.hid hb1
  have HO := Lib.hid hown
  clear hs hb1 hown
  go_wp2_with fail
  go_ret
  have hx := ext_alloc w1 (.cells #[.bool true, .bool false, .bool false, .pointer (some ⟨s.gW, 0, none⟩), .int .u32 1] 77)
  refine ⟨w1.heap.size, s, rfl, ⟨heap_alloc_new _ _, HS.out.frame (Keeps.of_ext hx (fun _ => False)) (fun _ _ => id), Nat.le_trans hbase HB.out.size, fun h => ?_⟩, HB.out.trans (hx.mono HB.out.size), ?_⟩
  · have := (HS.out.low _ h).2; omega
  · rintro k (rfl | hk)
    · exact HB.out.size
    · exact HO.out k hk
/-- the closure that writes -/
theorem pack_any (base : Nat) (w : World) (s : Dg) (B b : List Nat) (h : Ws base w s B) (u : Value) (hu : Nums .u8 256 w u b) (hlen : (B ++ b).length ≤ 36864) (c7 c3 : Nat)
    (h7 : w.heap[c7]? = some (.cells #[.func (.func 37) #[.pointer (some ⟨s.gW, 0, none⟩)] #[]] 56)) (h3 : w.heap[c3]? = some (.cells #[u] 33)) :
    Calls Try.prog 39 #[.pointer (some ⟨c7, 0, none⟩), .pointer (some ⟨c3, 0, none⟩)] w fun e w' => ∃ x s', e = .returned (.tuple #[x, .int .i64 0]) ∧ (Nums .u8 256 w' x (outN (bitsW (B ++ b)) ((bitsW B).length / 8)) ∧ ∃ a n, x = .slice a n n) ∧ Ws base w' s' (B ++ b) ∧ Evo w s w' s' := by
  obtain ⟨a, c, rfl, -, -⟩ := hu.open_
  have HW := Lib.hid (write_any base w s B b h _ hu hlen)
  have c0 : w.cell? ⟨c7, 0, none⟩ = some (.func (.func 37) #[.pointer (some ⟨s.gW, 0, none⟩)] #[]) := cell_of_row _ _ 0 _ _ _ h7
  have c1 : w.cell? ⟨c3, 0, none⟩ = some (.slice a b.length c) := cell_of_row _ _ 0 _ _ _ h3
  clear h7 h3
  go_enter Try.func39, Try.ntmps39
  go_wp2_with fail
  refine HW.out.mono ?_
  rintro e w1 ⟨x, s', rfl, hx, hs, he, -⟩
  have HX := Lib.hid hx
  have HS := Lib.hid hs
  have HE := Lib.hid he
  clear hx hs he
  go_wp2_with fail
  go_ret2
  exact ⟨x, s', rfl, HX.out, HS.out, HE.out⟩
set_option maxRecDepth 100000 in
set_option maxHeartbeats 2000000 in
theorem write_z (base : Nat) (w : World) (gz : Nat) (s : Dg) (bg : Bool) (B b : List Nat) (h : Zs base w gz s bg B) (u : Value) (hu : Nums .u8 256 w u b) (hug : ∀ k, u.ownBlock = some k → ¬ k = gz) (hlen : (B ++ b).length ≤ 36864) :
    Calls Try.prog 24 #[.pointer (some ⟨gz, 0, none⟩), u] w fun e w' => ∃ y s', e = .returned (.tuple #[y, .int .i64 0]) ∧ Own .u8 256 5 w.heap.size w' y (headZ bg ++ outN (bitsW (B ++ b)) ((bitsW B).length / 8)) ∧ Zs base w' gz s' true (B ++ b) ∧ Keeps (fun k => k = gz ∨ s.own k) w w' ∧ s'.gW = s.gW ∧ (∀ k, s'.own k → s.own k ∨ w.heap.size ≤ k) ∧ ∀ k, y.ownBlock = some k → ¬ s'.own k := by
  obtain ⟨a, c, rfl, -, -⟩ := hu.open_
  have HU := Lib.hid hu
  have HH := Lib.hid h
  have HG := Lib.hid hug
  clear hu h hug
  go_enter Try.func24, Try.ntmps24
  go_wp2_with fail
  have hx3 := ext_alloc w (.cells #[.slice a b.length c] 33)
  have hr3 := heap_alloc_new w (.cells #[.slice a b.length c] 33)
  obtain ⟨c3, hc3⟩ : ∃ g, g = w.heap.size := ⟨_, rfl⟩
  rw [← hc3] at hr3 ⊢
  generalize w.alloc (.cells #[.slice a b.length c] 33) = w1 at *
  have HX3 := Lib.hid hx3
  have HR3 := Lib.hid hr3
  have HC3 := Lib.hid hc3
  have HR1 := Lib.hid ((hx3.block gz (lt_of_heap HH.out.row)).trans HH.out.row)
  have HU1 := Lib.hid (HU.out.below hx3 (Nat.le_refl _))
  clear hx3 hr3 hc3
  refine (state_any w1 gz _ _ _ HR1.out).mono ?_
  rintro e w2 ⟨rfl, rfl⟩
  go_upto_region 4 with (fail)
  have z4 : ∀ d os, (grow (redrawn w1 d) os).cell? ⟨gz, 4, none⟩ = some (.int .u32 (adler 1 B : Nat)) := fun d os => cell_regrown (cell_of_row _ _ 4 _ _ _ HR1.out) d os
  have z3 : ∀ d os, (grow (redrawn w1 d) os).cell? ⟨c3, 0, none⟩ = some (.slice a b.length c) := fun d os => cell_regrown (cell_of_row _ _ 0 _ _ _ HR3.out) d os
  have Q1 := Lib.hid (fun d os => qb (P := Try.prog) (f := 36) (args := #[.int .u32 (adler 1 B : Nat), .slice a b.length c]) (W := w1) (v := .int .u32 (adler 1 (B ++ b) : Nat)) (fun wq hb => (adler_any (adler 1 B) (by have := adler_lt 1 B; omega) _ b wq (HU1.out.below hb (Nat.le_refl _))).mono (by rintro e w' ⟨rfl, rfl⟩; exact ⟨by rw [adler_append], Below.refl _ _⟩)) d os)
  refine wp_region_below_tail 9 (by kernel_rfl) (by kernel_rfl) ?_
  simp only [List.take_succ_cons, List.take_zero, List.drop_succ_cons, List.drop_zero]
  repeat (go_big_quiet_step (first | (with_reducible exact Q1.out _ _)))
  refine wpQuiet_nil ?_
  first | (rintro _ ⟨⟨dq, osq⟩, rfl⟩) | (rintro ⟨dq, osq⟩)
  have hb := below_regrown w1 dq osq
  generalize grow (redrawn w1 dq) osq = w2 at *
  have hr2 := (hb.block gz (lt_of_heap HR1.out)).trans HR1.out
  have y4 : w2.cell? ⟨gz, 4, none⟩ = some (.int .u32 (adler 1 B : Nat)) := cell_of_row _ _ 4 _ _ _ hr2
  have f4 := frozen_of_row _ _ 4 _ _ hr2
  have HB2 := Lib.hid (HX3.out.trans (hb.mono HX3.out.size))
  have HR2 := Lib.hid hr2
  have hc9 : c3 < w1.heap.size := lt_of_heap HR3.out
  have HR3b := Lib.hid ((hb.block c3 hc9).trans HR3.out)
  clear hb z4 z3 Q1 hr2
  go_upto_region 5 with (fail)
  have hk3 := (Keeps.of_ext HB2.out (fun k => k = gz)).setCell gz 4 (.int .u32 (adler 1 (B ++ b) : Nat)) (.inl rfl)
  have hr3 : (w2.setCell ⟨gz, 4, none⟩ (.int .u32 (adler 1 (B ++ b) : Nat))).heap[gz]? = some (.cells #[.bool true, .bool bg, .bool false, .pointer (some ⟨s.gW, 0, none⟩), .int .u32 (adler 1 (B ++ b) : Nat)] 77) := heap_setCell_same w2 gz 4 _ _ (.int .u32 (adler 1 (B ++ b) : Nat)) HR2.out
  have hgc : ¬ c3 = gz := by have := lt_of_heap HH.out.row; have := HC3.out; omega
  have hc3 : (w2.setCell ⟨gz, 4, none⟩ (.int .u32 (adler 1 (B ++ b) : Nat))).heap[c3]? = some (.cells #[.slice a b.length c] 33) :=
    (((Keeps.refl (fun k => k = gz) w2).setCell gz 4 (.int .u32 (adler 1 (B ++ b) : Nat)) (.inl rfl)).block c3 (lt_of_heap HR3b.out) hgc).trans HR3b.out
  generalize w2.setCell ⟨gz, 4, none⟩ (.int .u32 (adler 1 (B ++ b) : Nat)) = w3 at *
  have y3 : w3.cell? ⟨gz, 3, none⟩ = some (.pointer (some ⟨s.gW, 0, none⟩)) := cell_of_row _ _ 3 _ _ _ hr3
  have HK3 := Lib.hid hk3
  have HRW := Lib.hid hr3
  have HC3b := Lib.hid hc3
  clear hk3 hr3 hc3 y4 f4 hc9
  go_upto_region 6 with (fail)
  have hx4 := ext_alloc w3 (.cells #[.func (.func 37) #[.pointer (some ⟨s.gW, 0, none⟩)] #[]] 56)
  have hr7 := heap_alloc_new w3 (.cells #[.func (.func 37) #[.pointer (some ⟨s.gW, 0, none⟩)] #[]] 56)
  obtain ⟨c7, hc7⟩ : ∃ g, g = w3.heap.size := ⟨_, rfl⟩
  rw [← hc7] at hr7 ⊢
  generalize w3.alloc (.cells #[.func (.func 37) #[.pointer (some ⟨s.gW, 0, none⟩)] #[]] 56) = w4 at *
  have hk4 : Keeps (fun k => k = gz) w w4 := HK3.out.trans (Keeps.of_ext hx4 (fun _ => False)) (fun k h => h.elim)
  have hr4 := (hx4.block gz (lt_of_heap HRW.out)).trans HRW.out
  have hc4 := (hx4.block c3 (lt_of_heap HC3b.out)).trans HC3b.out
  have hlow := HH.out.ws.low
  have hgw := lt_of_heap HH.out.row
  have h7g : ¬ c7 = gz := by have := HK3.out.size; omega
  have hbl := bits_out_len B b
  have HT := Lib.hid (told_write w4 gz bg c7 c3 _ _ _ (outN (bitsW (B ++ b)) ((bitsW B).length / 8)) s.own (fun w' v => ∃ s', Ws base w' s' (B ++ b) ∧ s'.gW = s.gW ∧ (∀ k, s'.own k → s.own k ∨ w.heap.size ≤ k) ∧ ∀ k, v.ownBlock = some k → ¬ s'.own k) hr4 (fun k hk => ⟨Nat.lt_of_lt_of_le (hlow k hk).2 hk4.size, fun e => HH.out.off (by rw [← e]; exact hk)⟩) (by omega) (fun w1' hk1' => by
    have hkw : Keeps (fun k => k = gz) w w1' := hk4.trans hk1' (fun k h => .inl h)
    refine (pack_any base w1' s B b (HH.out.ws.frame hkw (fun k hk e => HH.out.off (by rw [← e]; exact hk))) _ (HU.out.frame hkw (fun k hk => HG.out k hk)) hlen c7 c3 ((hk1'.block c7 (lt_of_heap hr7) h7g).trans hr7) ((hk1'.block c3 (lt_of_heap hc4) hgc).trans hc4)).mono ?_
    · rintro e w2' ⟨x, s', rfl, ⟨hx, -⟩, hs', he⟩
      refine ⟨x, rfl, hx, he.keeps, fun w3' v hk3' hv => ⟨s', hs'.frame hk3' (fun k hk h => ?_), he.gW, fun k hk => ?_, fun k hk h => ?_⟩⟩
      · rcases he.fresh k hk with h1 | h1
        · have := (hlow k h1).2; have := hk4.size; omega
        · omega
      · rcases he.fresh k hk with h1 | h1
        · exact .inl h1
        · exact .inr (Nat.le_trans hkw.size h1)
      · have h9 := (hs'.low k h).2
        rcases he.fresh k h with h1 | h1
        · have := (hlow k h1).2
          have := hk4.size
          have := hkw.size
          have := he.keeps.size
          rcases hv k hk with h2 | h2 <;> omega
        · rcases hv k hk with h2 | h2 <;> omega))
  clear hc7
  go_wp2_with fail
  refine HT.out.mono ?_
  rintro e w5 ⟨y, rfl, ho5, hk5, ⟨s', hs', hg', hf', hd'⟩, hr5⟩
  have HO5 := Lib.hid ho5
  have HK5 := Lib.hid hk5
  have HS5 := Lib.hid hs'
  have HR5 := Lib.hid hr5
  clear ho5 hk5 hs' hr5 HT
  go_wp2_with fail
  go_ret2
  refine ⟨y, s', rfl, HO5.out.mono hk4.size, ⟨by rw [hg']; exact HR5.out, HS5.out, HH.out.low, fun h => ?_⟩, (hk4.mono (fun k h => .inl h)).trans HK5.out (fun k h => .inl h), hg', hf', hd'⟩
  rcases hf' gz h with h1 | h1
  · exact HH.out.off h1
  · omega
/-! a row of bytes as records of one cell -/
def encB (x : Nat) : List Value := [.int .u8 (x : Int)]
theorem bytesR : RecSlice Try.prog 33 5 1 encB (.int .u8 0) 1 := recSlice Try.underlying33 (by kernel_rfl) rfl (fun x u hu => by simp only [encB, List.mem_singleton] at hu; subst hu; rfl) (fun _ => rfl) (by omega)
theorem encB_flat (l : List Nat) : l.flatMap encB = numCells .u8 l := by
  induction l with
  | nil => rfl
  | cons x l ih => rw [List.flatMap_cons, ih]; rfl
theorem own_recs {E base : Nat} {w : World} {v : Value} {l : List Nat} (h : Own .u8 256 E base w v l) : RecsOwn 1 encB E base w v l := ⟨by rw [encB_flat]; exact h.row⟩
theorem recs_own {E base : Nat} {w : World} {v : Value} {l : List Nat} (h : RecsOwn 1 encB E base w v l) (hb : ∀ x ∈ l, x < 256) : Own .u8 256 E base w v l := ⟨by rw [← encB_flat]; exact h.row, hb⟩
def ownK (v : Value) (k : Nat) : Prop := v.ownBlock = some k
theorem kp_step {v : Value} {W : World} (w w' : World) (h : Keeps (ownK v) W w) (hb : Below w.heap.size w w') : Keeps (ownK v) W w' := h.trans (Keeps.of_ext hb (fun _ => False)) (fun _ h => h.elim)
theorem kp_grown {v : Value} {W : World} {w w' : World} (h : Keeps (ownK v) W w) (hg : w.grownBy w' v.ownBlock) : Keeps (ownK v) W w' := h.grown hg (fun k hk => .inl hk)
theorem build_four (w : World) (a b c d : Int) : (Instr.buildSlice 33 4 #[(0, .int .u8 a), (1, .int .u8 b), (2, .int .u8 c), (3, .int .u8 d)]).run Try.prog w = .ok (.slice (some ⟨w.heap.size, 0, none⟩) 4 4) (w.alloc (.cells #[.int .u8 a, .int .u8 b, .int .u8 c, .int .u8 d] 5)) := by kernel_rfl
theorem build_fourI (w : World) (a b c d : Int) (A : Act) (o : Oper) (x y z u : Operand) (ho : o.op = .buildSlice 33 4 #[(0, x), (1, y), (2, z), (3, u)]) (hx : A.eval x = .int .u8 a) (hy : A.eval y = .int .u8 b) (hz : A.eval z = .int .u8 c) (hu : A.eval u = .int .u8 d) :
    (execOp A.eval o).run Try.prog w = .ok (.value (.slice (some ⟨w.heap.size, 0, none⟩) 4 4)) (w.alloc (.cells #[.int .u8 a, .int .u8 b, .int .u8 c, .int .u8 d] 5)) := by
  have e := build_four w a b c d
  simp only [execOp, ho]
  simp [hx, hy, hz, hu, e, Result.andThen]
def fourL (n : Nat) : List Nat := [n / 16777216 % 256, n / 65536 % 256, n / 256 % 256, n % 256]
theorem fourL_lt (n : Nat) : ∀ x ∈ fourL n, x < 256 := by
  intro x hx
  simp only [fourL, List.mem_cons, List.not_mem_nil, or_false] at hx
  omega
theorem end_len (B : List Nat) (T : Nat) : (outN (endL B) T).length ≤ (endL B).length := by
  unfold outN
  rw [BitsM.bytesN_length]
  omega
set_option maxRecDepth 100000 in
set_option maxHeartbeats 2000000 in
theorem end_z (base : Nat) (w : World) (gz : Nat) (s : Dg) (bg : Bool) (B : List Nat) (h : Zs base w gz s bg B) (hlen : B.length ≤ 32768) (hel : (endL B).length ≤ 900000) :
    Calls Try.prog 25 #[.pointer (some ⟨gz, 0, none⟩)] w fun e w' => ∃ y, e = .returned (.tuple #[y, .int .i64 0]) ∧ Own .u8 256 5 w.heap.size w' y ((headZ bg ++ outN (endL B) ((bitsW B).length / 8)) ++ fourL (adler 1 B)) ∧ Keeps (fun k => k = gz ∨ s.own k) w w' := by
  have HH := Lib.hid h
  clear h
  have hlow := HH.out.ws.low
  have hgw := lt_of_heap HH.out.row
  have HT := Lib.hid (told_end w gz bg s.gW _ _ _ (outN (endL B) ((bitsW B).length / 8)) s.own (fun w' v => True) HH.out.row (fun k hk => ⟨(hlow k hk).2, fun e => HH.out.off (by rw [← e]; exact hk)⟩) (Nat.le_trans (end_len _ _) (by omega)) (fun w1' hk1' => by
    refine (end_small base w1' s B (HH.out.ws.frame hk1' (fun k hk e => HH.out.off (by rw [← e]; exact hk))) hlen).mono ?_
    rintro e w2' ⟨x, rfl, hx, -, hk, -⟩
    exact ⟨x, rfl, hx, hk, fun _ _ _ _ => trivial⟩))
  have y3 : w.cell? ⟨gz, 3, none⟩ = some (.pointer (some ⟨s.gW, 0, none⟩)) := cell_of_row _ _ 3 _ _ _ HH.out.row
  clear hlow hgw
  go_enter Try.func25, Try.ntmps25
  go_wp2_with fail
  refine (state_any w gz _ _ _ HH.out.row).mono ?_
  rintro e w0 ⟨rfl, rfl⟩
  go_wp2_with fail
  refine HT.out.mono ?_
  rintro e w5 ⟨y, rfl, ho5, hk5, -, hr5⟩
  obtain ⟨ay, ny, cy, rfl⟩ := ho5.slice_
  have HO5 := Lib.hid ho5
  have HK5 := Lib.hid hk5
  have HR5 := Lib.hid hr5
  have c2 : w5.cell? ⟨gz, 2, none⟩ = some (.bool false) := cell_of_row _ _ 2 _ _ _ hr5
  have f2 := frozen_of_row _ _ 2 _ _ hr5
  clear ho5 hk5 hr5 HT y3
  go_upto_region 6 with (fail)
  have hr6 : (w5.setCell ⟨gz, 2, none⟩ (.bool true)).heap[gz]? = some (.cells #[.bool true, .bool true, .bool true, .pointer (some ⟨s.gW, 0, none⟩), .int .u32 (adler 1 B : Nat)] 77) := heap_setCell_same w5 gz 2 _ _ (.bool true) HR5.out
  have hk6 := HK5.out.setCell gz 2 (.bool true) (.inl (.inl rfl))
  have hyg : ∀ k, (Value.slice ay ny cy).ownBlock = some k → ¬ k = gz := fun k hk e => by have h1 := (HO5.out.lt k hk).1; have h2 := lt_of_heap HH.out.row; omega
  have ho6 := HO5.out.frame ((Keeps.refl (fun k => k = gz) w5).setCell gz 2 (.bool true) (.inl rfl)) hyg
  generalize w5.setCell ⟨gz, 2, none⟩ (.bool true) = w6 at *
  have c3 : w6.cell? ⟨gz, 3, none⟩ = some (.pointer (some ⟨s.gW, 0, none⟩)) := cell_of_row _ _ 3 _ _ _ hr6
  have f3 := frozen_of_row _ _ 3 _ _ hr6
  have HR6 := Lib.hid hr6
  have HK6 := Lib.hid hk6
  have HO6 := Lib.hid ho6
  clear hr6 hk6 ho6 c2 f2
  go_upto_region 7 with (fail)
  have hr7 : (w6.setCell ⟨gz, 3, none⟩ (.pointer none)).heap[gz]? = some (.cells #[.bool true, .bool true, .bool true, .pointer none, .int .u32 (adler 1 B : Nat)] 77) := heap_setCell_same w6 gz 3 _ _ (.pointer none) HR6.out
  have hk7 := HK6.out.setCell gz 3 (.pointer none) (.inl (.inl rfl))
  have ho7 := HO6.out.frame ((Keeps.refl (fun k => k = gz) w6).setCell gz 3 (.pointer none) (.inl rfl)) hyg
  generalize w6.setCell ⟨gz, 3, none⟩ (.pointer none) = w7 at *
  have HK7 := Lib.hid hk7
  have HO7 := Lib.hid ho7
  obtain ⟨S, hS⟩ : ∃ S, S = adler 1 B := ⟨_, rfl⟩
  have hS9 : S < 4294967296 := by rw [hS]; exact adler_lt 1 B
  rw [← hS] at hr7
  have HR7 := Lib.hid hr7
  have HS := Lib.hid hS
  clear hr7 hk7 ho7 c3 f3 hS
  have e1 : (S : Int) / 16777216 = ((S / 16777216 % 256 : Nat) : Int) := by omega
  have e2 : (S : Int) / 65536 % 256 = ((S / 65536 % 256 : Nat) : Int) := by omega
  have e3 : (S : Int) / 256 % 256 = ((S / 256 % 256 : Nat) : Int) := by omega
  have e4 : (S : Int) % 256 = ((S % 256 : Nat) : Int) := by omega
  have HE := Lib.hid e1
  have HE2 := Lib.hid e2
  have HE3 := Lib.hid e3
  have HE4 := Lib.hid e4
  clear e1 e2 e3 e4
  obtain ⟨L0, hL0⟩ : ∃ L0, L0 = headZ bg ++ outN (endL B) ((bitsW B).length / 8) := ⟨_, rfl⟩
  have hlen9 : L0.length ≤ 1000000 := by
    have := end_len B ((bitsW B).length / 8)
    rw [hL0, List.length_append]
    have : (headZ bg).length ≤ 2 := by cases bg <;> decide
    omega
  have HO7b := HO7.out
  rw [← hL0] at HO7b
  have HL0 := Lib.hid hL0
  have HOW := Lib.hid HO7b
  clear hL0 HO7b
  have hbs7 := HK7.out.size
  have HD := Lib.hid (show FD 1 encB 5 w.heap.size w7.heap.size (Keeps (ownK (.slice ay ny cy)) w7) (.slice ay ny cy) L0 (fourL S) #[.int .u8 ((S : Int) / 16777216), .int .u8 ((S : Int) / 65536 % 256), .int .u8 ((S : Int) / 256 % 256), .int .u8 ((S : Int) % 256)] .p0 w7 from ⟨Keeps.refl _ _, own_recs HOW.out⟩)
  refine wp_region_script [(true, 0), (true, 1), (true, 2), (true, 3), (true, 4), (true, 5), (true, 6), (true, 7), (true, 8), (true, 9), (true, 10), (true, 11), (true, 12), (true, 13), (true, 14), (true, 15), (true, 16), (true, 17), (true, 18), (true, 19), (true, 20), (true, 21), (true, 22), (true, 23), (false, 24), (false, 25), (true, 26), (true, 27)] (FD 1 encB 5 w.heap.size w7.heap.size (Keeps (ownK (.slice ay ny cy)) w7) (.slice ay ny cy) L0 (fourL S) #[.int .u8 ((S : Int) / 16777216), .int .u8 ((S : Int) / 65536 % 256), .int .u8 ((S : Int) / 256 % 256), .int .u8 ((S : Int) % 256)]) .p0 (by kernel_rfl) (by kernel_rfl) (HD.out.step kp_step ⟨rfl, rfl, rfl, Nat.le_refl _, fun _ _ => rfl⟩) ?_
  refine Scr.quiet (A := ?A0) (o := ?o0) (fun s9 w9 w8 h9 hb9 => h9.step kp_step hb9) _ w7 HD.out ?e0 ?w0 24 ?d0 (by simp) ?h0 ?n0
  case e0 => simp only [List.getElem?_toArray, List.getElem?_cons_succ, List.getElem?_cons_zero]; exact rfl
  case w0 => exact rfl
  case d0 => exact rfl
  case h0 =>
    intro s9 w9 h9
    go_big_quiet_op
    exact rfl
  refine Scr.quiet (A := ?A1) (o := ?o1) (fun s9 w9 w8 h9 hb9 => h9.step kp_step hb9) _ w7 HD.out ?e1 ?w1 25 ?d1 (by simp) ?h1 ?n1
  case e1 => simp only [List.getElem?_toArray, List.getElem?_cons_succ, List.getElem?_cons_zero]; exact rfl
  case w1 => exact rfl
  case d1 => exact rfl
  case h1 =>
    intro s9 w9 h9
    go_big_quiet_op
    exact rfl
  refine Scr.quiet (A := ?A2) (o := ?o2) (fun s9 w9 w8 h9 hb9 => h9.step kp_step hb9) _ w7 HD.out ?e2 ?w2 26 ?d2 (by simp) ?h2 ?n2
  case e2 => simp only [List.getElem?_toArray, List.getElem?_cons_succ, List.getElem?_cons_zero]; exact rfl
  case w2 => exact rfl
  case d2 => exact rfl
  case h2 =>
    intro s9 w9 h9
    go_big_quiet_op
    exact rfl
  refine Scr.quiet (A := ?A3) (o := ?o3) (fun s9 w9 w8 h9 hb9 => h9.step kp_step hb9) _ w7 HD.out ?e3 ?w3 27 ?d3 (by simp) ?h3 ?n3
  case e3 => simp only [List.getElem?_toArray, List.getElem?_cons_succ, List.getElem?_cons_zero]; exact rfl
  case w3 => exact rfl
  case d3 => exact rfl
  case h3 =>
    intro s9 w9 h9
    go_big_quiet_op
    exact rfl
  refine Scr.quiet (A := ?A4) (o := ?o4) (fun s9 w9 w8 h9 hb9 => h9.step kp_step hb9) _ w7 HD.out ?e4 ?w4 28 ?d4 (by simp) ?h4 ?n4
  case e4 => simp only [List.getElem?_toArray, List.getElem?_cons_succ, List.getElem?_cons_zero]; exact rfl
  case w4 => exact rfl
  case d4 => exact rfl
  case h4 =>
    intro s9 w9 h9
    have z4 : ∀ d os, (grow (redrawn w9 d) os).cell? ⟨gz, 4, none⟩ = some (.int .u32 (S : Int)) := fun d os => cell_regrown (cell_of_row _ _ 4 _ _ _ ((h9.j.block gz (lt_of_heap HR7.out) (fun e => hyg gz e rfl)).trans HR7.out)) d os
    go_big_quiet_op
    exact rfl
  refine Scr.quiet (A := ?A5) (o := ?o5) (fun s9 w9 w8 h9 hb9 => h9.step kp_step hb9) _ w7 HD.out ?e5 ?w5 29 ?d5 (by simp) ?h5 ?n5
  case e5 => simp only [List.getElem?_toArray, List.getElem?_cons_succ, List.getElem?_cons_zero]; exact rfl
  case w5 => exact rfl
  case d5 => exact rfl
  case h5 =>
    intro s9 w9 h9
    go_big_quiet_op
    exact rfl
  refine Scr.quiet (A := ?A6) (o := ?o6) (fun s9 w9 w8 h9 hb9 => h9.step kp_step hb9) _ w7 HD.out ?e6 ?w6 30 ?d6 (by simp) ?h6 ?n6
  case e6 => simp only [List.getElem?_toArray, List.getElem?_cons_succ, List.getElem?_cons_zero]; exact rfl
  case w6 => exact rfl
  case d6 => exact rfl
  case h6 =>
    intro s9 w9 h9
    go_big_quiet_op
    exact rfl
  refine Scr.quiet (A := ?A7) (o := ?o7) (fun s9 w9 w8 h9 hb9 => h9.step kp_step hb9) _ w7 HD.out ?e7 ?w7 31 ?d7 (by simp) ?h7 ?n7
  case e7 => simp only [List.getElem?_toArray, List.getElem?_cons_succ, List.getElem?_cons_zero]; exact rfl
  case w7 => exact rfl
  case d7 => exact rfl
  case h7 =>
    intro s9 w9 h9
    go_big_quiet_op
    exact rfl
  refine Scr.quiet (A := ?A8) (o := ?o8) (fun s9 w9 w8 h9 hb9 => h9.step kp_step hb9) _ w7 HD.out ?e8 ?w8 32 ?d8 (by simp) ?h8 ?n8
  case e8 => simp only [List.getElem?_toArray, List.getElem?_cons_succ, List.getElem?_cons_zero]; exact rfl
  case w8 => exact rfl
  case d8 => exact rfl
  case h8 =>
    intro s9 w9 h9
    go_big_quiet_op
    exact rfl
  refine Scr.quiet (A := ?A9) (o := ?o9) (fun s9 w9 w8 h9 hb9 => h9.step kp_step hb9) _ w7 HD.out ?e9 ?w9 33 ?d9 (by simp) ?h9 ?n9
  case e9 => simp only [List.getElem?_toArray, List.getElem?_cons_succ, List.getElem?_cons_zero]; exact rfl
  case w9 => exact rfl
  case d9 => exact rfl
  case h9 =>
    intro s9 w9 h9
    go_big_quiet_op
    exact rfl
  refine Scr.quiet (A := ?A10) (o := ?o10) (fun s9 w9 w8 h9 hb9 => h9.step kp_step hb9) _ w7 HD.out ?e10 ?w10 34 ?d10 (by simp) ?h10 ?n10
  case e10 => simp only [List.getElem?_toArray, List.getElem?_cons_succ, List.getElem?_cons_zero]; exact rfl
  case w10 => exact rfl
  case d10 => exact rfl
  case h10 =>
    intro s9 w9 h9
    have z4 : ∀ d os, (grow (redrawn w9 d) os).cell? ⟨gz, 4, none⟩ = some (.int .u32 (S : Int)) := fun d os => cell_regrown (cell_of_row _ _ 4 _ _ _ ((h9.j.block gz (lt_of_heap HR7.out) (fun e => hyg gz e rfl)).trans HR7.out)) d os
    go_big_quiet_op
    exact rfl
  refine Scr.quiet (A := ?A11) (o := ?o11) (fun s9 w9 w8 h9 hb9 => h9.step kp_step hb9) _ w7 HD.out ?e11 ?w11 35 ?d11 (by simp) ?h11 ?n11
  case e11 => simp only [List.getElem?_toArray, List.getElem?_cons_succ, List.getElem?_cons_zero]; exact rfl
  case w11 => exact rfl
  case d11 => exact rfl
  case h11 =>
    intro s9 w9 h9
    go_big_quiet_op
    exact rfl
  refine Scr.quiet (A := ?A12) (o := ?o12) (fun s9 w9 w8 h9 hb9 => h9.step kp_step hb9) _ w7 HD.out ?e12 ?w12 36 ?d12 (by simp) ?h12 ?n12
  case e12 => simp only [List.getElem?_toArray, List.getElem?_cons_succ, List.getElem?_cons_zero]; exact rfl
  case w12 => exact rfl
  case d12 => exact rfl
  case h12 =>
    intro s9 w9 h9
    go_big_quiet_op
    exact rfl
  refine Scr.quiet (A := ?A13) (o := ?o13) (fun s9 w9 w8 h9 hb9 => h9.step kp_step hb9) _ w7 HD.out ?e13 ?w13 37 ?d13 (by simp) ?h13 ?n13
  case e13 => simp only [List.getElem?_toArray, List.getElem?_cons_succ, List.getElem?_cons_zero]; exact rfl
  case w13 => exact rfl
  case d13 => exact rfl
  case h13 =>
    intro s9 w9 h9
    go_big_quiet_op
    exact rfl
  refine Scr.quiet (A := ?A14) (o := ?o14) (fun s9 w9 w8 h9 hb9 => h9.step kp_step hb9) _ w7 HD.out ?e14 ?w14 38 ?d14 (by simp) ?h14 ?n14
  case e14 => simp only [List.getElem?_toArray, List.getElem?_cons_succ, List.getElem?_cons_zero]; exact rfl
  case w14 => exact rfl
  case d14 => exact rfl
  case h14 =>
    intro s9 w9 h9
    go_big_quiet_op
    exact rfl
  refine Scr.quiet (A := ?A15) (o := ?o15) (fun s9 w9 w8 h9 hb9 => h9.step kp_step hb9) _ w7 HD.out ?e15 ?w15 39 ?d15 (by simp) ?h15 ?n15
  case e15 => simp only [List.getElem?_toArray, List.getElem?_cons_succ, List.getElem?_cons_zero]; exact rfl
  case w15 => exact rfl
  case d15 => exact rfl
  case h15 =>
    intro s9 w9 h9
    go_big_quiet_op
    exact rfl
  refine Scr.quiet (A := ?A16) (o := ?o16) (fun s9 w9 w8 h9 hb9 => h9.step kp_step hb9) _ w7 HD.out ?e16 ?w16 40 ?d16 (by simp) ?h16 ?n16
  case e16 => simp only [List.getElem?_toArray, List.getElem?_cons_succ, List.getElem?_cons_zero]; exact rfl
  case w16 => exact rfl
  case d16 => exact rfl
  case h16 =>
    intro s9 w9 h9
    have z4 : ∀ d os, (grow (redrawn w9 d) os).cell? ⟨gz, 4, none⟩ = some (.int .u32 (S : Int)) := fun d os => cell_regrown (cell_of_row _ _ 4 _ _ _ ((h9.j.block gz (lt_of_heap HR7.out) (fun e => hyg gz e rfl)).trans HR7.out)) d os
    go_big_quiet_op
    exact rfl
  refine Scr.quiet (A := ?A17) (o := ?o17) (fun s9 w9 w8 h9 hb9 => h9.step kp_step hb9) _ w7 HD.out ?e17 ?w17 41 ?d17 (by simp) ?h17 ?n17
  case e17 => simp only [List.getElem?_toArray, List.getElem?_cons_succ, List.getElem?_cons_zero]; exact rfl
  case w17 => exact rfl
  case d17 => exact rfl
  case h17 =>
    intro s9 w9 h9
    go_big_quiet_op
    exact rfl
  refine Scr.quiet (A := ?A18) (o := ?o18) (fun s9 w9 w8 h9 hb9 => h9.step kp_step hb9) _ w7 HD.out ?e18 ?w18 42 ?d18 (by simp) ?h18 ?n18
  case e18 => simp only [List.getElem?_toArray, List.getElem?_cons_succ, List.getElem?_cons_zero]; exact rfl
  case w18 => exact rfl
  case d18 => exact rfl
  case h18 =>
    intro s9 w9 h9
    go_big_quiet_op
    exact rfl
  refine Scr.quiet (A := ?A19) (o := ?o19) (fun s9 w9 w8 h9 hb9 => h9.step kp_step hb9) _ w7 HD.out ?e19 ?w19 43 ?d19 (by simp) ?h19 ?n19
  case e19 => simp only [List.getElem?_toArray, List.getElem?_cons_succ, List.getElem?_cons_zero]; exact rfl
  case w19 => exact rfl
  case d19 => exact rfl
  case h19 =>
    intro s9 w9 h9
    go_big_quiet_op
    exact rfl
  refine Scr.quiet (A := ?A20) (o := ?o20) (fun s9 w9 w8 h9 hb9 => h9.step kp_step hb9) _ w7 HD.out ?e20 ?w20 44 ?d20 (by simp) ?h20 ?n20
  case e20 => simp only [List.getElem?_toArray, List.getElem?_cons_succ, List.getElem?_cons_zero]; exact rfl
  case w20 => exact rfl
  case d20 => exact rfl
  case h20 =>
    intro s9 w9 h9
    go_big_quiet_op
    exact rfl
  refine Scr.quiet (A := ?A21) (o := ?o21) (fun s9 w9 w8 h9 hb9 => h9.step kp_step hb9) _ w7 HD.out ?e21 ?w21 45 ?d21 (by simp) ?h21 ?n21
  case e21 => simp only [List.getElem?_toArray, List.getElem?_cons_succ, List.getElem?_cons_zero]; exact rfl
  case w21 => exact rfl
  case d21 => exact rfl
  case h21 =>
    intro s9 w9 h9
    go_big_quiet_op
    exact rfl
  refine Scr.quiet (A := ?A22) (o := ?o22) (fun s9 w9 w8 h9 hb9 => h9.step kp_step hb9) _ w7 HD.out ?e22 ?w22 46 ?d22 (by simp) ?h22 ?n22
  case e22 => simp only [List.getElem?_toArray, List.getElem?_cons_succ, List.getElem?_cons_zero]; exact rfl
  case w22 => exact rfl
  case d22 => exact rfl
  case h22 =>
    intro s9 w9 h9
    have z4 : ∀ d os, (grow (redrawn w9 d) os).cell? ⟨gz, 4, none⟩ = some (.int .u32 (S : Int)) := fun d os => cell_regrown (cell_of_row _ _ 4 _ _ _ ((h9.j.block gz (lt_of_heap HR7.out) (fun e => hyg gz e rfl)).trans HR7.out)) d os
    go_big_quiet_op
    exact rfl
  refine Scr.quiet (A := ?A23) (o := ?o23) (fun s9 w9 w8 h9 hb9 => h9.step kp_step hb9) _ w7 HD.out ?e23 ?w23 47 ?d23 (by simp) ?h23 ?n23
  case e23 => simp only [List.getElem?_toArray, List.getElem?_cons_succ, List.getElem?_cons_zero]; exact rfl
  case w23 => exact rfl
  case d23 => exact rfl
  case h23 =>
    intro s9 w9 h9
    go_big_quiet_op
    exact rfl
  refine Scr.app (ob := ?ob) (oa := ?oa) bytesR kp_step (fun _ _ h _ hg => kp_grown h hg) (fun _ h => Nat.le_trans hbs7 h.size) (fun _ h => h.size) (by rw [HE.out, HE2.out, HE3.out, HE4.out]; rfl) (by simp [fourL]; omega) (by simp [fourL]; omega) 4 rfl ?eb ?wb ?rb ?ea ?ga (.tmp 24) (.tmp 48) ?oq ?os ?ox ?_
  case eb => simp only [List.getElem?_toArray, List.getElem?_cons_succ, List.getElem?_cons_zero]; exact rfl
  case wb => exact rfl
  case rb => exact fun w9 => build_fourI w9 _ _ _ _ _ _ (.tmp 30) (.tmp 36) (.tmp 42) (.tmp 47) rfl rfl rfl rfl rfl
  case ea => simp only [List.getElem?_toArray, List.getElem?_cons_succ, List.getElem?_cons_zero]; exact rfl
  case ga => exact rfl
  case oq => exact rfl
  case os => exact fun _ => rfl
  case ox => exact fun _ => rfl
  intro gs v2
  simp only [Act.put, List.setIfInBounds_toArray, List.set_cons_succ, List.set_cons_zero]
  refine Scr.quiet (A := ?A26) (o := ?o26) (fun s9 w9 w8 h9 hb9 => h9.step kp_step hb9) _ w7 HD.out ?e26 ?w26 2 ?d26 (by simp) ?h26 ?n26
  case e26 => simp only [List.getElem?_toArray, List.getElem?_cons_succ, List.getElem?_cons_zero]; exact rfl
  case w26 => exact rfl
  case d26 => exact rfl
  case h26 =>
    intro s9 w9 h9
    go_big_quiet_op
    exact rfl
  refine Scr.quiet (A := ?A27) (o := ?o27) (fun s9 w9 w8 h9 hb9 => h9.step kp_step hb9) _ w7 HD.out ?e27 ?w27 3 ?d27 (by simp) ?h27 ?n27
  case e27 => simp only [List.getElem?_toArray, List.getElem?_cons_succ, List.getElem?_cons_zero]; exact rfl
  case w27 => exact rfl
  case d27 => exact rfl
  case h27 =>
    intro s9 w9 h9
    go_big_quiet_op
    exact rfl
  rintro w10 ⟨h10, hf10, ho10⟩
  go_simp
  go_wp2_with fail
  go_ret2
  have hx : ∀ x ∈ L0 ++ fourL S, x < 256 := by
    intro x hx
    rcases List.mem_append.mp hx with h | h
    · exact HOW.out.bound x h
    · exact fourL_lt S x h
  have ho := recs_own hf10 hx
  rw [HS.out, HL0.out] at ho
  exact ⟨v2, rfl, ho, HK7.out.trans h10 (fun k hk => .inr (HOW.out.lt k hk).1)⟩
end Go.Proofs.Ytighlefajekloaa.PngD
