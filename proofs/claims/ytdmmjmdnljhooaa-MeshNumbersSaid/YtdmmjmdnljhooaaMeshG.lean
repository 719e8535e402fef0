/- The walk of mesh.Bytes. -/
import Derived.Test.YtdmmjmdnljhooaaMeshF
import Derived.Laws.MakeOwn
import Derived.Laws.EntriesVeiled
set_option linter.unusedVariables false
set_option linter.unusedSimpArgs false
namespace Go.Proofs.Ytdmmjmdnljhooaa.MeshG
open Go.RowKit Go.Sort FixM Base Num Qb Qt VecW VecV VecU LightQ LightC MeshM Rec MeshA MeshB MeshC MeshD MeshE MeshF

def be3t (t : V3) : List Nat := beL (u64N t.x) 4 ++ beL (u64N t.y) 4 ++ beL (u64N t.z) 4
def be4 (b : B4) : List Nat := be3 b.c ++ beL (u64N b.r) 8
def bytesF (m : Msh) : List Nat := beL m.ps.length 4 ++ beL m.ts.length 4 ++ beL m.bs.length 4 ++ m.ps.flatMap be3 ++ m.ts.flatMap be3t ++ m.bs.flatMap be4
def outF (m : Msh) : List Nat := if checkF m = 0 then bytesF m else []
theorem be3_len (v : V3) : (be3 v).length = 24 := by simp [be3, beL_len]
theorem be3t_len (v : V3) : (be3t v).length = 12 := by simp [be3t, beL_len]
theorem be4_len (b : B4) : (be4 b).length = 32 := by simp [be4, be3_len, beL_len]
theorem flatN_len {α : Type} {f : α → List Nat} {c : Nat} (h : ∀ x, (f x).length = c) (l : List α) : (l.flatMap f).length = c * l.length := by
  induction l with
  | nil => simp
  | cons x l ih => rw [List.flatMap_cons, List.length_append, h, ih, List.length_cons, Nat.mul_add]; omega
theorem flat3_len (l : List V3) : (l.flatMap be3).length = 24 * l.length := flatN_len be3_len l
theorem flat3t_len (l : List V3) : (l.flatMap be3t).length = 12 * l.length := flatN_len be3t_len l
theorem flat4_len (l : List B4) : (l.flatMap be4).length = 32 * l.length := flatN_len be4_len l
theorem take_next {α : Type} (l : List α) (i : Nat) (h : i < l.length) (f : α → List Nat) : (l.take (i + 1)).flatMap f = (l.take i).flatMap f ++ f l[i] := by
  rw [List.take_add_one, List.getElem?_eq_getElem h, List.flatMap_append]; simp [Option.toList]
theorem not_too (m : Msh) (h : checkF m = 0) : m.ps.length ≤ 4096 ∧ m.ts.length + m.bs.length ≤ 4096 := by
  unfold checkF at h
  by_cases ht : tooF m
  · rw [if_pos ht] at h; cases h
  · unfold tooF at ht; omega
theorem check_or (m : Msh) : checkF m = 0 ∨ checkF m = 14 := by
  unfold checkF; split
  · exact .inr rfl
  · split
    · exact .inl rfl
    · exact .inr rfl
theorem own_made {w : World} {g cap base : Nat} {cur : Array Value} (hg : w.heap[g]? = some (.cells cur 5 (0, 0))) (hb : base ≤ g) (hc : cur.size = cap) (hm : cap ≤ maxLen) : Own .u8 256 5 base w (.slice (some ⟨g, 0, none⟩) 0 cap) [] :=
  ⟨⟨by simp [numCells], .inr ⟨g, cap, cur, rfl, hb, hg, Nat.zero_le _, hm, by omega, by simp [numCells]⟩⟩, by simp⟩
theorem make_law (c : Int) (h0 : 0 ≤ c) (h1 : c ≤ 1000000) : ∃ Z : Array Value, Z.size = c.toNat ∧ ∀ w : World, (Instr.makeSlice 33 (.int .i64 0) (.int .i64 c)).run Try.prog w = .ok (.slice (some ⟨w.heap.size, 0, none⟩) 0 c.toNat) (w.alloc (.cells Z 5)) := by
  obtain ⟨i, hi, hz, hs, hb⟩ := u8s.info
  refine ⟨madeCells (Value.int .u8 0).cells (c.toNat * i.size), ?_, fun w => run_makeSlice w 33 5 i (.int .u8 0) u8s.und hi hz .i64 .i64 0 c (by omega) h0 (by rw [hs]; omega) (by rw [hb]; omega) (by omega)⟩
  rw [hs]; simp [madeCells]
def BTo (w : World) (m : Msh) (e : Ending) (w' : World) : Prop := ∃ v, e = .returned (.tuple #[v, .int .i64 (checkF m)]) ∧ Own .u8 256 5 w.heap.size w' v (outF m) ∧ Below w.heap.size w w'
theorem Pb.new {w0 w w' : World} {g : Nat} {v : Value} {L : List Nat} {D : Nat → Prop} (h : Pb w0 w g v L D) (hb : Below w.heap.size w w') : Pb w0 w' g v L D := (h.ext hb).mono (fun b hb => .inl hb)
theorem Keeps.more {S : Nat → Prop} {w0 w w' : World} (h : Keeps S w0 w) (hb : Below w.heap.size w w') : Keeps S w0 w' :=
  ⟨hb.os.trans h.os, hb.tape.trans h.tape, hb.output.trans h.output, Nat.le_trans h.size hb.size, fun k hk hn => (hb.block k (Nat.lt_of_lt_of_le hk h.size)).trans (h.block k hk hn)⟩

set_option maxRecDepth 100000 in
set_option maxHeartbeats 8000000 in
theorem bytes_any (v : Value) (m : Msh) (w : World) (hm : IsMesh w v m) : Calls Try.prog 6 #[v] w (BTo w m) := by
  have CH := Lib.hid (fun w' (hb : Below w.heap.size w w') => check_any v m w' (hm.below hb))
  obtain ⟨a0, c0, a1, c1, a2, c2, rfl, h0, h1, h2, l0, l1, l2⟩ := hm.open_
  obtain ⟨W, hW⟩ : ∃ W, W = w.alloc (.cells #[.slice a0 m.ps.length c0, .slice a1 m.ts.length c1, .slice a2 m.bs.length c2] 30) := ⟨_, rfl⟩
  have hB : Below w.heap.size w W := by rw [hW]; exact ext_alloc _ _
  have hR : W.heap[w.heap.size]? = some (.cells #[.slice a0 m.ps.length c0, .slice a1 m.ts.length c1, .slice a2 m.bs.length c2] 30) := by rw [hW]; exact heap_alloc_new _ _
  have R0 := Lib.hid h0
  have R1 := Lib.hid h1
  have R2 := Lib.hid h2
  have k0 := cell_row hR 0 (.slice a0 m.ps.length c0) rfl
  have k1 := cell_row hR 1 (.slice a1 m.ts.length c1) rfl
  have k2 := cell_row hR 2 (.slice a2 m.bs.length c2) rfl
  have HO := Lib.hid (show BTo w m = fun e w' => ∃ v, e = .returned (.tuple #[v, .int .i64 (checkF m)]) ∧ Own .u8 256 5 w.heap.size w' v (outF m) ∧ Below w.heap.size w w' from rfl)
  have HCK := check_or m
  have HNT := not_too m
  have HOF := Lib.hid (show checkF m ≠ 0 → outF m = [] from fun h => by unfold outF; rw [if_neg h])
  have HOF2 := Lib.hid (show checkF m = 0 → outF m = bytesF m from fun h => by unfold outF; rw [if_pos h])
  obtain ⟨r, hr⟩ : ∃ r, r = checkF m := ⟨_, rfl⟩
  rw [← hr] at CH HO HCK HNT HOF HOF2
  clear hr hm h0 h1 h2
  have HBF := Lib.hid (show bytesF m = beL m.ps.length 4 ++ beL m.ts.length 4 ++ beL m.bs.length 4 ++ m.ps.flatMap be3 ++ m.ts.flatMap be3t ++ m.bs.flatMap be4 from rfl)
  obtain ⟨out, hout⟩ : ∃ o, o = outF m := ⟨_, rfl⟩
  obtain ⟨bts, hbts⟩ : ∃ o, o = bytesF m := ⟨_, rfl⟩
  rw [← hout] at HO HOF HOF2
  rw [← hbts] at HOF2 HBF
  obtain ⟨QQ, hQQ⟩ : ∃ Q, Q = BTo w m := ⟨_, rfl⟩
  rw [← hQQ] at HO ⊢
  clear hout hbts hQQ
  obtain ⟨ps, ts, bs⟩ := m
  dsimp only at *
  obtain ⟨n0, hn0⟩ : ∃ n, n = ps.length := ⟨_, rfl⟩
  obtain ⟨n1, hn1⟩ : ∃ n, n = ts.length := ⟨_, rfl⟩
  obtain ⟨n2, hn2⟩ : ∃ n, n = bs.length := ⟨_, rfl⟩
  rw [← hn0, ← hn1, ← hn2] at hR hW CH HNT HBF
  rw [← hn0] at k0 R0 l0
  rw [← hn1] at k1 R1 l1
  rw [← hn2] at k2 R2 l2
  rw [← hn0, ← hn1, ← hn2]
  have HN0 := Lib.hid hn0
  have HN1 := Lib.hid hn1
  have HN2 := Lib.hid hn2
  have HR := Lib.hid hR
  have HB := Lib.hid hB
  have HWW := Lib.hid hW
  clear hn0 hn1 hn2 hR hB
  rw [hW] at k0 k1 k2
  clear hW
  go_enter Try.func6, Try.ntmps6
  go_wp2_with fail
  rw [← HWW.out]
  clear k0 k1 k2
  refine (CH.out _ HB.out).mono ?_
  rintro e w1 ⟨rfl, hb1⟩
  have HB1 := Lib.hid (HB.out.trans (hb1.mono HB.out.size))
  have HR1 := Lib.hid (vec_step HR.out hb1)
  clear hb1 CH HB HR HWW
  rcases HCK with rfl | rfl
  · have he := HOF2.out rfl
    obtain ⟨hl0, hl1⟩ := HNT rfl
    subst he
    have hl2 : n2 ≤ 4096 := by omega
    have hl1' : n1 ≤ 4096 := by omega
    clear HNT HOF HOF2
    have f1 : IntKind.i64.wrap (24 * (n0 : Int)) = 24 * (n0 : Int) := wrap_in (by omega) (by omega)
    have f2 : IntKind.i64.wrap (12 + 24 * (n0 : Int)) = 12 + 24 * (n0 : Int) := wrap_in (by omega) (by omega)
    have f3 : IntKind.i64.wrap (12 * (n1 : Int)) = 12 * (n1 : Int) := wrap_in (by omega) (by omega)
    have f4 : IntKind.i64.wrap (12 + 24 * (n0 : Int) + 12 * (n1 : Int)) = 12 + 24 * (n0 : Int) + 12 * (n1 : Int) := wrap_in (by omega) (by omega)
    have f5 : IntKind.i64.wrap (32 * (n2 : Int)) = 32 * (n2 : Int) := wrap_in (by omega) (by omega)
    obtain ⟨C, hC⟩ : ∃ C : Int, C = 12 + 24 * (n0 : Int) + 12 * (n1 : Int) + 32 * (n2 : Int) := ⟨_, rfl⟩
    have f6 : IntKind.i64.wrap (12 + 24 * (n0 : Int) + 12 * (n1 : Int) + 32 * (n2 : Int)) = C := by rw [hC]; exact wrap_in (by omega) (by omega)
    obtain ⟨Z, hZ, hmk⟩ := make_law C (by omega) (by omega)
    have hCm : C.toNat ≤ maxLen := by unfold maxLen; omega
    have HMF := hmf
    have k0 := cell_row HR1.out 0 (.slice a0 n0 c0) rfl
    have k1 := cell_row HR1.out 1 (.slice a1 n1 c1) rfl
    have k2 := cell_row HR1.out 2 (.slice a2 n2 c2) rfl
    have HL := Lib.hid (show n0 ≤ 4096 ∧ n1 ≤ 4096 ∧ n2 ≤ 4096 from ⟨hl0, hl1', hl2⟩)
    have HZ := Lib.hid hZ
    have HCM := Lib.hid hCm
    clear hC hl0 hl1 hl2 hl1' hZ hCm
    go_upto_region 7 with (fail)
    clear k0 k1 k2 f1 f2 f3 f4 f5 f6 hmk HMF
    obtain ⟨V, hV⟩ : ∃ V, V = ((w1.alloc (.cells Z 5)).alloc (.cells #[.slice (some ⟨w1.heap.size, 0, none⟩) 0 C.toNat] 33)).alloc (.cells #[.func (.func 24) #[] #[.pointer (some ⟨w1.heap.size + 1, 0, none⟩)]] 55) := ⟨_, rfl⟩
    rw [← hV]
    have hx : Below w1.heap.size w1 V := by rw [hV]; exact alloc3_below _ _ _ _
    have hs1 := HB1.out.size
    have hp0 : Pb w V (w1.heap.size + 1) (.slice (some ⟨w1.heap.size, 0, none⟩) 0 C.toNat) [] (fun b => b = w.heap.size ∨ b = w1.heap.size + 1 + 1) := by
      refine ⟨by rw [hV]; exact alloc3_1 _ _ _ _, ?_, by simp [Value.ownBlock], ?_, HB1.out.trans (hx.mono hs1), by omega⟩
      · have h : V.heap[w1.heap.size]? = some (.cells Z 5) := by rw [hV]; exact alloc3_0 _ _ _ _
        exact own_made h hs1 HZ.out HCM.out
      · have hsv : V.heap.size = w1.heap.size + 3 := by rw [hV]; simp
        have hl1 := lt_of_heap HR1.out
        rintro b (rfl | rfl)
        · exact ⟨by omega, by omega, by simp only [Value.ownBlock, ne_eq, Option.some.injEq]; omega⟩
        · exact ⟨by omega, by omega, by simp only [Value.ownBlock, ne_eq, Option.some.injEq]; omega⟩
    have P0 := Lib.hid hp0
    have M := Lib.hid (vec_step HR1.out hx)
    have G6 := Lib.hid (show V.heap[w1.heap.size + 1 + 1]? = some (.cells #[.func (.func 24) #[] #[.pointer (some ⟨w1.heap.size + 1, 0, none⟩)]] 55) by rw [hV]; exact alloc3_2 _ _ _ _)
    clear hV hx hp0 hs1 HR1 HB1 HZ HCM
    generalize w1.heap.size = gz at *
    clear w1
    obtain ⟨D, hD⟩ : ∃ D : Nat → Prop, D = (fun b => b = w.heap.size ∨ b = gz + 1 + 1) := ⟨_, rfl⟩
    rw [← hD] at P0
    have D1 := Lib.hid (show D w.heap.size by rw [hD]; exact .inl rfl)
    have D6 := Lib.hid (show D (gz + 1 + 1) by rw [hD]; exact .inr rfl)
    clear hD
    have EP := enters Try.func24 (by kernel_rfl) rfl
    have EV := enters Try.func25 (by kernel_rfl) rfl
    have q0 : IntKind.u64.wrap (n0 : Int) = (n0 : Int) := by have := HL.out; rw [u64N_wrap]; unfold u64N; omega
    have q1 : IntKind.u64.wrap (n1 : Int) = (n1 : Int) := by have := HL.out; rw [u64N_wrap]; unfold u64N; omega
    have q2 : IntKind.u64.wrap (n2 : Int) = (n2 : Int) := by have := HL.out; rw [u64N_wrap]; unfold u64N; omega
    have k0 := cell_row M.out 0 (.slice a0 n0 c0) rfl
    have k6 := cell_row G6.out 0 _ rfl
    go_wp2_with fail
    clear k0 k6 q0
    refine (put_any w V (gz + 1) _ [] D P0.out n0 (by have := HL.out; omega) 4 (by decide) (by simp)).mono ?_
    rintro e w2 ⟨rfl, v2, hp2, hk2⟩
    have P2 := Lib.hid hp2
    have Q2 := Lib.hid hk2
    clear hp2 hk2 P0
    have k1 := cell_row (keep_cell Q2.out M.out (fun h => h D1.out)) 1 (.slice a1 n1 c1) rfl
    have k6 := cell_row (keep_cell Q2.out G6.out (fun h => h D6.out)) 0 _ rfl
    go_wp2_with fail
    clear k1 k6 q1
    refine (put_any w w2 (gz + 1) v2 _ D P2.out n1 (by have := HL.out; omega) 4 (by decide) (by simp [beL_len])).mono ?_
    rintro e w3 ⟨rfl, v3, hp3, hk3⟩
    have P3 := Lib.hid hp3
    have Q3 := Lib.hid (Q2.out.trans hk3 (fun _ h => .inl h))
    clear hp3 hk3 P2 Q2 w2
    have k2 := cell_row (keep_cell Q3.out M.out (fun h => h D1.out)) 2 (.slice a2 n2 c2) rfl
    have k6 := cell_row (keep_cell Q3.out G6.out (fun h => h D6.out)) 0 _ rfl
    go_wp2_with fail
    clear k2 k6 q2
    refine (put_any w w3 (gz + 1) v3 _ D P3.out n2 (by have := HL.out; omega) 4 (by decide) (by simp [beL_len])).mono ?_
    rintro e w4 ⟨rfl, v4, hp4, hk4⟩
    have P4 := Lib.hid hp4
    have Q4 := Lib.hid (Q3.out.trans hk4 (fun _ h => .inl h))
    clear hp4 hk4 P3 Q3 w3
    obtain ⟨L0, hL0⟩ : ∃ l, l = [] ++ beL n0 4 ++ beL n1 4 ++ beL n2 4 := ⟨_, rfl⟩
    rw [← hL0] at P4
    have HL0 := Lib.hid (show L0 = beL n0 4 ++ beL n1 4 ++ beL n2 4 by rw [hL0]; simp)
    have HL12 := Lib.hid (show L0.length = 12 by rw [hL0]; simp [beL_len])
    clear hL0
    have k0 := cell_row (keep_cell Q4.out M.out (fun h => h D1.out)) 0 (.slice a0 n0 c0) rfl
    go_wp2_with fail
    clear k0
    go_loopg [60] n0 (fun r n9 wr => ∃ (i : Nat) (v' : Value), i + r = n0 ∧ n9 = .int .i64 (i : Int) ∧ Hid (Pb w wr (gz + 1) v' (L0 ++ (ps.take i).flatMap be3) D ∧ Keeps (fun k => ¬ D k) V wr))
    case atStart => exact ⟨0, v4, by omega, rfl, Lib.hid ⟨by simpa using P4.out, Q4.out⟩⟩
    case round =>
      obtain ⟨i, v', hir, rfl, hin⟩ := hrel
      by_cases hi : i < ps.length
      · have hv1 := R0.out.below hin.out.1.below (Nat.le_refl _)
        obtain ⟨b, off, e, hb, p0, p1, p2⟩ := at3 hv1 i hi
        subst e
        obtain ⟨u, hu⟩ : ∃ u, u = ps[i] := ⟨_, rfl⟩
        rw [← hu] at p0 p1 p2
        have HU := Lib.hid hu
        clear hu hv1
        have hin0 : (i : Int) < (n0 : Int) := by have := HN0.out; omega
        have d3 : decide (i < n0) = true := decide_eq_true (by have := HN0.out; omega)
        have d2 : decide ((i : Int) < (n0 : Int)) = true := decide_eq_true hin0
        obtain ⟨Y, hY⟩ : ∃ W, W = (wr.alloc (.cells #[.int .i64 0, .int .i64 0, .int .i64 0] 23)).setRow wr.heap.size #[.int .i64 u.x, .int .i64 u.y, .int .i64 u.z] := ⟨_, rfl⟩
        have hYB : Below wr.heap.size wr Y := by rw [hY]; exact below_setRow (ext_alloc _ _) (Nat.le_refl _) _
        have G := Lib.hid (show Y.heap[wr.heap.size]? = some (.cells #[.int .i64 u.x, .int .i64 u.y, .int .i64 u.z] 23) by rw [hY]; exact setRow_heap _ _ _ _ _ _ (heap_alloc_new _ _))
        have PY := Lib.hid (MeshG.Pb.new hin.out.1 hYB)
        have QY := Lib.hid (MeshG.Keeps.more hin.out.2 hYB)
        have HVV := Lib.hid hY
        have HRR := Lib.hid hir
        have HLL := Lib.hid (show (L0 ++ (ps.take i).flatMap be3).length ≤ 999999000 by rw [List.length_append, flat3_len, HL12.out, List.length_take]; have := HL.out; have := HN0.out; omega)
        clear hY hYB hir
        obtain ⟨x, y, z⟩ := u
        go_upto_region 13 with (with_reducible refine store_recV rfl (.tmp 9) (.tmp 63) rfl rfl wr.heap.size x y z rfl rfl _ (heap_alloc_new _ _) rfl ?_)
        rw [← HVV.out]
        clear HVV p0 p1 p2 d2 d3
        obtain ⟨e0, e1, e2⟩ : Y.cell? ⟨wr.heap.size, 0, none⟩ = some (.int .i64 x) ∧ Y.cell? ⟨wr.heap.size, 1, none⟩ = some (.int .i64 y) ∧ Y.cell? ⟨wr.heap.size, 2, none⟩ = some (.int .i64 z) := ⟨cell_row G.out 0 _ rfl, cell_row G.out 1 _ rfl, cell_row G.out 2 _ rfl⟩
        go_wp2_with fail
        clear e0 e1 e2
        refine (pvec_any w Y (gz + 1) (gz + 1 + 1) v' _ D PY.out ⟨x, y, z⟩ HLL.out (keep_cell QY.out G6.out (fun h => h D6.out)) D6.out).mono ?_
        rintro e w5 ⟨rfl, v5, hp5, hk5⟩
        have P5 := Lib.hid hp5
        have Q5 := Lib.hid (QY.out.trans hk5 (fun _ h => .inl h))
        clear hp5 hk5
        go_wp2_with fail
        go_roundg (n0 - (i + 1))
        case measure => have := HRR.out; have := HN0.out; omega
        case rel =>
          refine ⟨i + 1, v5, by have := HRR.out; have := HN0.out; omega, by go_num, Lib.hid ⟨?_, Q5.out⟩⟩
          rw [take_next ps i hi, ← HU.out, ← List.append_assoc]; exact P5.out
      · have d3 : decide (i < n0) = false := decide_eq_false (by have := HN0.out; omega)
        have d2 : decide ((i : Int) < (n0 : Int)) = false := decide_eq_false (by have := HN0.out; omega)
        have hin' := hin.out
        rw [List.take_of_length_le (by omega)] at hin'
        obtain ⟨L1, hL1⟩ : ∃ l, l = L0 ++ ps.flatMap be3 := ⟨_, rfl⟩
        rw [← hL1] at hin'
        have HI := Lib.hid hin'
        have HL1 := Lib.hid hL1
        have HL1n := Lib.hid (show L1.length = 12 + 24 * n0 by rw [hL1, List.length_append, flat3_len, HL12.out]; have := HN0.out; omega)
        clear hin hin' hL1
        have k1 := cell_row (keep_cell HI.out.2 M.out (fun h => h D1.out)) 1 (.slice a1 n1 c1) rfl
        go_wp2_with fail
        clear k1 d2 d3
        go_loopg [71] n1 (fun r n9 wr => ∃ (i : Nat) (v' : Value), i + r = n1 ∧ n9 = .int .i64 (i : Int) ∧ Hid (Pb w wr (gz + 1) v' (L1 ++ (ts.take i).flatMap be3t) D ∧ Keeps (fun k => ¬ D k) V wr))
        case atStart => exact ⟨0, v', by omega, rfl, Lib.hid ⟨by simpa using HI.out.1, HI.out.2⟩⟩
        case round =>
          obtain ⟨i, v', hir, rfl, hin⟩ := hrel
          by_cases hi : i < ts.length
          · have hv1 := R1.out.below hin.out.1.below (Nat.le_refl _)
            obtain ⟨b, off, e, hb, p0, p1, p2⟩ := at3 hv1 i hi
            subst e
            obtain ⟨u, hu⟩ : ∃ u, u = ts[i] := ⟨_, rfl⟩
            rw [← hu] at p0 p1 p2
            have HU := Lib.hid hu
            clear hu hv1
            have hin0 : (i : Int) < (n1 : Int) := by have := HN1.out; omega
            have d3 : decide (i < n1) = true := decide_eq_true (by have := HN1.out; omega)
            have d2 : decide ((i : Int) < (n1 : Int)) = true := decide_eq_true hin0
            obtain ⟨Y, hY⟩ : ∃ W, W = (wr.alloc (.cells #[.int .i64 0, .int .i64 0, .int .i64 0] 31)).setRow wr.heap.size #[.int .i64 u.x, .int .i64 u.y, .int .i64 u.z] := ⟨_, rfl⟩
            have hYB : Below wr.heap.size wr Y := by rw [hY]; exact below_setRow (ext_alloc _ _) (Nat.le_refl _) _
            have G := Lib.hid (show Y.heap[wr.heap.size]? = some (.cells #[.int .i64 u.x, .int .i64 u.y, .int .i64 u.z] 31) by rw [hY]; exact setRow_heap _ _ _ _ _ _ (heap_alloc_new _ _))
            have PY := Lib.hid (MeshG.Pb.new hin.out.1 hYB)
            have QY := Lib.hid (MeshG.Keeps.more hin.out.2 hYB)
            have HVV := Lib.hid hY
            have HRR := Lib.hid hir
            have HLL := Lib.hid (show (L1 ++ (ts.take i).flatMap be3t).length ≤ 999999000 by rw [List.length_append, flat3t_len, HL1n.out, List.length_take]; have := HL.out; have := HN1.out; omega)
            obtain ⟨LL, hLL⟩ : ∃ l, l = L1 ++ (ts.take i).flatMap be3t := ⟨_, rfl⟩
            rw [← hLL] at PY HLL
            have HLQ := Lib.hid hLL
            clear hY hYB hir hLL
            obtain ⟨x, y, z⟩ := u
            have I0 := fun (w : World) => idx3_0 x y z w
            have I1 := fun (w : World) => idx3_1 x y z w
            have I2 := fun (w : World) => idx3_2 x y z w
            have ux := u64N_wrap x
            have uy := u64N_wrap y
            have uz := u64N_wrap z
            obtain ⟨X1, hX1⟩ : ∃ X, X = u64N x := ⟨_, rfl⟩
            obtain ⟨X2, hX2⟩ : ∃ X, X = u64N y := ⟨_, rfl⟩
            obtain ⟨X3, hX3⟩ : ∃ X, X = u64N z := ⟨_, rfl⟩
            have HX1 := Lib.hid (show X1 < 18446744073709551616 by rw [hX1]; exact u64N_lt _)
            have HX2 := Lib.hid (show X2 < 18446744073709551616 by rw [hX2]; exact u64N_lt _)
            have HX3 := Lib.hid (show X3 < 18446744073709551616 by rw [hX3]; exact u64N_lt _)
            have HE3 := Lib.hid (show be3t ⟨x, y, z⟩ = beL X1 4 ++ beL X2 4 ++ beL X3 4 by rw [hX1, hX2, hX3]; rfl)
            rw [← hX1] at ux
            rw [← hX2] at uy
            rw [← hX3] at uz
            clear hX1 hX2 hX3
            go_upto_region 18 with (with_reducible refine store_recT rfl (.tmp 11) (.tmp 74) rfl rfl wr.heap.size x y z rfl rfl _ (heap_alloc_new _ _) rfl ?_)
            rw [← HVV.out]
            clear HVV p0 p1 p2 d2 d3
            obtain ⟨e0, e1, e2⟩ : Y.cell? ⟨wr.heap.size, 0, none⟩ = some (.int .i64 x) ∧ Y.cell? ⟨wr.heap.size, 1, none⟩ = some (.int .i64 y) ∧ Y.cell? ⟨wr.heap.size, 2, none⟩ = some (.int .i64 z) := ⟨cell_row G.out 0 _ rfl, cell_row G.out 1 _ rfl, cell_row G.out 2 _ rfl⟩
            go_wp2_with fail
            clear e0 e1 e2
            go_loopg [76] 3 (fun r n9 wq => ∃ (j : Int) (v' : Value), 0 ≤ j ∧ j + (r : Int) = 3 ∧ n9 = .int .i64 j ∧ Hid (Pb w wq (gz + 1) v' (LL ++ (if j = 0 then [] else if j = 1 then beL X1 4 else if j = 2 then beL X1 4 ++ beL X2 4 else beL X1 4 ++ beL X2 4 ++ beL X3 4)) D ∧ Keeps (fun k => ¬ D k) V wq))
            case atStart => exact ⟨0, v', by omega, by omega, rfl, Lib.hid ⟨by simpa using PY.out, QY.out⟩⟩
            case round =>
              obtain ⟨j, v', hj0, hjr, rfl, hin2⟩ := hrel
              have k6 := cell_row (keep_cell hin2.out.2 G6.out (fun h => h D6.out)) 0 _ rfl
              rcases (show j = 0 ∨ j = 1 ∨ j = 2 ∨ j = 3 by omega) with rfl | rfl | rfl | rfl
              · go_wp2_with fail
                clear k6
                refine (put_any w wr (gz + 1) v' _ D hin2.out.1 X1 HX1.out 4 (by decide) (by have := HLL.out; simp [beL_len]; omega)).mono ?_
                rintro e w6 ⟨rfl, v6, hp6, hk6⟩
                have P6 := Lib.hid hp6
                have Q6 := Lib.hid (hin2.out.2.trans hk6 (fun _ h => .inl h))
                clear hp6 hk6
                go_wp2_with fail
                go_roundg 2
                case measure => omega
                case rel => exact ⟨1, v6, by omega, by omega, rfl, Lib.hid ⟨by have := P6.out; simpa [List.append_assoc] using this, Q6.out⟩⟩
              · go_wp2_with fail
                clear k6
                refine (put_any w wr (gz + 1) v' _ D hin2.out.1 X2 HX2.out 4 (by decide) (by have := HLL.out; simp [beL_len]; omega)).mono ?_
                rintro e w6 ⟨rfl, v6, hp6, hk6⟩
                have P6 := Lib.hid hp6
                have Q6 := Lib.hid (hin2.out.2.trans hk6 (fun _ h => .inl h))
                clear hp6 hk6
                go_wp2_with fail
                go_roundg 1
                case measure => omega
                case rel => exact ⟨2, v6, by omega, by omega, rfl, Lib.hid ⟨by have := P6.out; simpa [List.append_assoc] using this, Q6.out⟩⟩
              · go_wp2_with fail
                clear k6
                refine (put_any w wr (gz + 1) v' _ D hin2.out.1 X3 HX3.out 4 (by decide) (by have := HLL.out; simp [beL_len]; omega)).mono ?_
                rintro e w6 ⟨rfl, v6, hp6, hk6⟩
                have P6 := Lib.hid hp6
                have Q6 := Lib.hid (hin2.out.2.trans hk6 (fun _ h => .inl h))
                clear hp6 hk6
                go_wp2_with fail
                go_roundg 0
                case measure => omega
                case rel => exact ⟨3, v6, by omega, by omega, rfl, Lib.hid ⟨by have := P6.out; simpa [List.append_assoc] using this, Q6.out⟩⟩
              · go_wp2_with fail
                clear k6
                go_roundg (n1 - (i + 1))
                case measure => have := HRR.out; have := HN1.out; omega
                case rel =>
                  refine ⟨i + 1, v', by have := HRR.out; have := HN1.out; omega, by go_num, Lib.hid ⟨?_, hin2.out.2⟩⟩
                  rw [take_next ts i hi, ← HU.out, HE3.out, ← List.append_assoc L1, ← HLQ.out]; exact hin2.out.1
          · have d3 : decide (i < n1) = false := decide_eq_false (by have := HN1.out; omega)
            have d2 : decide ((i : Int) < (n1 : Int)) = false := decide_eq_false (by have := HN1.out; omega)
            have hin' := hin.out
            rw [List.take_of_length_le (by omega)] at hin'
            obtain ⟨L2, hL2⟩ : ∃ l, l = L1 ++ ts.flatMap be3t := ⟨_, rfl⟩
            rw [← hL2] at hin'
            have HI2 := Lib.hid hin'
            have HL2 := Lib.hid hL2
            have HL2n := Lib.hid (show L2.length = 12 + 24 * n0 + 12 * n1 by rw [hL2, List.length_append, flat3t_len, HL1n.out]; have := HN1.out; omega)
            clear hin hin' hL2 HI
            have k2 := cell_row (keep_cell HI2.out.2 M.out (fun h => h D1.out)) 2 (.slice a2 n2 c2) rfl
            go_wp2_with fail
            clear k2 d2 d3
            go_loopg [88] n2 (fun r n9 wr => ∃ (i : Nat) (v' : Value), i + r = n2 ∧ n9 = .int .i64 (i : Int) ∧ Hid (Pb w wr (gz + 1) v' (L2 ++ (bs.take i).flatMap be4) D ∧ Keeps (fun k => ¬ D k) V wr))
            case atStart => exact ⟨0, v', by omega, rfl, Lib.hid ⟨by simpa using HI2.out.1, HI2.out.2⟩⟩
            case round =>
              obtain ⟨i, v', hir, rfl, hin⟩ := hrel
              by_cases hi : i < bs.length
              · have hv1 := R2.out.below hin.out.1.below (Nat.le_refl _)
                obtain ⟨b, off, e, hb, p0, p1, p2, p3⟩ := at4 hv1 i hi
                subst e
                obtain ⟨u, hu⟩ : ∃ u, u = bs[i] := ⟨_, rfl⟩
                rw [← hu] at p0 p1 p2 p3
                have HU := Lib.hid hu
                clear hu hv1
                have hin0 : (i : Int) < (n2 : Int) := by have := HN2.out; omega
                have d3 : decide (i < n2) = true := decide_eq_true (by have := HN2.out; omega)
                have d2 : decide ((i : Int) < (n2 : Int)) = true := decide_eq_true hin0
                obtain ⟨Y, hY⟩ : ∃ W, W = (wr.alloc (.cells #[.int .i64 0, .int .i64 0, .int .i64 0, .int .i64 0] 26)).setRow wr.heap.size #[.int .i64 u.c.x, .int .i64 u.c.y, .int .i64 u.c.z, .int .i64 u.r] := ⟨_, rfl⟩
                have hYB : Below wr.heap.size wr Y := by rw [hY]; exact below_setRow (ext_alloc _ _) (Nat.le_refl _) _
                have hG : Y.heap[wr.heap.size]? = some (.cells #[.int .i64 u.c.x, .int .i64 u.c.y, .int .i64 u.c.z, .int .i64 u.r] 26) := by rw [hY]; exact setRow_heap _ _ _ _ _ _ (heap_alloc_new _ _)
                have G := Lib.hid hG
                have hlw : ∀ b, D b → b < wr.heap.size := fun b hb => (hin.out.1.free b hb).1
                have HLESS := Lib.hid (fun (e : Ending) (w' : World) (L : List Nat) (h : PTo w Y (gz + 1) L (fun b => D b ∨ (wr.heap.size ≤ b ∧ b < Y.heap.size)) e w') => h.less hYB (fun b hb => .inl hb) hlw)
                have PY := Lib.hid (hin.out.1.ext hYB)
                have DY := Lib.hid (show (fun b => D b ∨ (wr.heap.size ≤ b ∧ b < Y.heap.size)) wr.heap.size from .inr ⟨Nat.le_refl _, lt_of_heap hG⟩)
                have DY6 := Lib.hid (show (fun b => D b ∨ (wr.heap.size ≤ b ∧ b < Y.heap.size)) (gz + 1 + 1) from .inl D6.out)
                obtain ⟨D2, hD2⟩ : ∃ D2, D2 = (fun b => D b ∨ (wr.heap.size ≤ b ∧ b < Y.heap.size)) := ⟨_, rfl⟩
                rw [← hD2] at PY DY DY6 HLESS
                have QY := Lib.hid (MeshG.Keeps.more hin.out.2 hYB)
                have HVV := Lib.hid hY
                have HRR := Lib.hid hir
                have HLL := Lib.hid (show (L2 ++ (bs.take i).flatMap be4).length ≤ 999990000 by rw [List.length_append, flat4_len, HL2n.out, List.length_take]; have := HL.out; have := HN2.out; omega)
                obtain ⟨LL, hLL⟩ : ∃ l, l = L2 ++ (bs.take i).flatMap be4 := ⟨_, rfl⟩
                rw [← hLL] at PY HLL
                have HLQ := Lib.hid hLL
                clear hY hYB hir hLL hG hD2 hlw
                obtain ⟨⟨x, y, z⟩, s⟩ := u
                have us := u64N_wrap s
                obtain ⟨X1, hX1⟩ : ∃ X, X = u64N s := ⟨_, rfl⟩
                have HX1 := Lib.hid (show X1 < 18446744073709551616 by rw [hX1]; exact u64N_lt _)
                have HE4 := Lib.hid (show be4 ⟨⟨x, y, z⟩, s⟩ = be3 ⟨x, y, z⟩ ++ beL X1 8 by rw [hX1]; rfl)
                rw [← hX1] at us
                clear hX1
                go_upto_region 27 with (with_reducible refine store_recB rfl (.tmp 15) (.tmp 91) rfl rfl wr.heap.size x y z s rfl rfl _ (heap_alloc_new _ _) rfl ?_)
                rw [← HVV.out]
                clear HVV p0 p1 p2 p3 d2 d3
                obtain ⟨e0, e1, e2⟩ : Y.cell? ⟨wr.heap.size, 0, none⟩ = some (.int .i64 x) ∧ Y.cell? ⟨wr.heap.size, 1, none⟩ = some (.int .i64 y) ∧ Y.cell? ⟨wr.heap.size, 2, none⟩ = some (.int .i64 z) := ⟨cell_row G.out 0 _ rfl, cell_row G.out 1 _ rfl, cell_row G.out 2 _ rfl⟩
                go_wp2_with fail
                clear e0 e1 e2
                refine (pvec_any w Y (gz + 1) (gz + 1 + 1) v' _ D2 PY.out ⟨x, y, z⟩ (by have := HLL.out; omega) (keep_cell QY.out G6.out (fun h => h D6.out)) DY6.out).mono ?_
                rintro e w5 ⟨rfl, v5, hp5, hk5⟩
                have P5 := Lib.hid hp5
                have Q5 := Lib.hid hk5
                clear hp5 hk5
                have k6 := cell_row (keep_cell Q5.out (keep_cell QY.out G6.out (fun h => h D6.out)) (fun h => h DY6.out)) 0 _ rfl
                have e3 := cell_row (keep_cell Q5.out G.out (fun h => h DY.out)) 3 (.int .i64 s) rfl
                go_wp2_with fail
                clear k6 e3
                refine (put_any w w5 (gz + 1) v5 _ D2 P5.out X1 HX1.out 8 (by decide) (by have := HLL.out; rw [List.length_append, be3_len]; omega)).mono ?_
                rintro e w6 ⟨rfl, v6, hp6, hk6⟩
                obtain ⟨-, v7, hp7, hk7⟩ := HLESS.out _ w6 _ ⟨rfl, v6, hp6, Q5.out.trans hk6 (fun _ h => .inl h)⟩
                have P7 := Lib.hid hp7
                have Q7 := Lib.hid (hin.out.2.trans hk7 (fun _ h => .inl h))
                clear hp6 hk6 hp7 hk7
                go_wp2_with fail
                go_roundg (n2 - (i + 1))
                case measure => have := HRR.out; have := HN2.out; omega
                case rel =>
                  refine ⟨i + 1, v7, by have := HRR.out; have := HN2.out; omega, by go_num, Lib.hid ⟨?_, Q7.out⟩⟩
                  rw [take_next bs i hi, ← HU.out, HE4.out, ← List.append_assoc L2, ← HLQ.out, ← List.append_assoc]; exact P7.out
              · have d3 : decide (i < n2) = false := decide_eq_false (by have := HN2.out; omega)
                have d2 : decide ((i : Int) < (n2 : Int)) = false := decide_eq_false (by have := HN2.out; omega)
                have hin' := hin.out
                rw [List.take_of_length_le (by omega)] at hin'
                have HI3 := Lib.hid hin'
                clear hin hin' HI2
                have k5 := cell_row HI3.out.1.row 0 v' rfl
                go_wp2_with fail
                rw [HO.out]
                exact ⟨v', rfl, by rw [HBF.out, ← HL0.out, ← HL1.out, ← HL2.out]; exact HI3.out.1.own, HI3.out.1.below⟩
  · have he := HOF.out (by decide)
    subst he
    clear HNT HOF HOF2
    go_wp2_with fail
    rw [HO.out]
    exact ⟨_, rfl, Own.nil _ _ _ _ _, HB1.out⟩
end Go.Proofs.Ytdmmjmdnljhooaa.MeshG
