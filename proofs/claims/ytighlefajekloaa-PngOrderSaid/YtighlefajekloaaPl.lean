import Derived.Test.YtighlefajekloaaPj
import Derived.Deep.CutRange
import Derived.Deep.DeepCutAuto
import Derived.Test.YtighlefajekloaaLow
import Derived.Test.YtighlefajekloaaQu
import Derived.Test.YtighlefajekloaaNumSl
/- Package lightwellref09: Pieces. -/
set_option linter.unusedVariables false
set_option linter.unusedSimpArgs false
namespace Go.Proofs.Ytighlefajekloaa.PngL
open Go.RowKit Go.Sort Base Low NumSl DefDa DefDb NumAp BitsM Bits5 DefM DefN DefO SumsM Rec PngB PngC PngD PngE PngF PngH PngI PngJ PngK PngO Qb Qt
set_option maxRecDepth 100000 in
set_option maxHeartbeats 4000000 in
theorem pieces_any (w : World) (wd ht : Nat) (hw1 : 1 ≤ wd) (hw : wd ≤ 1024) (hh1 : 1 ≤ ht) (hh : ht ≤ 1024) (hn : wd * ht ≤ 1000) (hol : (orderQ wd ht 7).length = wd * ht) (vp : Value) (ps : List Px) (hp : Recs 4 encP w vp ps) (hpo : ∀ p ∈ ps, p.ok) (hpn : ps.length ≤ wd * ht) :
    Calls Try.prog 16 #[.int .i64 (wd : Int), .int .i64 (ht : Int), vp] w fun e w' => ∃ v ys, e = .returned v ∧ Recs 1 encS w' v ys ∧ RowsAre w' ys (piecesQ wd ht (orderQ wd ht 7) ps ps.length) ∧ Below w.heap.size w w' ∧ (∀ k, v.ownBlock = some k → w.heap.size ≤ k ∧ k < w'.heap.size) ∧ ∀ s ∈ ys, ∀ k, (slV s).ownBlock = some k → w.heap.size ≤ k := by
  obtain ⟨n, hn0⟩ : ∃ n, n = wd * ht := ⟨_, rfl⟩
  have HN := Lib.hid hn0
  rw [← hn0] at hn hol hpn
  obtain ⟨np, hnp⟩ : ∃ n, n = ps.length := ⟨_, rfl⟩
  obtain ⟨ap, cp, rfl, -, -⟩ := hp.open_
  have HP := Lib.hid hp
  rw [← hnp] at hpn HP ⊢
  have HNP := Lib.hid hnp
  have HPO := Lib.hid hpo
  have HOL := Lib.hid hol
  have HR := Lib.hid (rorder_any wd ht hw1 hw hh1 hh w)
  clear hp hpo hnp hn0 hol
  go_enter Try.func16, Try.ntmps16
  go_wp2_with fail
  refine HR.out.mono ?_
  rintro e w1 ⟨vord, rfl, ho1, hb1⟩
  obtain ⟨ord, hord⟩ : ∃ l, l = orderQ wd ht 7 := ⟨_, rfl⟩
  rw [← hord] at ho1 HOL
  have HORD := Lib.hid hord
  obtain ⟨ao, no, co, rfl⟩ := ho1.slice_
  have hno := (nums_len ho1.nums).1
  have hnn : no = n := by rw [hno, HOL.out]
  subst hnn
  have HO1 := Lib.hid ho1
  have HB1 := Lib.hid hb1
  have hxa := ext_alloc w1 (.cells #[.slice none 0 0, .int .i64 0, .slice none 0 0, .int .i64 0, .bool false, .bool false] 64)
  have hza := heap_alloc_new w1 (.cells #[.slice none 0 0, .int .i64 0, .slice none 0 0, .int .i64 0, .bool false, .bool false] 64)
  have HPI := Lib.hid (show PI w (w1.alloc (.cells #[.slice none 0 0, .int .i64 0, .slice none 0 0, .int .i64 0, .bool false, .bool false] 64)) (.slice ao no co) ord (.slice none 0 0) [] (piecesQ wd ht ord ps 0) w1.heap.size #[.slice none 0 0, .int .i64 0, .slice none 0 0, .int .i64 0, .bool false, .bool false] (decide (0 < 0)) (bytesQ wd ord ps 0) from
    ⟨HB1.out.trans (hxa.mono HB1.out.size), HO1.out.nums.below hxa (Nat.le_refl _), fun k e => (own_tyB HO1.out k e).below hxa (Nat.le_refl _), RecsOwn.nil _ _ _, RowsAre.nil _, hza, HB1.out.size, Rz.nil _, fun s hs => by simp at hs⟩)
  clear ho1 hb1 hord hno hxa hza HR HO1
  go_upto_region 4 with (fail)
  obtain ⟨W, hW⟩ : ∃ W, W = w1.alloc (.cells #[.slice none 0 0, .int .i64 0, .slice none 0 0, .int .i64 0, .bool false, .bool false] 64) := ⟨_, rfl⟩
  obtain ⟨g9, hg9⟩ : ∃ g, g = w1.heap.size := ⟨_, rfl⟩
  rw [← hW, ← hg9] at HPI
  rw [← hW, ← hg9]
  clear hW hg9 HB1
  go_wp2_with fail
  go_loopg [8, 10] np (fun r v8 v10 wr => ∃ (i : Nat) (ys : List Sl) (row : Array Value), i + r = np ∧ v10 = .int .i64 (i : Int) ∧ Hid (PI w wr (.slice ao no co) ord v8 ys (piecesQ wd ht ord ps i) g9 row (decide (0 < i)) (bytesQ wd ord ps i)))
  case atStart => exact ⟨0, [], _, by omega, rfl, HPI⟩
  case round =>
    obtain ⟨i, ys, row, hir, rfl, HI⟩ := hrel
    clear HPI
    have hin9 : i ≤ np := by omega
    obtain ⟨as_, cs_, rfl⟩ := HI.out.out.slice_
    have hys : ys.length = i := by rw [HI.out.rows.1]; unfold piecesQ; simp
    rw [hys] at HI ⊢
    clear hys
    by_cases hin : i < np
    · have d1 : decide (i < np) = true := decide_eq_true hin
      have d1' : decide ((i : Int) < (np : Int)) = true := decide_eq_true (by omega)
      have hino : i < no := by omega
      have d2 : decide (i < no) = true := decide_eq_true hino
      have d2' : decide ((i : Int) < (no : Int)) = true := decide_eq_true (by omega)
      obtain ⟨z, hz⟩ : ∃ z, z = ord.getD i 0 := ⟨_, rfl⟩
      have hil : i < ord.length := by rw [HOL.out]; exact hino
      obtain ⟨bo, oo, co', eo, -, hco⟩ := HI.out.nord.cells (by intro e; rw [e] at hil; simp at hil)
      simp only [Value.slice.injEq] at eo
      obtain ⟨rfl, -, -⟩ := eo
      have hzi := hco i hil
      rw [show (ord[i]'hil) = z by rw [hz]; simp [List.getD_eq_getElem?_getD, List.getElem?_eq_getElem hil]] at hzi
      have HCO := Lib.hid (fun (j : Nat) (hj : j < no) => show wr.cell? ⟨bo, oo + j, none⟩ = some (.int .i64 ((ord.getD j 0 : Nat) : Int)) from by
        have hj2 : j < ord.length := by rw [HOL.out]; exact hj
        have := hco j hj2
        rwa [show (ord[j]'hj2) = ord.getD j 0 by simp [List.getD_eq_getElem?_getD, List.getElem?_eq_getElem hj2]] at this)
      have hz9 : z < 1048576 := by
        rw [hz, List.getD_eq_getElem?_getD, List.getElem?_eq_getElem hil]; exact HI.out.nord.bound _ (List.getElem_mem hil)
      have HZ := Lib.hid hz
      have z1 : ∀ d os, (grow (redrawn wr d) os).cell? ⟨bo, oo + i, none⟩ = some (.int .i64 (z : Int)) := fun d os => cell_regrown hzi d os
      obtain ⟨x, hx⟩ : ∃ x, x = z % wd := ⟨_, rfl⟩
      obtain ⟨y, hy⟩ : ∃ y, y = z / wd := ⟨_, rfl⟩
      have hx9 : x ≤ z := by rw [hx]; exact Nat.mod_le _ _
      have hy9 : y ≤ z := by rw [hy]; exact Nat.div_le_self _ _
      have EX := Lib.hid (show (z : Int) % (wd : Int) = (x : Int) by rw [← Int.natCast_emod, ← hx])
      have EY := Lib.hid (show (z : Int) / (wd : Int) = (y : Int) by rw [← Int.natCast_ediv, ← hy])
      have EY2 := Lib.hid (show RowKit.wrap64 (y : Int) = (y : Int) by unfold RowKit.wrap64; omega)
      have hw0 : ¬ (wd : Int) = 0 := by omega
      clear hzi hco hz
      go_upto_region 8 with (fail)
      refine wp_region_quiet_below (by kernel_rfl) (by kernel_rfl) ?_
      repeat (go_big_quiet_step (fail))
      refine wpQuiet_nil ?_
      first | (rintro _ ⟨⟨dq, osq⟩, rfl⟩) | (rintro ⟨dq, osq⟩)
      have hb2 := below_regrown wr dq osq
      generalize grow (redrawn wr dq) osq = W2 at *
      have HI2 := Lib.hid (HI.out.ext hb2)
      have HCO2 := Lib.hid (fun (j : Nat) (hj : j < no) => show W2.cell? ⟨bo, oo + j, none⟩ = some (.int .i64 ((ord.getD j 0 : Nat) : Int)) from
        (World.cell?_of_block (a := ⟨bo, oo + j, none⟩) (hb2.block bo (HI.out.tord bo rfl).lt)).trans (HCO.out j hj))
      have HX := Lib.hid hx
      have HY := Lib.hid hy
      clear hb2 z1 HI HCO hx hy
      go_simp
      simp only [EX.out, EY.out, EY2.out]
      go_upto_region 9 with (fail)
      go_cut [93] (fun v93 wc => v93 = .bool (newQ wd ord i) ∧ Below W2.heap.size W2 wc)
      case first =>
        by_cases hi0 : i = 0
        · have q1 : ((i : Int) == 0) = true := by simp; omega
          have hnew : newQ wd ord i = true := by unfold newQ; rw [hi0]; rfl
          have HNEW := Lib.hid hnew
          clear hnew hi0
          refine wp_region_quiet_below (by kernel_rfl) (by kernel_rfl) ?_
          repeat (go_big_quiet_step (fail))
          refine wpQuiet_nil ?_
          first | (rintro _ ⟨⟨dq3, osq3⟩, rfl⟩) | (rintro ⟨dq3, osq3⟩)
          have hb3 := below_regrown W2 dq3 osq3
          generalize grow (redrawn W2 dq3) osq3 = W3 at *
          have HB3 := Lib.hid hb3
          clear hb3
          go_simp
          go_wp2_with fail
          go_meet
          case rel => exact ⟨by rw [HNEW.out], HB3.out⟩
        · obtain ⟨j, hj⟩ : ∃ j, i = j + 1 := ⟨i - 1, by omega⟩
          obtain ⟨z', hz'⟩ : ∃ z', z' = ord.getD (i - 1) 0 := ⟨_, rfl⟩
          obtain ⟨x', hx'⟩ : ∃ x', x' = z' % wd := ⟨_, rfl⟩
          obtain ⟨y', hy'⟩ : ∃ y', y' = z' / wd := ⟨_, rfl⟩
          have hzj := HCO2.out j (by omega)
          rw [show ord.getD j 0 = z' by rw [hz', show i - 1 = j by omega]] at hzj
          have hz9' : z' < 1048576 := by
            have hjl : j < ord.length := by rw [HOL.out]; omega
            rw [hz', show i - 1 = j by omega, List.getD_eq_getElem?_getD, List.getElem?_eq_getElem hjl]; exact HI2.out.nord.bound _ (List.getElem_mem hjl)
          have hx9' : x' ≤ z' := by rw [hx']; exact Nat.mod_le _ _
          have hy9' : y' ≤ z' := by rw [hy']; exact Nat.div_le_self _ _
          have hnew : newQ wd ord i = (!(y' == y) || (decide (x < x') || !(passF x y == passF x' y'))) := by
            unfold newQ
            rw [show (i == 0) = false by simp; omega, Bool.false_or, ← HZ.out, ← hz', ← HX.out, ← HY.out, ← hx', ← hy']
          have z1 : ∀ d os, (grow (redrawn W2 d) os).cell? ⟨bo, oo + j, none⟩ = some (.int .i64 (z' : Int)) := fun d os => cell_regrown hzj d os
          have q1 : ((i : Int) == 0) = false := by simp; omega
          have ej : IntKind.i64.wrap ((i : Int) - 1) = (j : Int) := by rw [IntKind.wrap_i64]; omega
          have hjn : j < no := by omega
          have EX' := Lib.hid (show (z' : Int) % (wd : Int) = (x' : Int) by rw [← Int.natCast_emod, ← hx'])
          have EY' := Lib.hid (show (z' : Int) / (wd : Int) = (y' : Int) by rw [← Int.natCast_ediv, ← hy'])
          have EY2' := Lib.hid (show RowKit.wrap64 (y' : Int) = (y' : Int) by unfold RowKit.wrap64; omega)
          have HNEW := Lib.hid hnew
          clear hj hz' hx' hy' hzj hnew
          by_cases hyy : y' = y
          · have q2 : (RowKit.wrap64 ((z' : Int) / (wd : Int)) != (y : Int)) = false := by rw [EY'.out, EY2'.out, hyy]; simp
            by_cases hxx : x < x'
            · have q3 : decide ((x : Int) < (z' : Int) % (wd : Int)) = true := by rw [EX'.out]; exact decide_eq_true (by omega)
              have hnw : newQ wd ord i = true := by rw [HNEW.out, decide_eq_true hxx]; simp
              have HNW := Lib.hid hnw
              clear hnw hyy hxx
              refine wp_region_quiet_below (by kernel_rfl) (by kernel_rfl) ?_
              repeat (go_big_quiet_step (fail))
              refine wpQuiet_nil ?_
              first | (rintro _ ⟨⟨dq3, osq3⟩, rfl⟩) | (rintro ⟨dq3, osq3⟩)
              have hb3 := below_regrown W2 dq3 osq3
              generalize grow (redrawn W2 dq3) osq3 = W3 at *
              have HB3 := Lib.hid hb3
              clear hb3
              go_simp
              go_wp2_with fail
              go_meet
              case rel => exact ⟨by rw [HNW.out], HB3.out⟩
            · have q3 : decide ((x : Int) < (z' : Int) % (wd : Int)) = false := by rw [EX'.out]; exact decide_eq_false (by omega)
              have hnw : newQ wd ord i = !(passF x y == passF x' y') := by rw [HNEW.out, decide_eq_false hxx, hyy]; simp
              have hnwi : newQ wd ord i = ((passF x y : Int) != (passF x' y' : Int)) := by
                rw [hnw]
                by_cases h : passF x y = passF x' y'
                · rw [h]; simp
                · rw [show (passF x y == passF x' y') = false by simp [h], show ((passF x y : Int) != (passF x' y' : Int)) = true by simp; omega]; rfl
              have HNW := Lib.hid hnwi
              have Q1 := Lib.hid (qs (args := #[.int .i64 (x : Int), .int .i64 (y : Int)]) (W := W2) (fun w => pass_any x y (by omega) (by omega) w))
              have Q2 := Lib.hid (qs (args := #[.int .i64 ((z' : Int) % (wd : Int)), .int .i64 (RowKit.wrap64 ((z' : Int) / (wd : Int)))]) (W := W2) (fun w => by rw [EX'.out, EY'.out, EY2'.out]; exact pass_any x' y' (by omega) (by omega) w))
              clear hnw hnwi hyy hxx
              refine wp_region_quiet_below (by kernel_rfl) (by kernel_rfl) ?_
              repeat (go_big_quiet_step (first | (with_reducible exact Q1.out _ _) | (with_reducible exact Q2.out _ _)))
              refine wpQuiet_nil ?_
              first | (rintro _ ⟨⟨dq3, osq3⟩, rfl⟩) | (rintro ⟨dq3, osq3⟩)
              have hb3 := below_regrown W2 dq3 osq3
              generalize grow (redrawn W2 dq3) osq3 = W3 at *
              have HB3 := Lib.hid hb3
              clear hb3
              go_simp
              go_wp2_with fail
              go_meet
              case rel => exact ⟨by rw [HNW.out], HB3.out⟩
          · have q2 : (RowKit.wrap64 ((z' : Int) / (wd : Int)) != (y : Int)) = true := by rw [EY'.out, EY2'.out]; simp; omega
            have hnw : newQ wd ord i = true := by rw [HNEW.out]; simp [hyy]
            have HNW := Lib.hid hnw
            clear hnw hyy
            refine wp_region_quiet_below (by kernel_rfl) (by kernel_rfl) ?_
            repeat (go_big_quiet_step (fail))
            refine wpQuiet_nil ?_
            first | (rintro _ ⟨⟨dq3, osq3⟩, rfl⟩) | (rintro ⟨dq3, osq3⟩)
            have hb3 := below_regrown W2 dq3 osq3
            generalize grow (redrawn W2 dq3) osq3 = W3 at *
            have HB3 := Lib.hid hb3
            clear hb3
            go_simp
            go_wp2_with fail
            go_meet
            case rel => exact ⟨by rw [HNW.out], HB3.out⟩
      case rest =>
        obtain ⟨rfl, hb3⟩ := hcut
        generalize wc = W3 at *
        have HI3 := Lib.hid (HI2.out.ext hb3)
        obtain ⟨N, hN⟩ : ∃ N, N = W2.heap.size := ⟨_, rfl⟩
        have HNW := Lib.hid (show w.heap.size ≤ N by rw [hN]; exact HI2.out.bel.size)
        have HRL := Lib.hid (show RowsLt N ys by rw [hN]; exact HI2.out.rows.lt)
        have HR6 := Lib.hid (show ∀ k, own6 (.agg row) k → k < N by rw [hN]; exact HI2.out.rz.lt)
        have h9N : g9 < N := by rw [hN]; exact lt_of_heap HI2.out.zrow
        have hN3 : N ≤ W3.heap.size := by rw [hN]; exact hb3.size
        obtain ⟨fl, hfl⟩ : ∃ f, f = newQ wd ord i := ⟨_, rfl⟩
        rw [← hfl]
        have HFL := Lib.hid hfl
        clear hb3 hN hfl HI2 HCO2
        go_upto_if 93 with (fail)
        go_cut [11] (fun v11 wc => Own .u8 256 5 N wc v11 (if fl = true then [0] else []) ∧ Below W3.heap.size W3 wc)
        case first =>
          cases fl with
          | true =>
            have hxa := ext_alloc W3 (.cells #[.int .u8 0] 5)
            have HN1 := Lib.hid (nums_blk .u8 256 (heap_alloc_new W3 (.cells #[.int .u8 0] 5)) [0] (by decide) (by decide) rfl 1 rfl)
            have HXA := Lib.hid hxa
            have hbsa := Nat.le_trans hN3 hxa.size
            clear hxa
            go_wp2_with (at_builtin; refine wpList_append_nums_at rfl (.tmp 94) (.tmp 95) 33 5 rfl .u8 256 1 N u8s (.slice none 0 0) [] rfl (Own.nil _ _ _ _ _) _ [0] rfl HN1.out (by decide) (by decide) hbsa ?_; intro v8_ w8_ h1_ h2_ h3_; have HO8 := Lib.hid h1_; have HB8 := Lib.hid (HXA.out.trans (((Keeps.refl (fun _ => False) _).grown h2_ (fun k hk => by cases hk)).below W3.heap.size HXA.out.size (fun _ h => h.elim))); clear h1_ h2_ h3_)
            go_meet
            case rel => exact ⟨HO8.out, HB8.out⟩
          | false =>
            go_wp2_with fail
            go_meet
            case rel => exact ⟨Own.nil _ _ _ _ _, Below.refl _ _⟩
        case rest =>
          obtain ⟨ho11, hb4⟩ := hcut
          generalize wc = W4 at *
          obtain ⟨L11, hL11⟩ : ∃ L : List Nat, L = if fl = true then [0] else [] := ⟨_, rfl⟩
          rw [← hL11] at ho11
          have hl11 : L11.length ≤ 1 := by rw [hL11]; split <;> simp
          obtain ⟨p, hpx⟩ : ∃ p, p = ps.getD i (0, 0, 0, 0) := ⟨_, rfl⟩
          have hipl : i < ps.length := by rw [← HNP.out]; exact hin
          have hpe : ps[i]'hipl = p := by rw [hpx, List.getD_eq_getElem?_getD, List.getElem?_eq_getElem hipl]; rfl
          have HPX := Lib.hid hpx
          have HPL := Lib.hid (show p.ok from by rw [← hpe]; exact HPO.out _ (List.getElem_mem hipl))
          have HI4 := Lib.hid (HI3.out.ext hb4)
          have HO11 := Lib.hid ho11
          have HL11 := Lib.hid hL11
          have hN4 : N ≤ W4.heap.size := Nat.le_trans hN3 hb4.size
          obtain ⟨bp, op, cp', ep, -, hcp⟩ := (HP.out.below HI4.out.bel (Nat.le_refl _)).cells (by intro e; rw [e] at hipl; simp at hipl)
          simp only [Value.slice.injEq] at ep
          obtain ⟨rfl, -, -⟩ := ep
          have hcpi := hcp i hipl
          rw [hpe] at hcpi
          have HCP := Lib.hid hcpi
          clear ho11 hL11 hb4 hpx hipl hpe hcp hcpi HI3
          have HN15 := Lib.hid (heap_alloc_new W4 (.cells #[.int .u8 0, .int .u8 0, .int .u8 0, .int .u8 0] 28))
          have y0 : W4.cell? ⟨bp, op + i * 4, none⟩ = some (.int .u8 (p.1 : Int)) := HCP.out 0 _ rfl
          have y1 : W4.cell? ⟨bp, op + i * 4 + 1, none⟩ = some (.int .u8 (p.2.1 : Int)) := HCP.out 1 _ rfl
          have y2 : W4.cell? ⟨bp, op + i * 4 + 2, none⟩ = some (.int .u8 (p.2.2.1 : Int)) := HCP.out 2 _ rfl
          have y3 : W4.cell? ⟨bp, op + i * 4 + 3, none⟩ = some (.int .u8 (p.2.2.2 : Int)) := HCP.out 3 _ rfl
          go_upto_region 12 with (refine store_p4 rfl (.tmp 15) (.tmp 100) rfl rfl W4.heap.size _ _ _ _ rfl rfl _ HN15.out rfl ?_)
          have hb5 : Below W4.heap.size W4 ((W4.alloc (.cells #[.int .u8 0, .int .u8 0, .int .u8 0, .int .u8 0] 28)).setRow W4.heap.size #[.int .u8 (p.1 : Int), .int .u8 (p.2.1 : Int), .int .u8 (p.2.2.1 : Int), .int .u8 (p.2.2.2 : Int)]) := below_setRow_new (ext_alloc W4 _) (Nat.le_refl _) _
          have hr5 := setRow_heap _ _ _ #[.int .u8 (p.1 : Int), .int .u8 (p.2.1 : Int), .int .u8 (p.2.2.1 : Int), .int .u8 (p.2.2.2 : Int)] _ _ HN15.out
          obtain ⟨g15, hg15⟩ : ∃ g, g = W4.heap.size := ⟨_, rfl⟩
          simp only [← hg15] at hr5 hb5 ⊢
          obtain ⟨W5, hW5⟩ : ∃ ww, ww = (W4.alloc (.cells #[.int .u8 0, .int .u8 0, .int .u8 0, .int .u8 0] 28)).setRow g15 #[.int .u8 (p.1 : Int), .int .u8 (p.2.1 : Int), .int .u8 (p.2.2.1 : Int), .int .u8 (p.2.2.2 : Int)] := ⟨_, rfl⟩
          simp only [← hW5] at hr5 hb5 ⊢
          rw [hg15] at hb5
          have HI5 := Lib.hid (HI4.out.ext hb5)
          have HO5 := Lib.hid (HO11.out.below hb5 (Nat.le_refl _))
          have y0 : W5.cell? ⟨g15, 0, none⟩ = some (.int .u8 (p.1 : Int)) := cell_of_row _ _ 0 _ _ _ hr5
          have y1 : W5.cell? ⟨g15, 1, none⟩ = some (.int .u8 (p.2.1 : Int)) := cell_of_row _ _ 1 _ _ _ hr5
          have y2 : W5.cell? ⟨g15, 2, none⟩ = some (.int .u8 (p.2.2.1 : Int)) := cell_of_row _ _ 2 _ _ _ hr5
          have y3 : W5.cell? ⟨g15, 3, none⟩ = some (.int .u8 (p.2.2.2 : Int)) := cell_of_row _ _ 3 _ _ _ hr5
          have hxa := ext_alloc W5 (.cells #[.int .u8 (p.1 : Int), .int .u8 (p.2.1 : Int), .int .u8 (p.2.2.1 : Int), .int .u8 (p.2.2.2 : Int)] 5)
          have HN5 := Lib.hid (nums_blk .u8 256 (heap_alloc_new W5 (.cells #[.int .u8 (p.1 : Int), .int .u8 (p.2.1 : Int), .int .u8 (p.2.2.1 : Int), .int .u8 (p.2.2.2 : Int)] 5)) (pxL p) (by simp [pxL, maxLen]) (Px.lt HPL.out) rfl 4 rfl)
          have HT5 := Lib.hid (show PT w N (W5.alloc (.cells #[.int .u8 (p.1 : Int), .int .u8 (p.2.1 : Int), .int .u8 (p.2.2.1 : Int), .int .u8 (p.2.2.2 : Int)] 5)) (.slice (some ⟨bo, oo, none⟩) no co) ord (.slice as_ i cs_) ys (piecesQ wd ht ord ps i) g9 row (decide (0 < i)) (bytesQ wd ord ps i) u11 L11 from
            PT.ext ⟨HI5.out, HO5.out, fun k e => ⟨(HO5.out.lt k e).1, fun h6 => by have := HR6.out k h6; have := (HO5.out.lt k e).1; omega⟩, HNW.out, HRL.out, Nat.le_trans hN4 hb5.size⟩ hxa)
          have hs5 := HT5.out.size
          have HLa := Lib.hid (show (L11.length + (pxL p).length) * 1 ≤ 140737488355328 by simp only [pxL, List.length_cons, List.length_nil]; omega)
          have HLb := Lib.hid (show L11.length + (pxL p).length ≤ 140737488355328 by simp only [pxL, List.length_cons, List.length_nil]; omega)
          clear hg15 hW5 hr5 hb5 hxa HN15 HCP HI4 HO11 HI5 HO5
          go_upto_region 13 with (at_builtin; refine wpList_append_nums_at rfl (.tmp 101) (.tmp 110) 33 5 rfl .u8 256 1 N u8s u11 L11 rfl HT5.out.own _ (pxL p) rfl HN5.out HLa.out HLb.out hs5 ?_; intro v6 W6 h1_ h2_ h3_; have HT6 := Lib.hid (HT5.out.grow h1_ h2_ h3_); clear h1_ h2_ h3_)
          have hin6 : inQ wd ord ps i = L11 ++ pxL p := by
            unfold inQ inL atQ
            rw [← HFL.out, ← HPX.out, HL11.out]
            cases fl <;> rfl
          have HIN := Lib.hid hin6
          have hs6 := HT6.out.size
          clear y0 y1 y2 y3 HT5 HN5 HLa HLb hin6
          obtain ⟨a6, n6, c6, hv6⟩ := HT6.out.own.slice_
          subst hv6
          obtain ⟨LH, hLH⟩ : ∃ L : List Nat, L = if i = 0 then headL wd ht else [] := ⟨_, rfl⟩
          have hlh : LH.length ≤ 100 := by
            rw [hLH]; split
            · simp [headL, chunkL, fourL]
            · simp
          have HLH := Lib.hid hLH
          clear hLH
          go_upto_if 113 with (fail)
          go_cut [12] (fun v12 wc => Own .u8 256 5 N wc v12 LH ∧ Below W6.heap.size W6 wc)
          case first =>
            by_cases hi0 : i = 0
            · have q1 : ((i : Int) == 0) = true := by simp; omega
              have HL0 := Lib.hid (show LH = headL wd ht by rw [HLH.out, if_pos hi0])
              go_wp2_with fail
              refine (rhead_any W6 wd ht hw hh).mono ?_
              rintro e Wh ⟨yh, rfl, hoh, hbh⟩
              have HOH := Lib.hid hoh.nums
              have HBH := Lib.hid hbh
              have hsh := Nat.le_trans hs6 hbh.size
              have HLa := Lib.hid (show (([] : List Nat).length + (headL wd ht).length) * 1 ≤ 140737488355328 by rw [← HL0.out]; simp only [List.length_nil]; omega)
              have HLb := Lib.hid (show ([] : List Nat).length + (headL wd ht).length ≤ 140737488355328 by rw [← HL0.out]; simp only [List.length_nil]; omega)
              clear hoh hbh hi0
              go_wp2_with (at_builtin; refine wpList_append_nums_at rfl (.tmp 114) (.tmp 117) 33 5 rfl .u8 256 1 N u8s (.slice none 0 0) [] rfl (Own.nil _ _ _ _ _) yh (headL wd ht) rfl HOH.out HLa.out HLb.out hsh ?_; intro v8_ w8_ h1_ h2_ h3_; have HO8 := Lib.hid h1_; have HB8 := Lib.hid (HBH.out.trans (((Keeps.refl (fun _ => False) _).grown h2_ (fun k hk => by cases hk)).below W6.heap.size HBH.out.size (fun _ h => h.elim))); clear h1_ h2_ h3_)
              go_meet
              case rel => exact ⟨by rw [HL0.out]; exact HO8.out, HB8.out⟩
            · have q1 : ((i : Int) == 0) = false := by simp; omega
              have HL0 := Lib.hid (show LH = [] by rw [HLH.out, if_neg hi0])
              clear hi0
              go_wp2_with fail
              go_meet
              case rel => exact ⟨by rw [HL0.out]; exact Own.nil _ _ _ _ _, Below.refl _ _⟩
          case rest =>
            obtain ⟨ho12, hb7⟩ := hcut
            generalize wc = W7 at *
            have HT7 := Lib.hid (HT6.out.ext hb7)
            have HO12 := Lib.hid ho12
            clear ho12 hb7 HT6
            obtain ⟨a0, n0, c0, t0, a1, n1, c1, t1, hrow, hrv0⟩ := HT7.out.pi.rz.ex
            simp only [Value.agg.injEq] at hrow
            subst hrow
            clear hrv0
            have hB2l := bytesQ_len wd ord ps (i + 1)
            have HB2 := Lib.hid (show bytesQ wd ord ps (i + 1) = bytesQ wd ord ps i ++ (L11 ++ pxL p) by rw [← HIN.out]; rfl)
            have HWR := Lib.hid (zwrite_any _ _ (bytesQ wd ord ps i) (.slice a6 n6 c6) (L11 ++ pxL p) W7 HT7.out.pi.rz HT7.out.own.nums (fun k e => (HT7.out.own.lt k e).2) (by rw [← HB2.out]; omega))
            rw [← HB2.out] at HWR
            have hz7 := HT7.out.pi.zrow
            have HZ7 := Lib.hid hz7
            have hN7 := HT7.out.size
            clear hz7
            go_wp2_with (with_reducible refine load_w8 rfl (.tmp 9) rfl g9 rfl _ HZ7.out rfl ?_)
            refine HWR.out.mono ?_
            rintro e W8 ⟨v', x8, rfl, ⟨hz8, hown8⟩, hox8, hb8, hxd8⟩
            obtain ⟨b1, m1, d1, s1, b2, m2, d2, s2, rfl, hrv⟩ := hz8.ex
            obtain ⟨ax, nx, cx, rfl⟩ := hox8.slice_
            have hxa := ext_alloc W8 (.cells #[.slice none 0 0, .int .i64 0, .slice none 0 0, .int .i64 0, .bool false, .bool false] 64)
            have HR16 := Lib.hid (heap_alloc_new W8 (.cells #[.slice none 0 0, .int .i64 0, .slice none 0 0, .int .i64 0, .bool false, .bool false] 64))
            have HZ8 := Lib.hid hz8
            have HW8 := Lib.hid hown8
            have HX8 := Lib.hid hox8
            have HXD := Lib.hid hxd8
            have HB8 := Lib.hid hb8
            clear hz8 hrv hown8 hox8 hb8 hxd8 HWR
            go_upto_region 16 with (with_reducible refine store_w8 rfl (.tmp 16) (.tmp 123) rfl rfl W8.heap.size _ _ _ _ _ _ _ _ _ _ rfl rfl _ HR16.out rfl ?_)
            have hb9 : Below W8.heap.size W8 ((W8.alloc (.cells #[.slice none 0 0, .int .i64 0, .slice none 0 0, .int .i64 0, .bool false, .bool false] 64)).setRow W8.heap.size #[.slice b1 m1 d1, .int .i64 s1, .slice b2 m2 d2, .int .i64 s2, .bool false, .bool true]) := below_setRow_new hxa (Nat.le_refl _) _
            have hr9 := setRow_heap _ _ _ #[.slice b1 m1 d1, .int .i64 s1, .slice b2 m2 d2, .int .i64 s2, .bool false, .bool true] _ _ HR16.out
            obtain ⟨g16, hg16⟩ : ∃ g, g = W8.heap.size := ⟨_, rfl⟩
            simp only [← hg16] at hr9 hb9 ⊢
            obtain ⟨W9, hW9⟩ : ∃ ww, ww = (W8.alloc (.cells #[.slice none 0 0, .int .i64 0, .slice none 0 0, .int .i64 0, .bool false, .bool false] 64)).setRow g16 #[.slice b1 m1 d1, .int .i64 s1, .slice b2 m2 d2, .int .i64 s2, .bool false, .bool true] := ⟨_, rfl⟩
            simp only [← hW9] at hr9 hb9 ⊢
            rw [hg16] at hb9
            have HR9 := Lib.hid hr9
            have HI9 := Lib.hid ((HT7.out.pi.ext HB8.out).ext hb9)
            have HZ9 := Lib.hid (HZ8.out.below hb9)
            have HX9 := Lib.hid (HX8.out.below hb9 (Nat.le_refl _))
            have HO9 := Lib.hid ((HO12.out.below HB8.out (Nat.le_refl _)).below hb9 (Nat.le_refl _))
            have hz9r := HI9.out.zrow
            have HZR9 := Lib.hid hz9r
            have h78 : W7.heap.size ≤ W9.heap.size := Nat.le_trans HB8.out.size hb9.size
            clear hg16 hW9 hr9 hb9 hz9r hxa HR16 HZ8 HZ7
            go_upto_region 17 with (first
              | (with_reducible refine load_w8 rfl (.tmp 16) rfl g16 rfl _ HR9.out rfl ?_)
              | (with_reducible refine store_w8 rfl (.tmp 9) (.tmp 126) rfl rfl g9 _ _ _ _ _ _ _ _ _ _ rfl rfl _ HZR9.out rfl ?_))
            have hkA : Keeps (fun k => k = g9) W9 (W9.setRow g9 #[.slice b1 m1 d1, .int .i64 s1, .slice b2 m2 d2, .int .i64 s2, .bool false, .bool true]) := (Keeps.refl (fun k => k = g9) W9).setRow g9 _ (.inl rfl)
            have HZRA := Lib.hid (setRow_heap W9 g9 _ #[.slice b1 m1 d1, .int .i64 s1, .slice b2 m2 d2, .int .i64 s2, .bool false, .bool true] _ _ HZR9.out)
            generalize W9.setRow g9 #[.slice b1 m1 d1, .int .i64 s1, .slice b2 m2 d2, .int .i64 s2, .bool false, .bool true] = WA at *
            have hIA := HI9.out.set HZ9.out hkA HZRA.out
            have hX := HX9.out.frame hkA (fun k e h => by have := (HX8.out.lt k e).1; omega)
            have hO := HO9.out.frame hkA (fun k e h => by have := (HO9.out.lt k e).1; omega)
            have hsA : N ≤ WA.heap.size := Nat.le_trans hN7 (Nat.le_trans h78 hkA.size)
            have HXA := Lib.hid (hX.mono hN7)
            have HXL := Lib.hid (fun k (e : (Value.slice ax nx cx).ownBlock = some k) => show W7.heap.size ≤ k from (HX8.out.lt k e).1)
            have HUL := Lib.hid (fun k (e : u12.ownBlock = some k) => show k < W7.heap.size from (HO12.out.lt k e).2)
            have HFX := Lib.hid (show Fr N #[.slice b1 m1 d1, .int .i64 s1, .slice b2 m2 d2, .int .i64 s2, .bool false, .bool true] (.slice ax nx cx) from fun k e => ⟨Nat.le_trans hN7 (HXL.out k e), HXD.out k e⟩)
            have HTA := Lib.hid (show PT w N WA (.slice (some ⟨bo, oo, none⟩) no co) ord (.slice as_ i cs_) ys (piecesQ wd ht ord ps i) g9 #[.slice b1 m1 d1, .int .i64 s1, .slice b2 m2 d2, .int .i64 s2, .bool false, .bool true] true (bytesQ wd ord ps (i + 1)) u12 LH from
              ⟨hIA, hO, fun k e => ⟨(HO12.out.lt k e).1, fun h6 => by
                rcases HW8.out k h6 with h | h
                · have := HR6.out k h; have := (HO12.out.lt k e).1; omega
                · have := HUL.out k e; omega⟩, HNW.out, HRL.out, hsA⟩)
            obtain ⟨T, hT⟩ : ∃ T, T = headZ (decide (0 < i)) ++ outN (bitsW (bytesQ wd ord ps (i + 1))) ((bitsW (bytesQ wd ord ps i)).length / 8) := ⟨_, rfl⟩
            have hTl : T.length ≤ 100000 := by
              have h1 := bits_out_len (bytesQ wd ord ps i) (L11 ++ pxL p)
              rw [← HB2.out] at h1
              have h2 := headZ_len (decide (0 < i))
              rw [hT, List.length_append]; omega
            rw [← hT] at HXA
            have HTT := Lib.hid hT
            have hnx := (nums_len HXA.out.nums).1
            have HNX := Lib.hid hnx
            obtain ⟨n1', hn1'⟩ : ∃ z, z = no - 1 := ⟨_, rfl⟩
            have e17 : IntKind.i64.wrap ((no : Int) - 1) = (n1' : Int) := by rw [IntKind.wrap_i64]; omega
            have e9 : IntKind.i64.wrap ((i : Int) + 1) = ((i + 1 : Nat) : Int) := by rw [IntKind.wrap_i64]; omega
            clear hkA hIA hX hO hT hnx HI9 HZ9 HX9 HO9 HZR9 HR9 HT7 HX8 HO12 HW8 HXD HB8 HR6
            by_cases hlast : i + 1 = no
            · have q17 : ((i : Int) == (n1' : Int)) = true := by simp; omega
              obtain ⟨M, hM⟩ : ∃ M, M = (headZ true ++ outN (endL (bytesQ wd ord ps (i + 1))) ((bitsW (bytesQ wd ord ps (i + 1))).length / 8)) ++ fourL (adler 1 (bytesQ wd ord ps (i + 1))) := ⟨_, rfl⟩
              have hMl : 0 < M.length ∧ M.length ≤ 300010 := by
                rw [hM, List.length_append, List.length_append, fourL_len]
                have h0 := end_len (bytesQ wd ord ps (i + 1)) ((bitsW (bytesQ wd ord ps (i + 1))).length / 8)
                have h1 := fin_len (bytesQ wd ord ps (i + 1))
                have h2 := al8_ge (finL (bytesQ wd ord ps (i + 1))).length
                have h3 := nb_le (bytesQ wd ord ps (i + 1)).length
                have h5 : (endL (bytesQ wd ord ps (i + 1))).length ≤ 300000 := by
                  unfold endL alig
                  rw [List.length_append, List.length_replicate]
                  omega
                have : (headZ true).length = 0 := rfl
                omega
              have HTOLD := Lib.hid (show toldQ wd ht ord ps i = (LH ++ chunkL (bts { data := #[73, 68, 65, 84] }) (T ++ M)) ++ chunkL (bts { data := #[73, 69, 78, 68] }) [] by
                rw [told_last wd ht ord ps i (by rw [← HN.out]; exact hlast), ← HLH.out, ← HTT.out, ← hM]; rfl)
              have HZE := Lib.hid (zend_any _ true (bytesQ wd ord ps (i + 1)) WA HTA.out.pi.rz (by omega))
              rw [← hM] at HZE
              clear hM hlast
              go_wp2_with (with_reducible refine load_w8 rfl (.tmp 9) rfl g9 rfl _ HZRA.out rfl ?_)
              refine HZE.out.mono ?_
              rintro e WB ⟨v', xm, rfl, ⟨e1, e2, e3, e4, e5, e6, e7, e8, rfl⟩, hom, hbB⟩
              obtain ⟨am, nm, cm, rfl⟩ := hom.slice_
              have hxa := ext_alloc WB (.cells #[.slice none 0 0, .int .i64 0, .slice none 0 0, .int .i64 0, .bool false, .bool false] 64)
              have HR19 := Lib.hid (heap_alloc_new WB (.cells #[.slice none 0 0, .int .i64 0, .slice none 0 0, .int .i64 0, .bool false, .bool false] 64))
              have HTB := Lib.hid (HTA.out.ext hbB)
              have HXB := Lib.hid (HXA.out.below hbB (Nat.le_refl _))
              have HOM := Lib.hid hom
              clear hom hbB HZE HTA HXA
              go_upto_region 19 with (with_reducible refine store_w8 rfl (.tmp 19) (.tmp 135) rfl rfl WB.heap.size _ _ _ _ _ _ _ _ _ _ rfl rfl _ HR19.out rfl ?_)
              have hbC : Below WB.heap.size WB ((WB.alloc (.cells #[.slice none 0 0, .int .i64 0, .slice none 0 0, .int .i64 0, .bool false, .bool false] 64)).setRow WB.heap.size #[.slice e1 e2 e3, .int .i64 e4, .slice e5 e6 e7, .int .i64 e8, .bool true, .bool true]) := below_setRow_new hxa (Nat.le_refl _) _
              obtain ⟨WC, hWC⟩ : ∃ ww, ww = (WB.alloc (.cells #[.slice none 0 0, .int .i64 0, .slice none 0 0, .int .i64 0, .bool false, .bool false] 64)).setRow WB.heap.size #[.slice e1 e2 e3, .int .i64 e4, .slice e5 e6 e7, .int .i64 e8, .bool true, .bool true] := ⟨_, rfl⟩
              simp only [← hWC] at hbC ⊢
              have HTC := Lib.hid (HTB.out.ext hbC)
              have HXC := Lib.hid (HXB.out.below hbC (Nat.le_refl _))
              have HOC := Lib.hid (HOM.out.nums.below hbC (Nat.le_refl _))
              have hsC := HTC.out.size
              have HLa := Lib.hid (show (T.length + M.length) * 1 ≤ 140737488355328 by omega)
              have HLb := Lib.hid (show T.length + M.length ≤ 140737488355328 by omega)
              have HDJ := Lib.hid (fun k (e : u12.ownBlock = some k) (h : (Value.slice ax nx cx).ownBlock = some k) => show False from by have := HUL.out k e; have := HXL.out k h; omega)
              clear hWC hbC hxa HR19 HTB HXB HOM
              go_upto_region 20 with (at_builtin; refine wpList_append_nums_at rfl (.tmp 138) (.tmp 139) 33 5 rfl .u8 256 1 N u8s (.slice ax nx cx) T rfl HXC.out (.slice am nm cm) M rfl HOC.out HLa.out HLb.out hsC ?_; intro v17 WD h1_ h2_ h3_; have HTD := Lib.hid (HTC.out.other HXC.out HFX.out HDJ.out h2_); have HOD := Lib.hid h1_; clear h1_ h2_ h3_)
              obtain ⟨at7, nt7, ct7, hv7⟩ := HOD.out.slice_
              subst hv7
              have hnt := (nums_len HOD.out.nums).1
              rw [List.length_append] at hnt
              have hnt0 : 0 < nt7 := by omega
              have hnt1 : ¬ nt7 = 0 := by omega
              have d3 : decide ((0 : Int) < (nt7 : Int)) = true := decide_eq_true (by omega)
              have html : (T ++ M).length ≤ 900000 := by rw [List.length_append]; omega
              clear hnt HTC HXC HOC HLa HLb
              go_wp2_with fail
              refine (rchunk_any WD { data := #[73, 68, 65, 84] } (.slice at7 nt7 ct7) (T ++ M) rfl HOD.out.nums html).mono ?_
              rintro e Wc ⟨yc, rfl, hoc, hbc⟩
              have HTc := Lib.hid (HTD.out.ext hbc)
              have HOc := Lib.hid hoc.nums
              have hszc := HTc.out.size
              have hln := chunk_len (bts { data := #[73, 68, 65, 84] }) (T ++ M)
              rw [show (bts { data := #[73, 68, 65, 84] }).length = 4 from rfl] at hln
              have hl9 : (T ++ M).length ≤ 900000 := html
              have HLa := Lib.hid (show (LH.length + (chunkL (bts { data := #[73, 68, 65, 84] }) (T ++ M)).length) * 1 ≤ 140737488355328 by omega)
              have HLb := Lib.hid (show LH.length + (chunkL (bts { data := #[73, 68, 65, 84] }) (T ++ M)).length ≤ 140737488355328 by omega)
              clear hoc hbc hln hl9
              go_upto_region 22 with (at_builtin; refine wpList_append_nums_at rfl (.tmp 144) (.tmp 146) 33 5 rfl .u8 256 1 N u8s _ LH rfl HTc.out.own yc (chunkL (bts { data := #[73, 68, 65, 84] }) (T ++ M)) rfl HOc.out HLa.out HLb.out hszc ?_; intro v9_ w9_ h1_ h2_ h3_; have HTE := Lib.hid (HTc.out.grow h1_ h2_ h3_); clear h1_ h2_ h3_)
              have hlh2 : (LH ++ chunkL (bts { data := #[73, 68, 65, 84] }) (T ++ M)).length ≤ 1000000 := by
                rw [List.length_append, chunk_len, show (bts { data := #[73, 68, 65, 84] }).length = 4 from rfl]; omega
              clear HTc HOc HLa HLb hszc HTD HOD
              go_wp2_with fail
              refine (rchunk_any _ { data := #[73, 69, 78, 68] } (.slice none 0 0) ([] : List Nat) rfl (Own.nil .u8 256 5 N _).nums (by simp)).mono ?_
              rintro e Wc ⟨yc, rfl, hoc, hbc⟩
              have HTc := Lib.hid (HTE.out.ext hbc)
              have HOc := Lib.hid hoc.nums
              have hszc := HTc.out.size
              have hln := chunk_len (bts { data := #[73, 69, 78, 68] }) ([] : List Nat)
              rw [show (bts { data := #[73, 69, 78, 68] }).length = 4 from rfl] at hln
              have hl9 : ([] : List Nat).length ≤ 900000 := (by simp)
              have HLa := Lib.hid (show ((LH ++ chunkL (bts { data := #[73, 68, 65, 84] }) (T ++ M)).length + (chunkL (bts { data := #[73, 69, 78, 68] }) ([] : List Nat)).length) * 1 ≤ 140737488355328 by omega)
              have HLb := Lib.hid (show (LH ++ chunkL (bts { data := #[73, 68, 65, 84] }) (T ++ M)).length + (chunkL (bts { data := #[73, 69, 78, 68] }) ([] : List Nat)).length ≤ 140737488355328 by omega)
              clear hoc hbc hln hl9
              go_upto_region 24 with (at_builtin; refine wpList_append_nums_at rfl (.tmp 153) (.tmp 154) 33 5 rfl .u8 256 1 N u8s _ (LH ++ chunkL (bts { data := #[73, 68, 65, 84] }) (T ++ M)) rfl HTc.out.own yc (chunkL (bts { data := #[73, 69, 78, 68] }) ([] : List Nat)) rfl HOc.out HLa.out HLb.out hszc ?_; intro v9_ w9b_ h1_ h2_ h3_; have HTG := Lib.hid (HTc.out.grow h1_ h2_ h3_); clear h1_ h2_ h3_)
              clear HTc HOc HLa HLb hszc HTE
              obtain ⟨at_, nt_, ct_, hvt⟩ := HTG.out.own.slice_
              subst hvt
              have hxz := ext_alloc w9b_ (.cells #[.slice at_ nt_ ct_] 33)
              have HRO := Lib.hid (recs_one (c := 1) (enc := encS) (fun _ => rfl) 33 w9b_ (at_, nt_, ct_) #[.slice at_ nt_ ct_] rfl)
              have HIZ := Lib.hid (HTG.out.pi.ext hxz)
              have HRI := Lib.hid (show RowIs (w9b_.alloc (.cells #[.slice at_ nt_ ct_] 33)) (at_, nt_, ct_) ((LH ++ chunkL (bts { data := #[73, 68, 65, 84] }) (T ++ M)) ++ chunkL (bts { data := #[73, 69, 78, 68] }) []) from ⟨HTG.out.own.nums.below hxz (Nat.le_refl _), fun k e => (own_tyB HTG.out.own k e).below hxz (Nat.le_refl _)⟩)
              have HLO := Lib.hid (fun k (e : (slV (at_, nt_, ct_)).ownBlock = some k) => show w.heap.size ≤ k from Nat.le_trans HNW.out (HTG.out.own.lt k e).1)
              have hysl : ys.length = i := by rw [HTG.out.pi.rows.1]; unfold piecesQ; simp
              have HLy := Lib.hid (show (ys.length + ([(at_, nt_, ct_)] : List Sl).length) * 24 ≤ 140737488355328 by rw [hysl]; simp only [List.length_cons, List.length_nil]; omega)
              have HLz := Lib.hid (show ys.length + ([(at_, nt_, ct_)] : List Sl).length ≤ 140737488355328 by rw [hysl]; simp only [List.length_cons, List.length_nil]; omega)
              have hbz := HIZ.out.bel.size
              clear hxz hysl
              go_wp2_with (at_builtin; refine wpList_append_recs rfl (.tmp 156) (.tmp 158) 43 33 rfl (.slice none 0 0) 24 w.heap.size slices _ ys rfl HIZ.out.out _ [(at_, nt_, ct_)] rfl HRO.out HLy.out HLz.out hbz ?_; intro vz wz h1_ h2_ h3_; have HF := Lib.hid (HIZ.out.app HRI.out HLO.out ((Keeps.refl _ _).grown h2_ (fun k hk => .inl hk)) h1_); clear h1_ h2_ h3_)
              go_roundg (gk - 1)
              case measure => omega
              case rel => exact ⟨i + 1, ys ++ [(at_, nt_, ct_)], #[.slice b1 m1 d1, .int .i64 s1, .slice b2 m2 d2, .int .i64 s2, .bool false, .bool true], by omega, rfl, Lib.hid (by rw [piecesQ_next, HTOLD.out, show decide (0 < i + 1) = true from decide_eq_true (Nat.succ_pos i)]; exact HF.out)⟩
            · have q17 : ((i : Int) == (n1' : Int)) = false := by simp; omega
              have hnl : i + 1 < wd * ht := by rw [← HN.out]; omega
              by_cases hx0 : nx = 0
              · have hx00 : ¬ 0 < nx := by omega
                have d3 : decide ((0 : Int) < (nx : Int)) = false := decide_eq_false (by omega)
                have HTOLD := Lib.hid (show toldQ wd ht ord ps i = LH by
                  rw [told_not wd ht ord ps i hnl, ← HLH.out, ← HTT.out, if_pos (List.eq_nil_of_length_eq_zero (by rw [← HNX.out]; exact hx0)), List.append_nil])
                clear hx0 HXA
                obtain ⟨at_, nt_, ct_, hvt⟩ := HTA.out.own.slice_
                subst hvt
                have hxz := ext_alloc WA (.cells #[.slice at_ nt_ ct_] 33)
                have HRO := Lib.hid (recs_one (c := 1) (enc := encS) (fun _ => rfl) 33 WA (at_, nt_, ct_) #[.slice at_ nt_ ct_] rfl)
                have HIZ := Lib.hid (HTA.out.pi.ext hxz)
                have HRI := Lib.hid (show RowIs (WA.alloc (.cells #[.slice at_ nt_ ct_] 33)) (at_, nt_, ct_) (LH) from ⟨HTA.out.own.nums.below hxz (Nat.le_refl _), fun k e => (own_tyB HTA.out.own k e).below hxz (Nat.le_refl _)⟩)
                have HLO := Lib.hid (fun k (e : (slV (at_, nt_, ct_)).ownBlock = some k) => show w.heap.size ≤ k from Nat.le_trans HNW.out (HTA.out.own.lt k e).1)
                have hysl : ys.length = i := by rw [HTA.out.pi.rows.1]; unfold piecesQ; simp
                have HLy := Lib.hid (show (ys.length + ([(at_, nt_, ct_)] : List Sl).length) * 24 ≤ 140737488355328 by rw [hysl]; simp only [List.length_cons, List.length_nil]; omega)
                have HLz := Lib.hid (show ys.length + ([(at_, nt_, ct_)] : List Sl).length ≤ 140737488355328 by rw [hysl]; simp only [List.length_cons, List.length_nil]; omega)
                have hbz := HIZ.out.bel.size
                clear hxz hysl
                go_wp2_with (at_builtin; refine wpList_append_recs rfl (.tmp 156) (.tmp 158) 43 33 rfl (.slice none 0 0) 24 w.heap.size slices _ ys rfl HIZ.out.out _ [(at_, nt_, ct_)] rfl HRO.out HLy.out HLz.out hbz ?_; intro vz wz h1_ h2_ h3_; have HF := Lib.hid (HIZ.out.app HRI.out HLO.out ((Keeps.refl _ _).grown h2_ (fun k hk => .inl hk)) h1_); clear h1_ h2_ h3_)
                go_roundg (gk - 1)
                case measure => omega
                case rel => exact ⟨i + 1, ys ++ [(at_, nt_, ct_)], #[.slice b1 m1 d1, .int .i64 s1, .slice b2 m2 d2, .int .i64 s2, .bool false, .bool true], by omega, rfl, Lib.hid (by rw [piecesQ_next, HTOLD.out, show decide (0 < i + 1) = true from decide_eq_true (Nat.succ_pos i)]; exact HF.out)⟩
              · have hx00 : 0 < nx := by omega
                have d3 : decide ((0 : Int) < (nx : Int)) = true := decide_eq_true (by omega)
                have HTOLD := Lib.hid (show toldQ wd ht ord ps i = LH ++ chunkL (bts { data := #[73, 68, 65, 84] }) T by
                  rw [told_not wd ht ord ps i hnl, ← HLH.out, ← HTT.out, if_neg (fun h => hx0 (by rw [HNX.out, h]; rfl))]; rfl)
                go_wp2_with fail
                refine (rchunk_any WA { data := #[73, 68, 65, 84] } (.slice ax nx cx) T rfl HXA.out.nums (by omega)).mono ?_
                rintro e Wc ⟨yc, rfl, hoc, hbc⟩
                have HTc := Lib.hid (HTA.out.ext hbc)
                have HOc := Lib.hid hoc.nums
                have hszc := HTc.out.size
                have hln := chunk_len (bts { data := #[73, 68, 65, 84] }) T
                rw [show (bts { data := #[73, 68, 65, 84] }).length = 4 from rfl] at hln
                have hl9 : T.length ≤ 900000 := (by omega)
                have HLa := Lib.hid (show (LH.length + (chunkL (bts { data := #[73, 68, 65, 84] }) T).length) * 1 ≤ 140737488355328 by omega)
                have HLb := Lib.hid (show LH.length + (chunkL (bts { data := #[73, 68, 65, 84] }) T).length ≤ 140737488355328 by omega)
                clear hoc hbc hln hl9
                go_upto_region 22 with (at_builtin; refine wpList_append_nums_at rfl (.tmp 144) (.tmp 146) 33 5 rfl .u8 256 1 N u8s _ LH rfl HTc.out.own yc (chunkL (bts { data := #[73, 68, 65, 84] }) T) rfl HOc.out HLa.out HLb.out hszc ?_; intro v9_ w9_ h1_ h2_ h3_; have HTE := Lib.hid (HTc.out.grow h1_ h2_ h3_); clear h1_ h2_ h3_)
                clear HTc HOc HLa HLb hszc HTA
                obtain ⟨at_, nt_, ct_, hvt⟩ := HTE.out.own.slice_
                subst hvt
                have hxz := ext_alloc w9_ (.cells #[.slice at_ nt_ ct_] 33)
                have HRO := Lib.hid (recs_one (c := 1) (enc := encS) (fun _ => rfl) 33 w9_ (at_, nt_, ct_) #[.slice at_ nt_ ct_] rfl)
                have HIZ := Lib.hid (HTE.out.pi.ext hxz)
                have HRI := Lib.hid (show RowIs (w9_.alloc (.cells #[.slice at_ nt_ ct_] 33)) (at_, nt_, ct_) (LH ++ chunkL (bts { data := #[73, 68, 65, 84] }) T) from ⟨HTE.out.own.nums.below hxz (Nat.le_refl _), fun k e => (own_tyB HTE.out.own k e).below hxz (Nat.le_refl _)⟩)
                have HLO := Lib.hid (fun k (e : (slV (at_, nt_, ct_)).ownBlock = some k) => show w.heap.size ≤ k from Nat.le_trans HNW.out (HTE.out.own.lt k e).1)
                have hysl : ys.length = i := by rw [HTE.out.pi.rows.1]; unfold piecesQ; simp
                have HLy := Lib.hid (show (ys.length + ([(at_, nt_, ct_)] : List Sl).length) * 24 ≤ 140737488355328 by rw [hysl]; simp only [List.length_cons, List.length_nil]; omega)
                have HLz := Lib.hid (show ys.length + ([(at_, nt_, ct_)] : List Sl).length ≤ 140737488355328 by rw [hysl]; simp only [List.length_cons, List.length_nil]; omega)
                have hbz := HIZ.out.bel.size
                clear hxz hysl
                go_wp2_with (at_builtin; refine wpList_append_recs rfl (.tmp 156) (.tmp 158) 43 33 rfl (.slice none 0 0) 24 w.heap.size slices _ ys rfl HIZ.out.out _ [(at_, nt_, ct_)] rfl HRO.out HLy.out HLz.out hbz ?_; intro vz wz h1_ h2_ h3_; have HF := Lib.hid (HIZ.out.app HRI.out HLO.out ((Keeps.refl _ _).grown h2_ (fun k hk => .inl hk)) h1_); clear h1_ h2_ h3_)
                go_roundg (gk - 1)
                case measure => omega
                case rel => exact ⟨i + 1, ys ++ [(at_, nt_, ct_)], #[.slice b1 m1 d1, .int .i64 s1, .slice b2 m2 d2, .int .i64 s2, .bool false, .bool true], by omega, rfl, Lib.hid (by rw [piecesQ_next, HTOLD.out, show decide (0 < i + 1) = true from decide_eq_true (Nat.succ_pos i)]; exact HF.out)⟩
    · have d1 : decide (i < np) = false := decide_eq_false hin
      have d1' : decide ((i : Int) < (np : Int)) = false := decide_eq_false (by omega)
      obtain rfl : i = np := by omega
      go_wp2_with fail
      go_ret
      exact ⟨_, ys, rfl, HI.out.out.recs (c := 1) (enc := encS) (fun _ => rfl), by rw [← HORD.out]; exact HI.out.rows, HI.out.bel, HI.out.out.lt, HI.out.rlo⟩
end Go.Proofs.Ytighlefajekloaa.PngL

/- Package lightwelllow: SameInts. -/
set_option linter.unusedVariables false
set_option linter.unusedSimpArgs false
namespace Go.Proofs.Ytighlefajekloaa.SameI
open Go.RowKit Go.Sort Base Low NumSl Qb Qt
theorem same_next (l m : List Nat) (i : Nat) (hi : i < l.length) (hm : l.length = m.length) : decide (l.drop i = m.drop i) = (decide (l[i]'hi = m[i]'(by omega)) && decide (l.drop (i + 1) = m.drop (i + 1))) := by
  rw [List.drop_eq_getElem_cons hi, List.drop_eq_getElem_cons (show i < m.length by omega)]
  simp only [List.cons.injEq, Bool.decide_and]
set_option maxRecDepth 100000 in
set_option maxHeartbeats 2000000 in
theorem sameInts_any (N : Nat) (u v : Value) (l m : List Nat) (w : World) (hu : Nums .i64 N w u l) (hv : Nums .i64 N w v m) (hN : N ≤ 1000000000) :
    Calls Try.prog 14 #[u, v] w fun e w' => e = .returned (.bool (decide (l = m))) ∧ Below w.heap.size w w' := by
  obtain ⟨au, cu, rfl, -, -⟩ := hu.open_
  obtain ⟨av, cv, rfl, -, -⟩ := hv.open_
  have hmx : l.length ≤ 9223372036854775807 := by have := (nums_len hu).2; unfold maxLen at this; omega
  obtain ⟨nl, hnl⟩ : ∃ n, n = l.length := ⟨_, rfl⟩
  obtain ⟨nm, hnm⟩ : ∃ n, n = m.length := ⟨_, rfl⟩
  have HU := Lib.hid hu
  have HV := Lib.hid hv
  rw [← hnl] at HU hmx ⊢
  rw [← hnm] at HV ⊢
  have HL := Lib.hid hnl
  have HM := Lib.hid hnm
  clear hu hv hnl hnm
  go_enter Try.func14, Try.ntmps14
  by_cases hlm : nl = nm
  · subst hlm
    have d0 : (!((nl : Int) == (nl : Int))) = false := by simp
    go_wp2_with fail
    go_loopw [5] (fun v5 wr => ∃ i : Nat, i ≤ nl ∧ v5 = .int .i64 (i : Int) ∧ decide (l = m) = decide (l.drop i = m.drop i) ∧ Below w.heap.size w wr) (fun v5 _ => nl - (intOf v5).toNat)
    case atStart => exact ⟨0, Nat.zero_le _, rfl, rfl, Below.refl _ _⟩
    case round =>
      obtain ⟨i, hi, rfl, hdr, hb⟩ := hrel
      have HD := Lib.hid hdr
      have HB := Lib.hid hb
      clear hdr
      by_cases hin : i < nl
      · have d1 : decide (i < nl) = true := decide_eq_true hin
        have d1' : decide ((i : Int) < (nl : Int)) = true := decide_eq_true (by omega)
        have e9 : IntKind.i64.wrap ((i : Int) + 1) = ((i + 1 : Nat) : Int) := by rw [IntKind.wrap_i64]; omega
        have HUr := Lib.hid (HU.out.below hb (Nat.le_refl _))
        have HVr := Lib.hid (HV.out.below hb (Nat.le_refl _))
        have hil : i < l.length := by rw [← HL.out]; exact hin
        have him : i < m.length := by rw [← HM.out]; exact hin
        obtain ⟨b1, o1, k1, e1, -, hc1⟩ := HUr.out.cells (by intro e; rw [e] at hil; simp at hil)
        obtain ⟨b2, o2, k2, e2, -, hc2⟩ := HVr.out.cells (by intro e; rw [e] at him; simp at him)
        simp only [Value.slice.injEq] at e1 e2
        obtain ⟨rfl, -, -⟩ := e1
        obtain ⟨rfl, -, -⟩ := e2
        have hc1i := hc1 i hil
        have hc2i := hc2 i him
        have hst := same_next l m i hil (by rw [← HL.out, ← HM.out])
        obtain ⟨x, hx⟩ : ∃ x, x = l[i]'hil := ⟨_, rfl⟩
        obtain ⟨y, hy⟩ : ∃ y, y = m[i]'him := ⟨_, rfl⟩
        rw [← hx] at hc1i hst
        rw [← hy] at hc2i hst
        have z1 : ∀ d os, (grow (redrawn wr d) os).cell? ⟨b1, o1 + i, none⟩ = some (.int .i64 (x : Int)) := fun d os => cell_regrown hc1i d os
        have z2 : ∀ d os, (grow (redrawn wr d) os).cell? ⟨b2, o2 + i, none⟩ = some (.int .i64 (y : Int)) := fun d os => cell_regrown hc2i d os
        have HST := Lib.hid hst
        clear hc1 hc2 hc1i hc2i hst hx hy hil him hb d0
        go_upto_region 6 with (fail)
        refine wp_region_quiet_below (by kernel_rfl) (by kernel_rfl) ?_
        repeat (go_big_quiet_step (fail))
        refine wpQuiet_nil ?_
        first | (rintro _ ⟨⟨dq, osq⟩, rfl⟩) | (rintro ⟨dq, osq⟩)
        have hb2 := below_regrown wr dq osq
        generalize grow (redrawn wr dq) osq = W2 at *
        have HB2 := Lib.hid (HB.out.trans (hb2.mono HB.out.size))
        clear hb2 z1 z2
        go_simp
        by_cases hxy : x = y
        · have d2 : (!((x : Int) == (y : Int))) = false := by simp; omega
          have hd2 : decide (l = m) = decide (l.drop (i + 1) = m.drop (i + 1)) := by rw [HD.out, HST.out, decide_eq_true hxy, Bool.true_and]
          have HD2 := Lib.hid hd2
          clear hd2
          go_wp2_with fail
          exact ⟨⟨i + 1, by omega, rfl, HD2.out, HB2.out⟩, by simp only [intOf]; omega⟩
        · have d2 : (!((x : Int) == (y : Int))) = true := by simp; omega
          have hd2 : decide (l = m) = false := by rw [HD.out, HST.out, decide_eq_false hxy, Bool.false_and]
          have HD2 := Lib.hid hd2
          clear hd2
          go_wp2_with fail
          go_ret
          exact ⟨by rw [HD2.out]; rfl, HB2.out⟩
      · have d1 : decide (i < nl) = false := decide_eq_false hin
        have d1' : decide ((i : Int) < (nl : Int)) = false := decide_eq_false (by omega)
        have hd2 : decide (l = m) = true := by
          rw [HD.out, List.drop_of_length_le (by rw [← HL.out]; omega), List.drop_of_length_le (by rw [← HM.out]; omega)]; rfl
        have HD2 := Lib.hid hd2
        clear hd2
        go_wp2_with fail
        go_ret
        exact ⟨by rw [HD2.out]; rfl, HB.out⟩
  · have d0 : (!((nl : Int) == (nm : Int))) = true := by simp; omega
    have hd2 : decide (l = m) = false := decide_eq_false (fun e => hlm (by rw [HL.out, HM.out, e]))
    have HD2 := Lib.hid hd2
    clear hd2
    go_wp2_with fail
    go_ret
    exact ⟨by rw [HD2.out]; rfl, Below.refl _ _⟩
end Go.Proofs.Ytighlefajekloaa.SameI

/- Package lightwelllaw09: awake. Printed by mkpngw.py. -/
set_option linter.unusedVariables false
set_option linter.unusedSimpArgs false
namespace Go.Proofs.Ytighlefajekloaa.PngW
open Go.RowKit Go.Sort Base Low NumSl DefDa DefDb NumAp BitsM Bits5 DefM DefN DefO SumsM Rec PngM PngB PngC PngD PngE PngF PngG PngH PngI PngJ PngK PngO PngL SameI Qb Qt
/-- what the example's one Put tells -/
def awakeL : List Nat := putL 1 1 1 0 false [] [1, 2, 3, 255]
theorem awake_len : 57 < awakeL.length := by
  unfold awakeL putL
  rw [if_pos rfl, if_pos rfl]
  have h : ∀ T : List Nat, 4 ≤ T.length → 57 < ((headL 1 1 ++ if T = [] then [] else chunkL [73, 68, 65, 84] T) ++ chunkL [73, 69, 78, 68] []).length := by
    intro T hT
    rw [if_neg (fun e => by rw [e] at hT; simp at hT), List.length_append, List.length_append, chunk_len, chunk_len]
    have : (headL 1 1).length = 33 := by unfold headL; rw [List.length_append, chunk_len]; rfl
    simp only [this, List.length_cons, List.length_nil]
    omega
  refine h _ ?_
  unfold toldL
  rw [if_pos rfl, List.length_append]
  have h2 : ∀ X : List Nat, 4 ≤ (X ++ fourL (adler 1 ([] ++ inL 0 [1, 2, 3, 255]))).length := fun X => by rw [List.length_append, fourL_len]; omega
  exact Nat.le_trans (h2 _) (Nat.le_add_left _ _)
theorem awake_told : piecesQ 1 1 (orderQ 1 1 7) [(1, 2, 3, 255)] 1 = [awakeL] := rfl
set_option maxRecDepth 100000 in
set_option maxHeartbeats 4000000 in
theorem awake_any (w : World) : Calls Try.prog 10 #[] w fun e w' => e = .returned (.bool true) ∧ Below w.heap.size w w' := by
  go_enter Try.func10, Try.ntmps10
  go_wp2_with fail
  refine (new_png w.heap.size 1 1 (by omega) (by omega) (by omega) (by omega) w (Nat.le_refl _)).mono ?_
  rintro e w1 ⟨g, v, gz, s, rfl, hen, hb1, hfr⟩
  have HEN := Lib.hid hen
  have HB1 := Lib.hid hb1
  have HFR := Lib.hid hfr
  have hs1 := hb1.size
  clear hen hb1 hfr
  go_wp2_with fail
  have hpu := put_any w.heap.size w1 g 1 1 1 v 1 [] 0 gz s false [] HEN.out (by omega) (by omega) (by omega) (by omega) (by omega) hs1 (by simp) 1 2 3 255 (by decide)
  refine hpu.mono ?_
  clear hpu
  rintro e w2 ⟨y, rfl, hy, hk2, -, hlst⟩
  obtain ⟨q1, q2, q4, q5, q6, hrow2⟩ := hlst rfl
  have HB2 := Lib.hid (HB1.out.trans (hk2.below w.heap.size hs1 (fun k h => HFR.out k (by
    rcases h with h | h | h
    · exact .inl h
    · exact .inr (.inr (.inl h))
    · exact .inr (.inr (.inr h))))))
  have HY := Lib.hid hy
  have HR2 := Lib.hid hrow2
  clear hlst hrow2 hk2 hy HEN HFR
  go_wp2_with fail
  refine (put_over w2 g q1 q2 q4 q5 q6 HR2.out 0 0 0 0).mono ?_
  rintro e w3 ⟨rfl, hb3⟩
  have HB3 := Lib.hid (HB2.out.trans (hb3.mono HB2.out.size))
  have HY3 := Lib.hid (HY.out.below hb3 (Nat.le_refl _))
  clear hb3 HB2 HR2 HY
  go_wp2_with fail
  refine (new_no 0 1 (by omega) w3).mono ?_
  rintro e w4 ⟨rfl, rfl⟩
  go_wp2_with fail
  refine (order_any 3 2 (by omega) (by omega) (by omega) (by omega) w3).mono ?_
  rintro e wo1 ⟨vo1, rfl, ho, hb⟩
  have HBo1 := Lib.hid (HB3.out.trans (hb.mono HB3.out.size))
  have HYo1 := Lib.hid (HY3.out.below hb (Nat.le_refl _))
  have hxa := ext_alloc wo1 (.cells #[.int .i64 0, .int .i64 2, .int .i64 1, .int .i64 3, .int .i64 4, .int .i64 5] 3)
  have hsi := sameInts_any 1048576 vo1 (.slice (some ⟨wo1.heap.size, 0, none⟩) 6 6) (orderL 3 2) [0, 2, 1, 3, 4, 5] _ (ho.nums.below hxa (Nat.le_refl _)) (nums_blk .i64 1048576 (heap_alloc_new wo1 (.cells #[.int .i64 0, .int .i64 2, .int .i64 1, .int .i64 3, .int .i64 4, .int .i64 5] 3)) [0, 2, 1, 3, 4, 5] (by simp [maxLen]) (by decide) rfl 6 rfl) (by omega)
  rw [show decide (orderL 3 2 = [0, 2, 1, 3, 4, 5]) = true by decide +kernel] at hsi
  have HSI := Lib.hid hsi
  have HBp1 := Lib.hid (HBo1.out.trans (hxa.mono HBo1.out.size))
  have HYp1 := Lib.hid (HYo1.out.below hxa (Nat.le_refl _))
  clear ho hb hxa hsi HBo1 HYo1 HB3 HY3
  go_wp2_with fail
  refine HSI.out.mono ?_
  rintro e ws1 ⟨rfl, hb⟩
  have HBs1 := Lib.hid (HBp1.out.trans (hb.mono HBp1.out.size))
  have HYs1 := Lib.hid (HYp1.out.below hb (Nat.le_refl _))
  clear hb HBp1 HYp1 HSI
  go_wp2_with fail
  refine (order_any 1 1 (by omega) (by omega) (by omega) (by omega) ws1).mono ?_
  rintro e wo2 ⟨vo2, rfl, ho, hb⟩
  have HBo2 := Lib.hid (HBs1.out.trans (hb.mono HBs1.out.size))
  have HYo2 := Lib.hid (HYs1.out.below hb (Nat.le_refl _))
  have hxa := ext_alloc wo2 (.cells #[.int .i64 0] 3)
  have hsi := sameInts_any 1048576 vo2 (.slice (some ⟨wo2.heap.size, 0, none⟩) 1 1) (orderL 1 1) [0] _ (ho.nums.below hxa (Nat.le_refl _)) (nums_blk .i64 1048576 (heap_alloc_new wo2 (.cells #[.int .i64 0] 3)) [0] (by simp [maxLen]) (by decide) rfl 1 rfl) (by omega)
  rw [show decide (orderL 1 1 = [0]) = true by decide +kernel] at hsi
  have HSI := Lib.hid hsi
  have HBp2 := Lib.hid (HBo2.out.trans (hxa.mono HBo2.out.size))
  have HYp2 := Lib.hid (HYo2.out.below hxa (Nat.le_refl _))
  clear ho hb hxa hsi HBo2 HYo2 HBs1 HYs1
  go_wp2_with fail
  refine HSI.out.mono ?_
  rintro e ws2 ⟨rfl, hb⟩
  have HBs2 := Lib.hid (HBp2.out.trans (hb.mono HBp2.out.size))
  have HYs2 := Lib.hid (HYp2.out.below hb (Nat.le_refl _))
  clear hb HBp2 HYp2 HSI
  go_wp2_with fail
  refine (order_any 9 1 (by omega) (by omega) (by omega) (by omega) ws2).mono ?_
  rintro e wo3 ⟨vo3, rfl, ho, hb⟩
  have HBo3 := Lib.hid (HBs2.out.trans (hb.mono HBs2.out.size))
  have HYo3 := Lib.hid (HYs2.out.below hb (Nat.le_refl _))
  have hxa := ext_alloc wo3 (.cells #[.int .i64 0, .int .i64 8, .int .i64 4, .int .i64 2, .int .i64 6, .int .i64 1, .int .i64 3, .int .i64 5, .int .i64 7] 3)
  have hsi := sameInts_any 1048576 vo3 (.slice (some ⟨wo3.heap.size, 0, none⟩) 9 9) (orderL 9 1) [0, 8, 4, 2, 6, 1, 3, 5, 7] _ (ho.nums.below hxa (Nat.le_refl _)) (nums_blk .i64 1048576 (heap_alloc_new wo3 (.cells #[.int .i64 0, .int .i64 8, .int .i64 4, .int .i64 2, .int .i64 6, .int .i64 1, .int .i64 3, .int .i64 5, .int .i64 7] 3)) [0, 8, 4, 2, 6, 1, 3, 5, 7] (by simp [maxLen]) (by decide) rfl 9 rfl) (by omega)
  rw [show decide (orderL 9 1 = [0, 8, 4, 2, 6, 1, 3, 5, 7]) = true by decide +kernel] at hsi
  have HSI := Lib.hid hsi
  have HBp3 := Lib.hid (HBo3.out.trans (hxa.mono HBo3.out.size))
  have HYp3 := Lib.hid (HYo3.out.below hxa (Nat.le_refl _))
  clear ho hb hxa hsi HBo3 HYo3 HBs2 HYs2
  go_wp2_with fail
  refine HSI.out.mono ?_
  rintro e ws3 ⟨rfl, hb⟩
  have HBs3 := Lib.hid (HBp3.out.trans (hb.mono HBp3.out.size))
  have HYs3 := Lib.hid (HYp3.out.below hb (Nat.le_refl _))
  clear hb HBp3 HYp3 HSI
  obtain ⟨ay, ny, cy, rfl⟩ := HYs3.out.slice_
  have hny := (nums_len HYs3.out.nums).1
  have hny0 : 57 < ny := by rw [hny]; exact awake_len
  have d57 : decide ((57 : Int) < (ny : Int)) = true := decide_eq_true (by omega)
  have hxa := ext_alloc ws3 (.cells #[.int .u8 1, .int .u8 2, .int .u8 3, .int .u8 255] 28)
  have hre := recs_one (c := 4) (enc := encP) (fun _ => rfl) 28 ws3 (1, 2, 3, 255) #[.int .u8 1, .int .u8 2, .int .u8 3, .int .u8 255] rfl
  have HPI := Lib.hid (pieces_any _ 1 1 (by omega) (by omega) (by omega) (by omega) (by omega) (by decide +kernel) _ [(1, 2, 3, 255)] hre (by simp [Px.ok]) (by simp))
  have HB4 := Lib.hid (HBs3.out.trans (hxa.mono HBs3.out.size))
  have HY4 := Lib.hid (HYs3.out.below hxa (Nat.le_refl _))
  clear hxa hre hny HBs3 HYs3
  go_wp2_with fail
  refine HPI.out.mono ?_
  rintro e w9 ⟨vp, ys, rfl, hrp, hry, hb9, -, -⟩
  have hry1 := hry
  rw [show ([(1, 2, 3, 255)] : List Px).length = 1 from rfl, awake_told] at hry1
  have hyl : ys.length = 1 := hry1.1
  have hat := (hry1.at 0 (by omega)).1
  obtain ⟨av, cv, rfl, -, hcv⟩ := hrp.open_
  obtain ⟨bv, ov, rfl, -, hcc⟩ := hcv 0 (by omega)
  have hc0 := hcc 0 (by omega) 0 (slV (ys[0]'(by omega))) rfl
  rw [hyl]
  have y0 : w9.cell? ⟨bv, ov, none⟩ = some (slV (ys[0]'(by omega))) := hc0
  have HB5 := Lib.hid (HB4.out.trans (hb9.mono HB4.out.size))
  have HY5 := Lib.hid (HY4.out.below hb9 (Nat.le_refl _))
  obtain ⟨u0, hu0⟩ : ∃ u, u = slV (ys[0]'(by omega)) := ⟨_, rfl⟩
  rw [← hu0] at y0
  have HAT := Lib.hid (show Nums .u8 256 w9 u0 awakeL from by rw [hu0]; exact hat)
  have hsb := sameBytes_any (.slice ay ny cy) u0 awakeL awakeL w9 HY5.out.nums HAT.out
  rw [decide_eq_true rfl] at hsb
  have HSB := Lib.hid hsb
  clear hry hry1 hat hcv hcc hc0 hrp hb9 hu0 hsb HB4 HY4
  go_wp2_with fail
  refine HSB.out.mono ?_
  rintro e w10 ⟨rfl, rfl⟩
  go_wp2_with fail
  go_ret
  exact ⟨rfl, HB5.out⟩
end Go.Proofs.Ytighlefajekloaa.PngW
