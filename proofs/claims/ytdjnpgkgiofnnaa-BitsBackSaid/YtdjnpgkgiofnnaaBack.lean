/- The walk of BitsBack. -/
import Derived.Test.YtdjnpgkgiofnnaaBackM
import Derived.Test.YtdjnpgkgiofnnaaScr
import Derived.Test.YtdjnpgkgiofnnaaBits5
import Derived.Deep.CutBlock
set_option linter.unusedVariables false
set_option linter.unusedSimpArgs false
namespace Go.Proofs.Ytdjnpgkgiofnnaa.Back
open Go.RowKit BitsM Base Low BitsW BitsX BitsR BitsG Bits5 Bits7 Rec BackM Bits9
/-- what the law makes of a number of the script -/
def norm (c : Cmd) : C3 := ⟨c.kind, c.n % 2 ^ pick c.k 33, pick c.k 33⟩
theorem norm_ok (c : Cmd) : (norm c).ok := ⟨Nat.mod_lt _ (Nat.two_pow_pos _), by have := pick_lt c.k 33 (by decide); unfold norm; dsimp only; omega⟩
theorem sum_le (l : List C3) (h : ∀ c ∈ l, c.ok) : (sumZ l).2 ≤ 40 * l.length := by
  have : ∀ (l : List C3) (s : Nat × Nat), (∀ c ∈ l, c.ok) → (l.foldl stepZ s).2 ≤ s.2 + 40 * l.length := by
    intro l
    induction l with
    | nil => intro s _; simp
    | cons c l ih =>
      intro s h
      have h1 := ih (stepZ s c) (fun x hx => h x (List.mem_cons_of_mem _ hx))
      have h2 : (stepZ s c).2 ≤ s.2 + 40 := by
        have := (h c (List.mem_cons_self ..)).k
        unfold stepZ
        split
        · unfold upP; dsimp only; omega
        · dsimp only; omega
      rw [List.foldl_cons, List.length_cons]
      omega
  have := this l (0, 0) h
  unfold sumZ; omega
theorem wrap_in {x : Int} (h1 : -9223372036854775808 ≤ x) (h2 : x ≤ 9223372036854775807) : IntKind.i64.wrap x = x := by
  show (if IntKind.i64.signed && decide (x % 18446744073709551616 ≥ 9223372036854775808) then x % 18446744073709551616 - 18446744073709551616 else x % 18446744073709551616) = x
  simp [IntKind.signed]; omega
theorem mask_all (n q : Nat) (hn : n ≤ 4294967295) (hq : q ≤ 32) : bits BinOp.and IntKind.u64 (n : Int) (IntKind.u64.wrap (IntKind.u64.wrap ((2 : Int) ^ q) - 1)) % 4294967296 = ((n % 2 ^ q : Nat) : Int) := by
  have h2 : 2 ^ q ≤ 2 ^ 32 := Nat.pow_le_pow_right (by omega) hq
  have h3 : 0 < 2 ^ q := Nat.pow_pos (by omega)
  have e : IntKind.u64.wrap (((2 ^ q : Nat) : Int) - 1) = ((2 ^ q - 1 : Nat) : Int) := by rw [IntKind.wrap_u64]; omega
  have h := u64_and_nat n (2 ^ q - 1) (by omega) (by omega)
  rw [Nat.and_two_pow_sub_one_eq_mod] at h
  rw [u64_pow q hq, e, h]
  have : n % 2 ^ q ≤ n := Nat.mod_le _ _
  generalize n % 2 ^ q = r at *
  omega
set_option maxRecDepth 100000 in
set_option maxHeartbeats 8000000 in
theorem back_any (v : Value) (l : List Cmd) (w : World) (hv : Script w v l) : Calls Try.prog 3 #[v] w fun e w' => e = .returned (.bool true) ∧ Below w.heap.size w w' := by
  obtain ⟨a, cap, rfl, hlen⟩ := hv.shape
  have hV := Lib.hid hv
  clear hv
  go_enter Try.func3, Try.ntmps3
  go_wp2_with fail
  refine (newWriter_any _).mono ?_
  rintro e w1 ⟨rfl, rfl⟩
  go_wp2_with fail
  refine (newWriter_any _).mono ?_
  rintro e w1 ⟨rfl, rfl⟩
  have hS := Bk.new w
  have sz : (w.alloc (.cells #[.bool true, .slice none 0 0, .int .i64 0] 46)).heap.size = w.heap.size + 1 := by simp
  have hS0 := Lib.hid hS
  clear hS
  go_upto_block 0 with (fail)
  have hS := Lib.hid hS0.out
  clear hS0 sz
  go_cut [5, 6] (fun x y wc => ∃ (v1 v2 : Value) (T : Nat) (cs : List C3), (∀ c ∈ cs, c.ok) ∧ cs.length ≤ 200 ∧ Hid (Bk w wc w.heap.size (w.heap.size + 1) v1 v2 x y (bytesN (sumZ cs).1 T) (sumZ cs).1 (sumZ cs).2 T (sumZ cs).1 (sumZ cs).2 cs (fun _ => False)))
  case first =>
    go_wp2_with fail
    go_loopg [5, 6, 7] l.length (fun r n5 n6 n7 wr => ∃ (i T : Nat) (v1 v2 : Value), i + r = l.length ∧ i ≤ 200 ∧ n7 = .int .i64 (i : Int) ∧ Hid (Bk w wr w.heap.size (w.heap.size + 1) v1 v2 n5 n6 (bytesN (sumZ ((l.take i).map norm)).1 T) (sumZ ((l.take i).map norm)).1 (sumZ ((l.take i).map norm)).2 T (sumZ ((l.take i).map norm)).1 (sumZ ((l.take i).map norm)).2 ((l.take i).map norm) (fun _ => False)))
    case atStart => exact ⟨0, 0, _, _, by omega, by omega, rfl, hS⟩
    case round =>
      obtain ⟨i, T, v1, v2, hir, hi200, rfl, hin⟩ := hrel
      have hok : ∀ c ∈ (l.take i).map norm, c.ok := by intro c hc; obtain ⟨x, -, rfl⟩ := List.mem_map.1 hc; exact norm_ok x
      have hP := sum_le _ hok
      have hlt := sumZ_lt _ hok
      have hcl : ((l.take i).map norm).length ≤ 200 := by simp only [List.length_map, List.length_take]; omega
      clear hS
      by_cases hi : i < l.length ∧ i < 200
      · obtain ⟨hi1, hi2⟩ := hi
        obtain ⟨b, off, cap', e, hb, hc⟩ := hV.out.cells (by intro h0; subst h0; simp at hi1)
        simp only [Value.slice.injEq] at e
        obtain ⟨rfl, -, rfl⟩ := e
        obtain ⟨c0, c1, c2⟩ := hc i hi1
        have hsn : sumZ ((l.take (i + 1)).map norm) = stepZ (sumZ ((l.take i).map norm)) (norm l[i]) := by
          rw [List.take_add_one, List.getElem?_eq_getElem hi1, Option.toList_some, List.map_append, List.map_singleton, sumZ_snoc]
        have hcs : (l.take (i + 1)).map norm = (l.take i).map norm ++ [norm l[i]] := by
          rw [List.take_add_one, List.getElem?_eq_getElem hi1, Option.toList_some, List.map_append, List.map_singleton]
        obtain ⟨c, hcc⟩ : ∃ c, c = l[i] := ⟨_, rfl⟩
        have hok1 := hV.out.fits _ (List.getElem_mem hi1)
        rw [← hcc] at c0 c1 c2 hok1 hsn hcs
        have hlow := hin.out.below
        rw [← hlow.cell hb] at c0 c1 c2
        clear hc hok
        have hfin : ∀ (Zz : Nat × Nat) (c3 : C3), sumZ ((l.take i).map norm) = Zz → norm c = c3 → ∀ (vx vy v1' v2' : Value) (w2 : World) (T' : Nat) (X : Nat → Prop), Bk w w2 w.heap.size (w.heap.size + 1) v1' v2' vx vy (bytesN (stepZ Zz c3).1 T') (stepZ Zz c3).1 (stepZ Zz c3).2 T' (stepZ Zz c3).1 (stepZ Zz c3).2 ((l.take i).map norm ++ [c3]) X → Bk w w2 w.heap.size (w.heap.size + 1) v1' v2' vx vy (bytesN (sumZ ((l.take (i + 1)).map norm)).1 T') (sumZ ((l.take (i + 1)).map norm)).1 (sumZ ((l.take (i + 1)).map norm)).2 T' (sumZ ((l.take (i + 1)).map norm)).1 (sumZ ((l.take (i + 1)).map norm)).2 ((l.take (i + 1)).map norm) (fun _ => False) := by
          intro Zz c3 e1 e2 vx vy v1' v2' w2 T' X hb
          rw [hsn, hcs, e1, e2]
          exact hb.mono (fun _ h => h.elim)
        have HF0 := Lib.hid hfin
        have HP := Lib.hid hP
        have HLT := Lib.hid hlt
        have HCL := Lib.hid hcl
        have HCC := Lib.hid hcc
        have HII := Lib.hid (And.intro hir (And.intro hi1 hi2))
        have HB := Lib.hid (Nat.lt_of_lt_of_le hb hlow.size)
        clear hcs hsn hfin hP hlt hcl hcc hlow hb
        generalize (l.take i).map norm = cs at *
        obtain ⟨cs9, hcs9⟩ : ∃ z, z = (l.take (i + 1)).map norm := ⟨_, rfl⟩
        clear hcs9 cs9
        obtain ⟨Z, hZ⟩ : ∃ z, z = (sumZ cs).1 := ⟨_, rfl⟩
        obtain ⟨Pp, hPp⟩ : ∃ z, z = (sumZ cs).2 := ⟨_, rfl⟩
        rw [← hPp] at HP
        have hss : sumZ cs = (Z, Pp) := by rw [hZ, hPp]
        rw [hss] at HLT
        have HF1 := Lib.hid (fun c3 e => HF0.out _ c3 hss e)
        clear HF0
        have hin2 := hin.out
        rw [← hZ, ← hPp] at hin2
        have hIN := Lib.hid hin2
        clear hin hin2 hZ hPp hss
        obtain ⟨K, n, k⟩ := c
        simp only at c0 c1 c2
        obtain ⟨k1, k2, n1, k3, k4⟩ := hok1
        simp only at k1 k2 n1 k3 k4
        obtain ⟨q, hq⟩ : ∃ q, q = pick k 33 := ⟨_, rfl⟩
        obtain ⟨m, hm⟩ : ∃ m, m = n % 2 ^ q := ⟨_, rfl⟩
        have hq32 : q ≤ 32 := by have := pick_lt k 33 (by decide); omega
        have hmq : m < 2 ^ q := by rw [hm]; exact Nat.mod_lt _ (Nat.two_pow_pos _)
        have CPK : Hid (∀ w, Calls Try.prog 5 #[.int .i64 k, .int .i64 33] w (fun e w' => e = .returned (.int .i64 (q : Int)) ∧ w = w')) := Lib.hid (fun w => by have := pick_any k 33 k3 k4 (by decide) w; rw [← hq] at this; exact this)
        have HNM : Hid (norm ⟨K, n, k⟩ = ⟨K, m, q⟩) := Lib.hid (by unfold norm; dsimp only; rw [← hq, ← hm])
        have hbv := mask_all n q n1 hq32
        rw [← hm] at hbv
        have HMD := Lib.hid hm
        have HMQ := Lib.hid hmq
        have HFIN := Lib.hid (HF1.out _ HNM.out)
        clear HF1 HNM hmq
        clear hq hm
        go_upto_region 8 with (fail)
        have hx := hIN.out.ext (ext_alloc wr (.cells #[.int .i64 K, .int .u32 (n : Int), .int .i64 k] 28))
        have hn := heap_alloc_new wr (.cells #[.int .i64 K, .int .u32 (n : Int), .int .i64 k] 28)
        have hlow : w.heap.size ≤ wr.heap.size := hIN.out.below.size
        have hx2 := hx.mono (X' := fun b => b = wr.heap.size) (by rintro b rfl; exact .inr ⟨Nat.le_refl _, by simp⟩)
        obtain ⟨W5, hW5⟩ : ∃ ww, ww = wr.alloc (.cells #[.int .i64 K, .int .u32 (n : Int), .int .i64 k] 28) := ⟨_, rfl⟩
        rw [← hW5] at hx2 hn ⊢
        have HLO := Lib.hid hlow
        clear hW5 hx hlow c0 c1 c2
        generalize wr.heap.size = gO at hx2 hn HLO ⊢
        have e0 := cell_of_row _ _ 0 _ _ _ hn
        have e1 := cell_of_row _ _ 1 _ _ _ hn
        have e2 := cell_of_row _ _ 2 _ _ _ hn
        have t1 := frozen_of_row _ _ 1 _ _ hn
        have t2 := frozen_of_row _ _ 2 _ _ hn
        simp only [List.getElem?_toArray, List.getElem?_cons_succ, List.getElem?_cons_zero] at e0 e1 e2
        have HO := Lib.hid hn
        have HX := Lib.hid hx2
        clear hn hx2 hIN
        go_wp2_with fail
        refine (CPK.out _).mono ?_
        rintro e _ ⟨rfl, rfl⟩
        go_upto_region 9 with (fail)
        have ho6 : (W5.setCell ⟨gO, 2, none⟩ (.int .i64 (q : Int))).heap[gO]? = some (.cells #[.int .i64 K, .int .u32 (n : Int), .int .i64 (q : Int)] 28) := heap_setCell_same _ _ _ _ _ _ HO.out
        have hx6 := HX.out.frame ((Keeps.refl (fun b => b = gO) W5).setCell gO 2 (.int .i64 (q : Int)) (.inl rfl)) (fun b hb => ⟨hb, by subst hb; exact HLO.out⟩)
        obtain ⟨W6, hW6⟩ : ∃ ww, ww = W5.setCell ⟨gO, 2, none⟩ (.int .i64 (q : Int)) := ⟨_, rfl⟩
        rw [← hW6] at ho6 hx6 ⊢
        clear hW6 e0 e1 e2 t1 t2 CPK HO HX
        have e1 := cell_of_row _ _ 1 _ _ _ ho6
        have e2 := cell_of_row _ _ 2 _ _ _ ho6
        have t1 := frozen_of_row _ _ 1 _ _ ho6
        simp only [List.getElem?_toArray, List.getElem?_cons_succ, List.getElem?_cons_zero] at e1 e2
        have HO := Lib.hid ho6
        have HX := Lib.hid hx6
        clear ho6 hx6
        go_region
        have ho7 : ((W6.setCell ⟨gO, 1, none⟩ (.int .u32 (m : Int))).drew).heap[gO]? = some (.cells #[.int .i64 K, .int .u32 (m : Int), .int .i64 (q : Int)] 28) := heap_setCell_same _ _ _ _ _ _ HO.out
        have hx7 := (HX.out.frame ((Keeps.refl (fun b => b = gO) W6).setCell gO 1 (.int .u32 (m : Int)) (.inl rfl)) (fun b hb => ⟨hb, by subst hb; exact HLO.out⟩)).frame (Keeps.of_ext (below_drew (Below.refl _ _)) (fun _ => False)) (fun _ h => h.elim)
        obtain ⟨W7, hW7⟩ : ∃ ww, ww = (W6.setCell ⟨gO, 1, none⟩ (.int .u32 (m : Int))).drew := ⟨_, rfl⟩
        rw [← hW7] at ho7 hx7 ⊢
        clear hW7 e1 e2 t1 HO HX hbv n1
        have e0 := cell_of_row _ _ 0 _ _ _ ho7
        have e1 := cell_of_row _ _ 1 _ _ _ ho7
        have e2 := cell_of_row _ _ 2 _ _ _ ho7
        simp only [List.getElem?_toArray, List.getElem?_cons_succ, List.getElem?_cons_zero] at e0 e1 e2
        have HO7 := Lib.hid ho7
        have HX7 := Lib.hid hx7
        clear ho7 hx7
        by_cases h6 : K = 6
        · subst h6
          go_wp2_with fail

          refine (HX7.out.align1 (by have := HP.out; have := HCL.out; omega)).mono ?_
          rintro e W8 ⟨rfl, ⟨v8, hx⟩, hk⟩
          have HO8 := Lib.hid ((hk.block _ (lt_of_heap HO7.out) (fun hn => hn rfl)).trans HO7.out)
          have HX8 := Lib.hid hx
          clear hx hk HO7 HX7 e0 e1 e2

          have e0 := cell_of_row _ _ 0 _ _ _ HO8.out
          have e1 := cell_of_row _ _ 1 _ _ _ HO8.out
          have e2 := cell_of_row _ _ 2 _ _ _ HO8.out
          simp only [List.getElem?_toArray, List.getElem?_cons_succ, List.getElem?_cons_zero] at e0 e1 e2
          go_wp2_with fail

          refine (HX8.out.align2 (by have := HP.out; have := HCL.out; omega)).mono ?_
          rintro e W9 ⟨rfl, ⟨v9, hx⟩, hk⟩
          have HO9 := Lib.hid ((hk.block _ (lt_of_heap HO8.out) (fun hn => hn rfl)).trans HO8.out)
          have HX9 := Lib.hid hx
          clear hx hk HO8 HX8 e0 e1 e2

          have e0 := cell_of_row _ _ 0 _ _ _ HO9.out
          have e1 := cell_of_row _ _ 1 _ _ _ HO9.out
          have e2 := cell_of_row _ _ 2 _ _ _ HO9.out
          simp only [List.getElem?_toArray, List.getElem?_cons_succ, List.getElem?_cons_zero] at e0 e1 e2

          have R1 := Lib.hid (recs_one len 28 W9 (⟨6, m, q⟩ : C3) #[.int .i64 6, .int .u32 (m : Int), .int .i64 (q : Int)] rfl)
          have HXA := Lib.hid (HX9.out.ext (ext_alloc W9 (.cells #[.int .i64 6, .int .u32 (m : Int), .int .i64 (q : Int)] 28)))
          have HLE := Lib.hid (show (cs.length + [(⟨6, m, q⟩ : C3)].length) * 24 ≤ 140737488355328 by have := HCL.out; simp only [List.length_cons, List.length_nil]; omega)
          have HLE2 := Lib.hid (show cs.length + [(⟨6, m, q⟩ : C3)].length ≤ 140737488355328 by have := HCL.out; simp only [List.length_cons, List.length_nil]; omega)
          clear HX9 HO9
          go_wp2_with (at_builtin; refine wpList_append_recs rfl (.tmp 77) (.tmp 79) 22 28 rfl _ 24 w.heap.size ops_slice _ cs rfl HXA.out.ls _ [(⟨6, m, q⟩ : C3)] rfl R1.out HLE.out HLE2.out HXA.out.below.size ?_; intro v2' w2' hown2 hgr2 hv2)
          have HXB := Lib.hid (HXA.out.app_ls hown2 hgr2 hv2)
          clear hown2 hgr2 hv2 HXA e0 e1 e2
          go_wp2_with fail
          go_roundg (l.length - (i + 1))
          case measure => have := HII.out; omega
          case rel => exact ⟨i + 1, T, v8, v9, by have := HII.out; omega, by have := HII.out; omega, by go_num, Lib.hid (HFIN.out _ _ _ _ _ _ _ HXB.out)⟩
        · have b6 : (K == 6) = false := by simpa using h6
          by_cases h5 : K = 5
          · subst h5
            have HLB : Hid (bytesN (Z + m * 2 ^ Pp) T = bytesN Z T) := Lib.hid (bytesN_more Z m Pp T HX7.out.le)
            go_wp2_with fail

            refine (HX7.out.put1 m q hq32 HMQ.out (by have := HP.out; have := HCL.out; omega) _ _ rfl rfl).mono ?_
            rintro e W8 ⟨rfl, ⟨v8, hx⟩, hk⟩
            have HO8 := Lib.hid ((hk.block _ (lt_of_heap HO7.out) (fun hn => hn rfl)).trans HO7.out)
            have HX8 := Lib.hid hx
            clear hx hk HO7 HX7 e0 e1 e2

            have e0 := cell_of_row _ _ 0 _ _ _ HO8.out
            have e1 := cell_of_row _ _ 1 _ _ _ HO8.out
            have e2 := cell_of_row _ _ 2 _ _ _ HO8.out
            simp only [List.getElem?_toArray, List.getElem?_cons_succ, List.getElem?_cons_zero] at e0 e1 e2
            go_wp2_with fail

            refine (HX8.out.put2 m q hq32 HMQ.out (by have := HP.out; have := HCL.out; omega) _ _ rfl rfl).mono ?_
            rintro e W9 ⟨rfl, ⟨v9, hx⟩, hk⟩
            have HO9 := Lib.hid ((hk.block _ (lt_of_heap HO8.out) (fun hn => hn rfl)).trans HO8.out)
            have HX9 := Lib.hid hx
            clear hx hk HO8 HX8 e0 e1 e2

            have e0 := cell_of_row _ _ 0 _ _ _ HO9.out
            have e1 := cell_of_row _ _ 1 _ _ _ HO9.out
            have e2 := cell_of_row _ _ 2 _ _ _ HO9.out
            simp only [List.getElem?_toArray, List.getElem?_cons_succ, List.getElem?_cons_zero] at e0 e1 e2

            go_wp2_with fail
            refine (HX9.out.take1 (by have := HP.out; have := HCL.out; omega)).mono ?_
            rintro e W10 ⟨u, v10, rfl, hnu, hx, hk⟩
            have HO10 := Lib.hid ((hk.block _ (lt_of_heap HO9.out) (fun hn => hn rfl)).trans HO9.out)
            have HX10 := Lib.hid hx
            have HNU := Lib.hid hnu
            clear hx hk hnu HO9 HX9 e0 e1 e2

            have e0 := cell_of_row _ _ 0 _ _ _ HO10.out
            have e1 := cell_of_row _ _ 1 _ _ _ HO10.out
            have e2 := cell_of_row _ _ 2 _ _ _ HO10.out
            simp only [List.getElem?_toArray, List.getElem?_cons_succ, List.getElem?_cons_zero] at e0 e1 e2

            have HAE := Lib.hid (show ((bytesN Z T).length + (bytesN ((Z + m * 2 ^ Pp) / 256 ^ T) ((Pp + q - 8 * T) / 8)).length) * 1 ≤ 140737488355328 by rw [bytesN_length, bytesN_length]; have := HP.out; have := HCL.out; have := HX10.out.le; omega)
            have HAE2 := Lib.hid (show (bytesN Z T).length + (bytesN ((Z + m * 2 ^ Pp) / 256 ^ T) ((Pp + q - 8 * T) / 8)).length ≤ 140737488355328 by have := HAE.out; omega)
            have HXU := Lib.hid (HX10.out.mono (X' := fun b => b = gO) (fun b hb => .inl hb))
            go_upto_region 17 with (at_builtin; refine wpList_append_nums_at rfl (.tmp 73) (.tmp 75) 25 5 rfl .u8 256 1 w.heap.size u8s _ _ rfl HX10.out.al _ _ rfl HNU.out HAE.out HAE2.out HX10.out.below.size ?_; intro v2' W11 hown2 hgr2 hv2)
            have hx := HX10.out.app_al hown2 hgr2 hv2
            have HO11 := Lib.hid ((hgr2.block _ (lt_of_heap HO10.out) (fun e => (HX10.out.da gO e.symm).2 (.inl rfl))).trans HO10.out)
            have HX11 := Lib.hid (hx.mono (X' := fun b => b = gO) (fun b hb => .inl hb))
            clear hx hown2 hgr2 hv2 HX10 HNU HO10 HXU HAE HAE2 e0 e1 e2

            have e0 := cell_of_row _ _ 0 _ _ _ HO11.out
            have e1 := cell_of_row _ _ 1 _ _ _ HO11.out
            have e2 := cell_of_row _ _ 2 _ _ _ HO11.out
            simp only [List.getElem?_toArray, List.getElem?_cons_succ, List.getElem?_cons_zero] at e0 e1 e2

            have R1 := Lib.hid (recs_one len 28 W11 (⟨5, m, q⟩ : C3) #[.int .i64 5, .int .u32 (m : Int), .int .i64 (q : Int)] rfl)
            have HXA := Lib.hid (HX11.out.ext (ext_alloc W11 (.cells #[.int .i64 5, .int .u32 (m : Int), .int .i64 (q : Int)] 28)))
            have HLE := Lib.hid (show (cs.length + [(⟨5, m, q⟩ : C3)].length) * 24 ≤ 140737488355328 by have := HCL.out; simp only [List.length_cons, List.length_nil]; omega)
            have HLE2 := Lib.hid (show cs.length + [(⟨5, m, q⟩ : C3)].length ≤ 140737488355328 by have := HCL.out; simp only [List.length_cons, List.length_nil]; omega)
            clear HX11 HO11
            go_wp2_with (at_builtin; refine wpList_append_recs rfl (.tmp 77) (.tmp 79) 22 28 rfl _ 24 w.heap.size ops_slice _ cs rfl HXA.out.ls _ [(⟨5, m, q⟩ : C3)] rfl R1.out HLE.out HLE2.out HXA.out.below.size ?_; intro v2' w2' hown2 hgr2 hv2)
            have HXB := Lib.hid (HXA.out.app_ls hown2 hgr2 hv2)
            clear hown2 hgr2 hv2 HXA e0 e1 e2
            go_wp2_with fail
            go_roundg (l.length - (i + 1))
            case measure => have := HII.out; omega
            case rel => exact ⟨i + 1, T + (Pp + q - 8 * T) / 8, v10, v9, by have := HII.out; omega, by have := HII.out; omega, by go_num, Lib.hid (HFIN.out _ _ _ _ _ _ _ (by show Bk w _ _ _ _ _ _ _ (bytesN (Z + m * 2 ^ Pp) (T + (Pp + q - 8 * T) / 8)) _ _ _ _ _ _ _; rw [bytesN_add, HLB.out]; exact HXB.out))⟩
          · have b5 : (K == 5) = false := by simpa using h5
            have HLB : Hid (bytesN (Z + m * 2 ^ Pp) T = bytesN Z T) := Lib.hid (bytesN_more Z m Pp T HX7.out.le)
            rw [show stepZ (Z, Pp) ⟨K, m, q⟩ = (Z + m * 2 ^ Pp, Pp + q) by unfold stepZ; rw [if_neg h6]] at HFIN
            go_wp2_with fail

            refine (HX7.out.put1 m q hq32 HMQ.out (by have := HP.out; have := HCL.out; omega) _ _ rfl rfl).mono ?_
            rintro e W8 ⟨rfl, ⟨v8, hx⟩, hk⟩
            have HO8 := Lib.hid ((hk.block _ (lt_of_heap HO7.out) (fun hn => hn rfl)).trans HO7.out)
            have HX8 := Lib.hid hx
            clear hx hk HO7 HX7 e0 e1 e2

            have e0 := cell_of_row _ _ 0 _ _ _ HO8.out
            have e1 := cell_of_row _ _ 1 _ _ _ HO8.out
            have e2 := cell_of_row _ _ 2 _ _ _ HO8.out
            simp only [List.getElem?_toArray, List.getElem?_cons_succ, List.getElem?_cons_zero] at e0 e1 e2
            go_wp2_with fail

            refine (HX8.out.put2 m q hq32 HMQ.out (by have := HP.out; have := HCL.out; omega) _ _ rfl rfl).mono ?_
            rintro e W9 ⟨rfl, ⟨v9, hx⟩, hk⟩
            have HO9 := Lib.hid ((hk.block _ (lt_of_heap HO8.out) (fun hn => hn rfl)).trans HO8.out)
            have HX9 := Lib.hid hx
            clear hx hk HO8 HX8 e0 e1 e2

            have e0 := cell_of_row _ _ 0 _ _ _ HO9.out
            have e1 := cell_of_row _ _ 1 _ _ _ HO9.out
            have e2 := cell_of_row _ _ 2 _ _ _ HO9.out
            simp only [List.getElem?_toArray, List.getElem?_cons_succ, List.getElem?_cons_zero] at e0 e1 e2

            have R1 := Lib.hid (recs_one len 28 W9 (⟨K, m, q⟩ : C3) #[.int .i64 K, .int .u32 (m : Int), .int .i64 (q : Int)] rfl)
            have HXA := Lib.hid (HX9.out.ext (ext_alloc W9 (.cells #[.int .i64 K, .int .u32 (m : Int), .int .i64 (q : Int)] 28)))
            have HLE := Lib.hid (show (cs.length + [(⟨K, m, q⟩ : C3)].length) * 24 ≤ 140737488355328 by have := HCL.out; simp only [List.length_cons, List.length_nil]; omega)
            have HLE2 := Lib.hid (show cs.length + [(⟨K, m, q⟩ : C3)].length ≤ 140737488355328 by have := HCL.out; simp only [List.length_cons, List.length_nil]; omega)
            clear HX9 HO9
            go_wp2_with (at_builtin; refine wpList_append_recs rfl (.tmp 77) (.tmp 79) 22 28 rfl _ 24 w.heap.size ops_slice _ cs rfl HXA.out.ls _ [(⟨K, m, q⟩ : C3)] rfl R1.out HLE.out HLE2.out HXA.out.below.size ?_; intro v2' w2' hown2 hgr2 hv2)
            have HXB := Lib.hid (HXA.out.app_ls hown2 hgr2 hv2)
            clear hown2 hgr2 hv2 HXA e0 e1 e2
            go_wp2_with fail
            go_roundg (l.length - (i + 1))
            case measure => have := HII.out; omega
            case rel => exact ⟨i + 1, T, v8, v9, by have := HII.out; omega, by have := HII.out; omega, by go_num, Lib.hid (HFIN.out _ _ _ _ _ _ _ (by show Bk w _ _ _ _ _ _ _ (bytesN (Z + m * 2 ^ Pp) T) _ _ _ _ _ _ _; rw [HLB.out]; exact HXB.out))⟩
      · have hex : ¬ i < l.length ∨ (i < l.length ∧ i = 200) := by omega
        rcases hex with h | ⟨h, rfl⟩
        · have d1 : decide (i < l.length) = false := decide_eq_false h
          go_wp2_with fail
          go_meet
          case rel => exact ⟨v1, v2, T, _, hok, hcl, hin⟩
        · have d1 : decide (200 < l.length) = true := decide_eq_true h
          go_wp2_with fail
          go_meet
          case rel => exact ⟨v1, v2, T, _, hok, hcl, hin⟩
  case rest =>
    obtain ⟨v1, v2, T, cs, hok, hcl, hbk⟩ := hcut
    have hP := sum_le cs hok
    have hlt := sumZ_lt cs hok
    obtain ⟨Z, hZ⟩ : ∃ z, z = (sumZ cs).1 := ⟨_, rfl⟩
    obtain ⟨Pp, hPp⟩ : ∃ z, z = (sumZ cs).2 := ⟨_, rfl⟩
    obtain ⟨QQ, hQQ⟩ : ∃ z, z = upP Pp := ⟨_, rfl⟩
    obtain ⟨B, hB⟩ : ∃ z, z = bytesN Z (QQ / 8) := ⟨_, rfl⟩
    have q8 : QQ % 8 = 0 := by rw [hQQ]; exact upP_8 _
    have qle : Pp ≤ QQ := by rw [hQQ]; exact upP_le _
    have qhi : QQ ≤ Pp + 7 := by rw [hQQ]; unfold upP; omega
    have hBl : B.length = QQ / 8 := by rw [hB, bytesN_length]
    have hget : ∀ i (hi : i < cs.length), ¬ cs[i].kind = 6 → cs[i].n = valB B / 2 ^ (sumZ (cs.take i)).2 % 2 ^ cs[i].k ∧ (sumZ (cs.take i)).2 + cs[i].k ≤ 8 * B.length := by
      intro i hi h6
      obtain ⟨b1, b2⟩ := back cs hok i hi h6
      have e : valB B = (sumZ cs).1 := by rw [hB, hZ, hQQ, hPp]; exact valB_all _ _ hlt
      rw [e]
      exact ⟨b1.symm, by rw [hBl]; omega⟩
    have hnext : ∀ i (hi : i < cs.length), (sumZ (cs.take (i + 1))).2 = (stepZ (sumZ (cs.take i)) cs[i]).2 := fun i hi => by rw [sumZ_next cs i hi]
    have hpl : ∀ i, (sumZ (cs.take i)).2 ≤ 40 * 200 := by
      intro i
      have := sum_le (cs.take i) (fun c hc => hok c (List.mem_of_mem_take hc))
      have l2 : (cs.take i).length ≤ cs.length := by rw [List.length_take]; omega
      omega
    have hkk : ∀ i (hi : i < cs.length), cs[i].k ≤ 32 := fun i hi => (hok _ (List.getElem_mem hi)).k
    have hend : (sumZ (cs.take cs.length)).2 = Pp := by rw [List.take_length, hPp]
    rw [← hPp] at hP
    have hb0 := hbk.out
    rw [← hZ, ← hPp] at hb0
    have HX0 := Lib.hid hb0
    have HGET := Lib.hid hget
    have HNEXT := Lib.hid hnext
    have HPL := Lib.hid hpl
    have HKK := Lib.hid hkk
    have HEND := Lib.hid hend
    have HBD := Lib.hid hB
    have HQ := Lib.hid (And.intro hBl (And.intro q8 (And.intro qle (And.intro qhi (And.intro hP hcl)))))
    have HQU := Lib.hid hQQ
    clear hbk hb0 hget hnext hpl hkk hend hB hBl q8 qle qhi hP hcl hQQ hlt hok hZ hPp hS
    go_wp2_with fail
    refine (HX0.out.align1 (by have := HQ.out; omega)).mono ?_
    rintro e W1 ⟨rfl, ⟨v8, hx⟩, -⟩
    rw [← HQU.out] at hx
    have HX1 := Lib.hid hx
    clear hx HX0
    go_wp2_with fail
    refine (HX1.out.align2 (by have := HQ.out; omega)).mono ?_
    rintro e W2 ⟨rfl, ⟨v9, hx⟩, -⟩
    rw [← HQU.out] at hx
    have HX2 := Lib.hid hx
    clear hx HX1
    go_wp2_with fail
    refine (HX2.out.take1 (by have := HQ.out; omega)).mono ?_
    rintro e W3 ⟨u, v10, rfl, hnu, hx, -⟩
    have HX3 := Lib.hid hx
    have HNU := Lib.hid hnu
    have HT := Lib.hid (show 8 * T ≤ QQ by have := HX2.out.le; exact this)
    clear hx hnu HX2
    have HAE := Lib.hid (show ((bytesN Z T).length + (bytesN (Z / 256 ^ T) ((QQ - 8 * T) / 8)).length) * 1 ≤ 140737488355328 by rw [bytesN_length, bytesN_length]; have := HQ.out; have := HT.out; omega)
    have HAE2 := Lib.hid (show (bytesN Z T).length + (bytesN (Z / 256 ^ T) ((QQ - 8 * T) / 8)).length ≤ 140737488355328 by have := HAE.out; omega)
    go_upto_region 21 with (at_builtin; refine wpList_append_nums_at rfl (.tmp 85) (.tmp 87) 25 5 rfl .u8 256 1 w.heap.size u8s _ _ rfl HX3.out.al _ _ rfl HNU.out HAE.out HAE2.out HX3.out.below.size ?_; intro va W4 hown2 hgr2 hv2)
    have hx := HX3.out.app_al hown2 hgr2 hv2
    have e1 : bytesN Z T ++ bytesN (Z / 256 ^ T) ((QQ - 8 * T) / 8) = B := by rw [← bytesN_add, HBD.out]; congr 1; have := HT.out; have := HQ.out; omega
    have e2 : T + (QQ - 8 * T) / 8 = QQ / 8 := by have := HT.out; have := HQ.out; omega
    rw [e1, e2] at hx
    have HX4 := Lib.hid hx
    clear hx hown2 hgr2 hv2 HX3 HNU HAE HAE2 e1 e2 HT
    obtain ⟨aa, capa, hva, -⟩ := HX4.out.al.nums.shape
    subst hva
    go_wp2_with fail
    refine (HX4.out.take2 (by have := HQ.out; omega)).mono ?_
    rintro e W5 ⟨u, rfl, hnu, hw1, hal, hls, hbl⟩
    rw [← HBD.out] at hnu
    have hbt := bits_any _ _ _ _ _ _ _ hw1
    have eq8 : 8 * (QQ / 8) + (QQ - 8 * (QQ / 8)) = QQ := by have := HQ.out; omega
    rw [eq8] at hbt
    have HBT := Lib.hid hbt
    have hsb := sameBytes_any _ _ _ _ _ hal.nums hnu
    rw [decide_eq_true rfl] at hsb
    have HSB := Lib.hid hsb
    have HW1 := Lib.hid hw1
    have HAL := Lib.hid hal
    have HLS := Lib.hid hls
    have HBL := Lib.hid hbl
    have wm : IntKind.i64.wrap (8 * (B.length : Int)) = (QQ : Int) := by have := HQ.out; rw [wrap_in (by omega) (by omega)]; omega
    clear hnu hw1 hal hls hbl hbt hsb eq8 HX4
    go_wp2_with fail
    refine (HSB.out).mono ?_
    rintro e _ ⟨rfl, rfl⟩
    go_wp2_with fail
    refine (HBT.out).mono ?_
    rintro e _ ⟨rfl, rfl⟩
    clear HSB
    go_wp2_with fail
    refine (newReader_rs _ B _ HAL.out.nums (by have := HQ.out; omega)).mono ?_
    rintro e W6 ⟨gR, vR, rfl, hrs⟩
    have HRS := Lib.hid hrs
    clear hrs
    obtain ⟨al, capl, hvl⟩ := HLS.out.slice_
    subst hvl
    go_wp2_with fail
    go_loopg [10] cs.length (fun r n10 wr => ∃ (i : Nat), i + r = cs.length ∧ n10 = .int .i64 (i : Int) ∧ Hid (RS W5 wr gR vR B (sumZ (cs.take i)).2))
    case atStart => exact ⟨0, by omega, rfl, HRS⟩
    case round =>
      obtain ⟨i, hir, rfl, hin⟩ := hrel
      clear HRS
      by_cases hi : i < cs.length
      · have d1 : decide (i < cs.length) = true := decide_eq_true hi
        obtain ⟨al', capl', e, -, hcell⟩ := (HLS.out.recs len).open_
        simp only [Value.slice.injEq] at e
        obtain ⟨rfl, -, rfl⟩ := e
        obtain ⟨b, off, rfl, hb, hc⟩ := hcell i hi
        have c0 : W5.cell? ⟨b, off + i * 3, none⟩ = some (.int .i64 cs[i].kind) := hc i hi 0 _ rfl
        have c1 : W5.cell? ⟨b, off + i * 3 + 1, none⟩ = some (.int .u32 (cs[i].n : Int)) := hc i hi 1 _ rfl
        have c2 : W5.cell? ⟨b, off + i * 3 + 2, none⟩ = some (.int .i64 (cs[i].k : Int)) := hc i hi 2 _ rfl
        have hbw := hin.out.below
        have hg := HGET.out i hi
        have hk := HKK.out i hi
        have hn := HNEXT.out i hi
        have hp := HPL.out i
        generalize (sumZ (cs.take i)) = sp at hin hg hn hp
        obtain ⟨c, hcc⟩ : ∃ c, c = cs[i] := ⟨_, rfl⟩
        rw [← hcc] at c0 c1 c2 hg hk hn
        obtain ⟨K, n, k⟩ := c
        dsimp only at c0 c1 c2 hg hk
        have HC0 := Lib.hid (fun (w' : World) (h : Below W5.heap.size W5 w') => ((h.cell (p := ⟨b, off + i * 3, none⟩) hb).trans c0))
        have HC1 := Lib.hid (fun (w' : World) (h : Below W5.heap.size W5 w') => ((h.cell (p := ⟨b, off + i * 3 + 1, none⟩) hb).trans c1))
        have HC2 := Lib.hid (fun (w' : World) (h : Below W5.heap.size W5 w') => ((h.cell (p := ⟨b, off + i * 3 + 2, none⟩) hb).trans c2))
        have HG := Lib.hid hg
        have HK := Lib.hid hk
        have HN := Lib.hid hn
        have HPp := Lib.hid hp
        have HIR := Lib.hid (And.intro hir hi)
        have hi200 : i < 200 := by have := HQ.out; omega
        clear hcell hc c0 c1 c2 hg hk hn hp hcc hb
        have c0 := HC0.out _ hbw
        have c1 := HC1.out _ hbw
        have c2 := HC2.out _ hbw
        clear hbw
        by_cases h6 : K = 6
        · subst h6
          go_wp2_with fail
          refine (ralign_rs hin.out (by have := HPp.out; omega) _ rfl).mono ?_
          rintro e W7 ⟨rfl, hrs⟩
          have HR7 := Lib.hid hrs
          clear hrs hin c0 c1 c2
          go_wp2_with fail
          go_roundg (cs.length - (i + 1))
          case measure => have := HIR.out; omega
          case rel => exact ⟨i + 1, by have := HIR.out; omega, by go_num, Lib.hid (by rw [HN.out]; exact HR7.out)⟩
        · have b6 : (K == 6) = false := by simpa using h6
          have hnn := (HG.out h6).1
          have HN2 : Hid ((stepZ sp ⟨K, n, k⟩).2 = sp.2 + k) := Lib.hid (by unfold stepZ; rw [if_neg h6])
          go_wp2_with fail
          refine (get_rs hin.out k n HK.out (HG.out h6).2 (by have := HQ.out; omega) hnn _ rfl).mono ?_
          rintro e W7 ⟨rfl, hrs⟩
          have HR7 := Lib.hid hrs
          clear hrs hin c0 c1 c2 hnn
          have c0 := HC0.out _ HR7.out.below
          have c1 := HC1.out _ HR7.out.below
          have c2 := HC2.out _ HR7.out.below
          go_wp2_with fail
          go_roundg (cs.length - (i + 1))
          case measure => have := HIR.out; omega
          case rel => exact ⟨i + 1, by have := HIR.out; omega, by go_num, Lib.hid (by rw [HN.out, HN2.out]; exact HR7.out)⟩
      · have d1 : decide (i < cs.length) = false := decide_eq_false hi
        obtain rfl : i = cs.length := by omega
        have hin1 := hin.out
        rw [HEND.out] at hin1
        have HR6 := Lib.hid hin1
        clear hin hin1 hi hir
        go_wp2_with fail
        refine (ralign_rs HR6.out (by have := HQ.out; omega) QQ HQU.out).mono ?_
        rintro e W7 ⟨rfl, hrs⟩
        have HR7 := Lib.hid hrs
        clear hrs HR6
        go_wp2_with fail
        refine (rat_any _ _ _ _ _ _ HR7.out.rd).mono ?_
        rintro e _ ⟨rfl, rfl⟩
        have hbt := bits_any _ _ _ _ _ _ _ (HW1.out.frame (Keeps.of_below HR7.out.below (fun k => W5.heap.size ≤ k) (fun _ h _ => h)) (fun k hk => by have := wr_fp HW1.out k hk; omega))
        have eq8 : 8 * (QQ / 8) + (QQ - 8 * (QQ / 8)) = QQ := by have := HQ.out; omega
        rw [eq8] at hbt
        have HB7 := Lib.hid hbt
        clear hbt eq8
        go_wp2_with fail
        refine (HB7.out).mono ?_
        rintro e _ ⟨rfl, rfl⟩
        go_wp2_with fail
        refine (awake_any _).mono ?_
        rintro e W8 ⟨rfl, hb8⟩
        have HE := Lib.hid ((HBL.out.trans (HR7.out.below.mono HBL.out.size)).trans (hb8.mono (Nat.le_trans HBL.out.size HR7.out.below.size)))
        clear hb8
        go_wp2_with fail
        go_ret
        exact ⟨rfl, HE.out⟩
end Go.Proofs.Ytdjnpgkgiofnnaa.Back
