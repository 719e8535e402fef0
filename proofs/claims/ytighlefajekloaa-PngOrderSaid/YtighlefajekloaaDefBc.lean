/- Package deflate: block. -/
import Derived.Test.YtighlefajekloaaDefBb
import Derived.Deep.CutBlock
import Derived.Deep.CutRange
set_option linter.unusedVariables false
set_option linter.unusedSimpArgs false
namespace Go.Proofs.Ytighlefajekloaa.DefBc
open Go.RowKit Go.Sort BitsM Base Low BitsW BitsX BitsS MapA DefM DefN DefO DefS DefT DefR DefU DefV DefW DefX DefY DefZ DefBa DefBb Qb Qt Qp Qy Rec
theorem keeps_cell {D : Nat → Prop} {w w' : World} (h : Keeps D w w') {g : Nat} {o : Obj} (hg : w.heap[g]? = some o) (hD : ¬ D g) {j : Nat} : w'.cell? ⟨g, j, none⟩ = w.cell? ⟨g, j, none⟩ := World.cell?_of_block (a := ⟨g, j, none⟩) (h.block g (lt_of_heap hg) hD)
theorem keeps_cell2 {D : Nat → Prop} {w w' : World} (h : Keeps D w w') {g : Nat} (hg : g < w.heap.size) (hD : ¬ D g) {j : Nat} : w'.cell? ⟨g, j, none⟩ = w.cell? ⟨g, j, none⟩ := World.cell?_of_block (a := ⟨g, j, none⟩) (h.block g hg hD)
theorem sum_le (l : List (Nat × Nat)) (h : ∀ f ∈ l, Fit f) (k : Nat) : ((l.take k).map Prod.snd).sum ≤ 16 * k := by
  induction k generalizing l with
  | zero => simp
  | succ k ih =>
    cases l with
    | nil => simp
    | cons f l =>
      have h1 := (h f (List.mem_cons_self ..)).2
      have h2 := ih l (fun x hx => h x (List.mem_cons_of_mem _ hx))
      simp only [List.take_succ_cons, List.map_cons, List.sum_cons]
      omega
theorem sum_next (l : List (Nat × Nat)) (k : Nat) (h : k < l.length) : ((l.take (k + 1)).map Prod.snd).sum = ((l.take k).map Prod.snd).sum + l[k].2 := by
  rw [List.take_succ_eq_append_getElem h, List.map_append, List.sum_append]; simp
theorem part_next (B : List Nat) (S b k : Nat) (hk : k < b - S) (hb : b ≤ B.length) : (DefN.part B S b).take (k + 1) = (DefN.part B S b).take k ++ [B.getD (S + k) 0] := by
  have hl := part_len B S b hb
  rw [List.take_succ_eq_append_getElem (by omega)]
  congr 1
  unfold DefN.part
  simp [List.getD_eq_getElem?_getD, List.getElem?_eq_getElem (show S + k < B.length by omega)]
theorem part_bits (l : List Nat) : (l.map (fun x => (x, 8))).flatMap fldB = l.flatMap (fun b => bitsOf b 8) := by
  rw [List.flatMap_map]; rfl
theorem xor_all2 : ∀ q : Nat, q < 65 → ∀ r : Nat, r < 64 → bits .xor .u32 ((64 * q + r : Nat) : Int) 65535 = ((65535 - (64 * q + r) : Nat) : Int) := by decide +kernel
theorem xor_all (n : Nat) (h : n < 4097) : bits .xor .u32 (n : Int) 65535 = ((65535 - n : Nat) : Int) := by
  have := xor_all2 (n / 64) (by omega) (n % 64) (by omega)
  rw [Nat.div_add_mod] at this
  exact this
theorem wrap64 {x : Int} (h1 : -9223372036854775808 ≤ x) (h2 : x ≤ 9223372036854775807) : IntKind.i64.wrap x = x := by rw [IntKind.wrap_i64]; omega
set_option maxRecDepth 100000 in
set_option maxHeartbeats 4000000 in
theorem block_any (base : Nat) (w : World) (s : Dg) (L : List Bool) (T : Nat) (B : List Nat) (S N Z Z1 b : Nat) (last : Bool) (h : Ds base w s false L T B S N Z) (hSb : S ≤ b) (hb : b ≤ B.length) (hlen : b - S ≤ 4096) (hB : B.length ≤ 100000) (hN : N ≤ S) (hN2 : N = 0 ∨ N + 2 ≤ B.length) (hL : L.length ≤ 1099511627776)
    (hpr : ∀ w1, Ds base w1 s false L T B S N Z → Calls Try.prog 58 #[.pointer (some ⟨s.gW, 0, none⟩)] w1 fun e w' => e = .returned (.tuple #[]) ∧ ∃ s', Ds base w' s' false L T B S N Z1 ∧ Ev w1 s w' s') :
    Calls Try.prog 50 #[.pointer (some ⟨s.gW, 0, none⟩), .int .i64 (b : Int), .bool last] w fun e w' => e = .returned (.tuple #[]) ∧ ∃ s' N', Ds base w' s' false (blkB B S b last.toNat L) T B b N' Z1 ∧ Ev w s w' s' ∧ N' ≤ b ∧ (N' = 0 ∨ N' + 2 ≤ B.length) := by
  have HN0 := Lib.hid (heap_alloc_new w (.cells #[.int .u32 0, .int .i64 0] 106))
  have HB0 := Lib.hid (ext_alloc w (.cells #[.int .u32 0, .int .i64 0] 106))
  have HDS := Lib.hid h
  have HPR := Lib.hid hpr
  have HT := Lib.hid (tokens_ok B h.kept.bound S b hb)
  obtain ⟨FULL, hFULL⟩ : ∃ FULL, FULL = blkT last.toNat (tokens B S b) := ⟨_, rfl⟩
  have HFULL := Lib.hid hFULL
  clear h hpr hFULL
  go_enter Try.func50, Try.ntmps50
  go_upto_region 1 with (with_reducible refine store_f rfl (.tmp 6) (.tmp 20) rfl rfl w.heap.size 0 1 rfl rfl _ HN0.out rfl ?_)
  have HN1 := Lib.hid (show ((w.alloc (.cells #[.int .u32 0, .int .i64 0] 106)).setRow w.heap.size #[.int .u32 0, .int .i64 1]).heap[w.heap.size]? = some (.cells #[.int .u32 0, .int .i64 1] 106) from setRow_heap _ _ _ _ _ _ HN0.out)
  have HB1 := Lib.hid (show Below w.heap.size w ((w.alloc (.cells #[.int .u32 0, .int .i64 0] 106)).setRow w.heap.size #[.int .u32 0, .int .i64 1]) from below_setRow_new HB0.out (Nat.le_refl _) _)
  obtain ⟨w1, hw1⟩ : ∃ ww, ww = (w.alloc (.cells #[.int .u32 0, .int .i64 0] 106)).setRow w.heap.size #[.int .u32 0, .int .i64 1] := ⟨_, rfl⟩
  rw [← hw1] at HN1 HB1 ⊢
  obtain ⟨g6, hg6⟩ : ∃ g, g = w.heap.size := ⟨_, rfl⟩
  have HG6 := Lib.hid hg6
  rw [← hg6] at HN1 ⊢
  clear hw1 HN0 HB0 hg6
  go_upto_if 21 with (fail)
  go_cut [] from 22 to 22 (fun wc => Hid (wc.heap[g6]? = some (.cells #[.int .u32 ((last.toNat : Nat) : Int), .int .i64 1] 106) ∧ Below w.heap.size w wc))
  case first =>
    cases last with
    | false =>
      go_wp2_with fail
      go_meet
      case rel => exact Lib.hid ⟨HN1.out, HB1.out⟩
    | true =>
      have fz := frozen_of_row _ _ 0 _ _ HN1.out
      have c0 := cell_of_row _ _ 0 _ _ _ HN1.out
      simp only [List.getElem?_toArray, List.getElem?_cons_succ, List.getElem?_cons_zero] at c0
      go_wp2_with fail
      go_meet
      case rel =>
        refine Lib.hid ⟨?_, ?_⟩
        · exact heap_setCell_same _ _ _ _ _ _ HN1.out
        · exact ((Keeps.of_ext HB1.out (fun k => k = g6)).setCell g6 0 _ (.inl rfl)).below _ (Nat.le_refl _) (fun k e => by rw [e, HG6.out]; exact Nat.le_refl _)
  case rest =>
    obtain ⟨hc1, hc2⟩ := hcut.out
    have HD3 := Lib.hid (HDS.out.ext hc2)
    have HN3 := Lib.hid hc1
    have HB3 := Lib.hid hc2
    clear hcut hc1 hc2 HN1 HB1
    have R2 := build_two
    go_wp2_with fail
    refine (HPR.out wc HD3.out).mono ?_
    rintro e W3 ⟨rfl, s1, hd, he⟩
    have n6 : ¬ s1.own g6 := by
      intro h2
      rcases he.fresh g6 h2 with h3 | h3
      · have := (HDS.out.low g6 h3).2; have := HG6.out; omega
      · have := lt_of_heap HN3.out; omega
    have HN4 := Lib.hid ((he.keeps.block g6 (lt_of_heap HN3.out) (fun h3 => by have := (HDS.out.low g6 h3).2; have := HG6.out; omega)).trans HN3.out)
    have hev : Ev w s W3 s1 := ((Ev.refl w s).ext HB3.out).trans he
    have hsz := hev.keeps.size
    have c0 := cell_of_row _ _ 0 _ _ _ HN4.out
    have c1 := cell_of_row _ _ 1 _ _ _ HN4.out
    simp only [List.getElem?_toArray, List.getElem?_cons_succ, List.getElem?_cons_zero] at c0 c1
    have HLP := Lib.hid (show Lp base w s L T B S Z1 g6 #[.int .u32 ((last.toNat : Nat) : Int), .int .i64 1] (W3.alloc (.cells #[.int .u32 ((last.toNat : Nat) : Int), .int .i64 1, .int .u32 1, .int .i64 2] 106)) s1 N (.slice (some ⟨W3.heap.size, 0, none⟩) 2 2) [(last.toNat, 1), (1, 2)] from by
      have hx := ext_alloc W3 (.cells #[.int .u32 ((last.toNat : Nat) : Int), .int .i64 1, .int .u32 1, .int .i64 2] 106)
      refine ⟨hd.ext hx, hev.ext hx, recs_own_new W3 _ hsz [(last.toNat, 1), (1, 2)] _ rfl (by simp [maxLen]), ?_, (hx.block g6 (lt_of_heap HN4.out)).trans HN4.out, n6, by rw [HG6.out]; exact Nat.le_refl _⟩
      intro k hk
      simp only [Value.ownBlock, Option.some.injEq] at hk
      subst hk
      exact ⟨fun h2 => by have := (hd.low _ h2).2; omega, fun h2 => by have := lt_of_heap HN4.out; omega⟩)
    clear hd he n6 hev hsz HN4 HD3 HN3 HB3 HDS HPR
    go_upto_region 5 with (fail)
    obtain ⟨W4, hW4⟩ : ∃ ww, ww = W3.alloc (.cells #[.int .u32 ((last.toNat : Nat) : Int), .int .i64 1, .int .u32 1, .int .i64 2] 106) := ⟨_, rfl⟩
    rw [← hW4] at HLP ⊢
    obtain ⟨gf, hgf⟩ : ∃ g, g = W3.heap.size := ⟨_, rfl⟩
    rw [← hgf] at HLP ⊢
    clear hW4 hgf c0 c1 R2
    obtain ⟨hc2, hc3, hc4, hc5⟩ := HLP.out.cells
    go_upto_region 6 with (fail)
    go_loopw [7, 8] (fun v7 v8 wr => ∃ (i : Nat) (s1 : Dg) (N1 : Nat) (l : List (Nat × Nat)), S ≤ i ∧ i ≤ b ∧ N1 ≤ i ∧ (N1 = 0 ∨ N1 + 2 ≤ B.length) ∧ v8 = .int .i64 (i : Int) ∧ Lp base w s L T B S Z1 g6 #[.int .u32 ((last.toNat : Nat) : Int), .int .i64 1] wr s1 N1 v7 l ∧ l.length ≤ 2 + 4 * (i - S) ∧ l ++ ((tokens B i b).flatMap tokT ++ [symT 256]) = FULL) (fun _ v8 _ => b - (intOf v8).toNat)
    case atStart => exact ⟨S, s1, N, [(last.toNat, 1), (1, 2)], Nat.le_refl _, hSb, hN, hN2, rfl, HLP.out, by simp, by rw [HFULL.out]; rfl⟩
    case round =>
      obtain ⟨i, s2, N2, l, hSi, hib, hNi, hN3, rfl, hlp, hll, hfl⟩ := hrel
      have HLP2 := Lib.hid hlp
      have HFL := Lib.hid hfl
      clear hlp hfl HLP hc2 hc3 hc4 hc5
      by_cases hlt : i < b
      · have d1 : decide ((i : Int) < (b : Int)) = true := decide_eq_true (by omega)
        go_wp2_with fail
        refine (HLP2.out.match_ i b hib hb hB hNi hN3).mono ?_
        rintro e W5 ⟨n, d, s3, N3, rfl, hlp, hN4, hN5, hway⟩
        have HLP5 := Lib.hid hlp
        clear hlp HLP2
        rcases hway with ⟨h3, hnd⟩ | ⟨h3, hn3⟩
        · have hm1 := match_le B i b
          have hm2 := match_far B i b h3
          have htk := tokens_mat B i b hlt h3
          rw [← hnd] at hm1 hm2 htk h3
          simp only at hm1 hm2 htk h3
          have HTK := Lib.hid htk
          have d2 : decide ((3 : Int) ≤ (n : Int)) = true := decide_eq_true (by omega)
          have e2 : IntKind.i64.wrap ((i : Int) + (n : Int)) = ((i + n : Nat) : Int) := by rw [IntKind.wrap_i64]; omega
          clear htk
          have HND := Lib.hid hnd
          clear hnd
          go_wp2_with fail
          refine (HLP5.out.matched n d h3 (by omega) hm2.1 hm2.2.2 (by omega)).mono ?_
          rintro e W6 ⟨v6, rfl, hlp⟩
          have HLP6 := Lib.hid hlp
          clear hlp HLP5
          go_wp2_with fail
          refine ⟨⟨i + n, s3, N3, l ++ tokT (.mat n d), by omega, by omega, by omega, hN5, rfl, HLP6.out, ?_, ?_⟩, by simp only [intOf]; omega⟩
          · have := tok_len (.mat n d)
            rw [List.length_append]; omega
          · rw [← HFL.out, HTK.out, List.flatMap_cons]; simp only [List.append_assoc]
        · have htk := tokens_lit B i b hlt h3
          have HTK := Lib.hid htk
          have d2 : decide ((3 : Int) ≤ (n : Int)) = false := decide_eq_false (by omega)
          have e2 : IntKind.i64.wrap ((i : Int) + 1) = ((i + 1 : Nat) : Int) := by rw [IntKind.wrap_i64]; omega
          clear htk
          go_upto_region 11 with (fail)
          obtain ⟨x, hx⟩ : ∃ x, B.getD i 0 = x := ⟨_, rfl⟩
          have hx8 : x < 256 := by rw [← hx]; exact getD_lt HLP5.out.kept.bound i
          obtain ⟨r5, w5, hs5⟩ : ∃ r5 w5, symT x = (r5, w5) := ⟨_, _, rfl⟩
          have HS5 := Lib.hid hs5
          obtain ⟨bK, oK, cK, hvK, hcK1, hcK2⟩ := HLP5.out.kept.nums.cells (by intro e; rw [e] at hb; simp at hb; omega)
          have hcx := hcK2 i (by omega)
          have hBx : B[i]'(by omega) = x := by rw [← hx]; simp [List.getD_eq_getElem?_getD, List.getElem?_eq_getElem (show i < B.length by omega)]
          rw [hBx] at hcx
          have HX := Lib.hid hx
          have HVK := Lib.hid hvK
          have HCX := Lib.hid hcx
          have hown3 := HLP5.out.ownK bK (by rw [hvK]; rfl)
          have HOK := Lib.hid (show ∀ k, own u7 k → ¬ k = bK ∧ ¬ k = s.gW from fun k hk => ⟨fun e => (HLP5.out.dis k hk).1 (by rw [e]; exact hown3), fun e => (HLP5.out.dis k hk).1 (by rw [e]; exact HLP5.out.ownW)⟩)
          clear hs5 hx hvK hcx hBx hcK1 hcK2 hown3
          have e3 : IntKind.i64.wrap (i : Int) = (i : Int) := by rw [IntKind.wrap_i64]; omega
          have e4 : IntKind.i64.wrap (x : Int) = (x : Int) := by rw [IntKind.wrap_i64]; omega
          have hiB : i < B.length := by omega
          have hrec := HLP5.out.rec_
          have HD := Lib.hid (show FD 2 encF 106 w.heap.size W5.heap.size (Keeps (own u7) W5) u7 l [((r5, w5) : Nat × Nat)] #[.int .u32 (r5 : Int), .int .i64 (w5 : Int)] .p0 W5 from ⟨Keeps.refl _ _, hrec⟩)
          clear hrec
          refine wp_region_script [(true, 0), (true, 1), (true, 2), (true, 3), (true, 4), (true, 5), (true, 6), (true, 7), (true, 8), (true, 9), (true, 10), (true, 11), (true, 12), (true, 13), (true, 14), (false, 15), (false, 16), (true, 17)] (FD 2 encF 106 w.heap.size W5.heap.size (Keeps (own u7) W5) u7 l [((r5, w5) : Nat × Nat)] #[.int .u32 (r5 : Int), .int .i64 (w5 : Int)]) .p0 (by kernel_rfl) (by kernel_rfl) (HD.out.step (fun _ _ => own_step) ⟨rfl, rfl, rfl, Nat.le_refl _, fun _ _ => rfl⟩) ?_
          refine Scr.quiet (A := ?A1) (o := ?o1) (fun s9 w9 w8 h9 hb9 => h9.step (fun _ _ => own_step) hb9) _ W5 HD.out ?e1 ?w1 51 ?d1 (by simp) ?h1 ?n1
          case e1 => simp only [List.getElem?_toArray, List.getElem?_cons_succ, List.getElem?_cons_zero]; exact rfl
          case w1 => exact rfl
          case d1 => exact rfl
          case h1 =>
            intro s9 w9 h9
            go_big_quiet_op
            exact rfl
          refine Scr.quiet (A := ?A2) (o := ?o2) (fun s9 w9 w8 h9 hb9 => h9.step (fun _ _ => own_step) hb9) _ W5 HD.out ?e2 ?w2 52 ?d2 (by simp) ?h2 ?n2
          case e2 => simp only [List.getElem?_toArray, List.getElem?_cons_succ, List.getElem?_cons_zero]; exact rfl
          case w2 => exact rfl
          case d2 => exact rfl
          case h2 =>
            intro s9 w9 h9
            go_big_quiet_op
            exact rfl
          refine Scr.quiet (A := ?A3) (o := ?o3) (fun s9 w9 w8 h9 hb9 => h9.step (fun _ _ => own_step) hb9) _ W5 HD.out ?e3 ?w3 53 ?d3 (by simp) ?h3 ?n3
          case e3 => simp only [List.getElem?_toArray, List.getElem?_cons_succ, List.getElem?_cons_zero]; exact rfl
          case w3 => exact rfl
          case d3 => exact rfl
          case h3 =>
            intro s9 w9 h9
            go_big_quiet_op
            exact rfl
          refine Scr.quiet (A := ?A4) (o := ?o4) (fun s9 w9 w8 h9 hb9 => h9.step (fun _ _ => own_step) hb9) _ W5 HD.out ?e4 ?w4 54 ?d4 (by simp) ?h4 ?n4
          case e4 => simp only [List.getElem?_toArray, List.getElem?_cons_succ, List.getElem?_cons_zero]; exact rfl
          case w4 => exact rfl
          case d4 => exact rfl
          case h4 =>
            intro s9 w9 h9
            go_big_quiet_op
            exact rfl
          refine Scr.quiet (A := ?A5) (o := ?o5) (fun s9 w9 w8 h9 hb9 => h9.step (fun _ _ => own_step) hb9) _ W5 HD.out ?e5 ?w5 55 ?d5 (by simp) ?h5 ?n5
          case e5 => simp only [List.getElem?_toArray, List.getElem?_cons_succ, List.getElem?_cons_zero]; exact rfl
          case w5 => exact rfl
          case d5 => exact rfl
          case h5 =>
            intro s9 w9 h9
            have q0 := fun d os => cell_regrown (show w9.cell? ⟨s.gW, 3, none⟩ = some (.slice (some ⟨bK, oK, none⟩) B.length cK) from (keeps_cell h9.j HLP5.out.row_ (fun h => (HOK.out _ h).2 rfl)).trans (HLP5.out.cells.2.1.trans (congrArg some HVK.out))) d os
            go_big_quiet_op
            exact rfl
          refine Scr.quiet (A := ?A6) (o := ?o6) (fun s9 w9 w8 h9 hb9 => h9.step (fun _ _ => own_step) hb9) _ W5 HD.out ?e6 ?w6 56 ?d6 (by simp) ?h6 ?n6
          case e6 => simp only [List.getElem?_toArray, List.getElem?_cons_succ, List.getElem?_cons_zero]; exact rfl
          case w6 => exact rfl
          case d6 => exact rfl
          case h6 =>
            intro s9 w9 h9
            go_big_quiet_op
            exact rfl
          refine Scr.quiet (A := ?A7) (o := ?o7) (fun s9 w9 w8 h9 hb9 => h9.step (fun _ _ => own_step) hb9) _ W5 HD.out ?e7 ?w7 57 ?d7 (by simp) ?h7 ?n7
          case e7 => simp only [List.getElem?_toArray, List.getElem?_cons_succ, List.getElem?_cons_zero]; exact rfl
          case w7 => exact rfl
          case d7 => exact rfl
          case h7 =>
            intro s9 w9 h9
            go_big_quiet_op
            exact rfl
          refine Scr.quiet (A := ?A8) (o := ?o8) (fun s9 w9 w8 h9 hb9 => h9.step (fun _ _ => own_step) hb9) _ W5 HD.out ?e8 ?w8 58 ?d8 (by simp) ?h8 ?n8
          case e8 => simp only [List.getElem?_toArray, List.getElem?_cons_succ, List.getElem?_cons_zero]; exact rfl
          case w8 => exact rfl
          case d8 => exact rfl
          case h8 =>
            intro s9 w9 h9
            go_big_quiet_op
            exact rfl
          refine Scr.quiet (A := ?A9) (o := ?o9) (fun s9 w9 w8 h9 hb9 => h9.step (fun _ _ => own_step) hb9) _ W5 HD.out ?e9 ?w9 59 ?d9 (by simp) ?h9 ?n9
          case e9 => simp only [List.getElem?_toArray, List.getElem?_cons_succ, List.getElem?_cons_zero]; exact rfl
          case w9 => exact rfl
          case d9 => exact rfl
          case h9 =>
            intro s9 w9 h9
            go_big_quiet_op
            exact rfl
          refine Scr.quiet (A := ?A10) (o := ?o10) (fun s9 w9 w8 h9 hb9 => h9.step (fun _ _ => own_step) hb9) _ W5 HD.out ?e10 ?w10 60 ?d10 (by simp) ?h10 ?n10
          case e10 => simp only [List.getElem?_toArray, List.getElem?_cons_succ, List.getElem?_cons_zero]; exact rfl
          case w10 => exact rfl
          case d10 => exact rfl
          case h10 =>
            intro s9 w9 h9
            have q0 := fun d os => cell_regrown (show w9.cell? ⟨s.gW, 4, none⟩ = some (.int .i64 0) from (keeps_cell h9.j HLP5.out.row_ (fun h => (HOK.out _ h).2 rfl)).trans (HLP5.out.cells.2.2.1)) d os
            go_big_quiet_op
            exact rfl
          refine Scr.quiet (A := ?A11) (o := ?o11) (fun s9 w9 w8 h9 hb9 => h9.step (fun _ _ => own_step) hb9) _ W5 HD.out ?e11 ?w11 61 ?d11 (by simp) ?h11 ?n11
          case e11 => simp only [List.getElem?_toArray, List.getElem?_cons_succ, List.getElem?_cons_zero]; exact rfl
          case w11 => exact rfl
          case d11 => exact rfl
          case h11 =>
            intro s9 w9 h9
            go_big_quiet_op
            exact rfl
          refine Scr.quiet (A := ?A12) (o := ?o12) (fun s9 w9 w8 h9 hb9 => h9.step (fun _ _ => own_step) hb9) _ W5 HD.out ?e12 ?w12 62 ?d12 (by simp) ?h12 ?n12
          case e12 => simp only [List.getElem?_toArray, List.getElem?_cons_succ, List.getElem?_cons_zero]; exact rfl
          case w12 => exact rfl
          case d12 => exact rfl
          case h12 =>
            intro s9 w9 h9
            go_big_quiet_op
            exact rfl
          refine Scr.quiet (A := ?A13) (o := ?o13) (fun s9 w9 w8 h9 hb9 => h9.step (fun _ _ => own_step) hb9) _ W5 HD.out ?e13 ?w13 63 ?d13 (by simp) ?h13 ?n13
          case e13 => simp only [List.getElem?_toArray, List.getElem?_cons_succ, List.getElem?_cons_zero]; exact rfl
          case w13 => exact rfl
          case d13 => exact rfl
          case h13 =>
            intro s9 w9 h9
            have q0 := fun d os => cell_regrown (show w9.cell? ⟨bK, oK + i, none⟩ = some (.int .u8 (x : Int)) from (keeps_cell2 h9.j (HLP5.out.kept.lt bK (by rw [HVK.out]; rfl)).2 (fun h => (HOK.out _ h).1 rfl)).trans HCX.out) d os
            go_big_quiet_op
            exact rfl
          refine Scr.quiet (A := ?A14) (o := ?o14) (fun s9 w9 w8 h9 hb9 => h9.step (fun _ _ => own_step) hb9) _ W5 HD.out ?e14 ?w14 64 ?d14 (by simp) ?h14 ?n14
          case e14 => simp only [List.getElem?_toArray, List.getElem?_cons_succ, List.getElem?_cons_zero]; exact rfl
          case w14 => exact rfl
          case d14 => exact rfl
          case h14 =>
            intro s9 w9 h9
            go_big_quiet_op
            exact rfl
          refine Scr.quiet (A := ?A15) (o := ?o15) (fun s9 w9 w8 h9 hb9 => h9.step (fun _ _ => own_step) hb9) _ W5 HD.out ?e15 ?w15 65 ?d15 (by simp) ?h15 ?n15
          case e15 => simp only [List.getElem?_toArray, List.getElem?_cons_succ, List.getElem?_cons_zero]; exact rfl
          case w15 => exact rfl
          case d15 => exact rfl
          case h15 =>
            intro s9 w9 h9
            have R9 := Lib.hid (qb (W := w9) (v := .agg #[.int .u32 (r5 : Int), .int .i64 (w5 : Int)]) (fun w2 hb => symbol_at w2 x (by omega) r5 w5 HS5.out))
            go_big_quiet_op
            apply Exists.intro
            refine ⟨fun _ => ?_, ?_⟩
            · with_reducible exact R9.out _ _
            · exact rfl
          refine Scr.app (ob := ?rob) (oa := ?roa) fields (fun _ _ => own_step) (fun _ _ h _ hg => own_grown h hg) (fun _ h => Nat.le_trans HLP5.out.size h.size) (fun _ h => h.size) rfl (by simp; omega) (by simp; omega) 1 rfl ?reb ?rwb ?rrb ?rea ?rga (.tmp 51) (.tmp 66) ?roq ?ros ?rox ?_
          case reb => simp only [List.getElem?_toArray, List.getElem?_cons_succ, List.getElem?_cons_zero]; exact rfl
          case rwb => exact rfl
          case rrb => exact fun w9 => build_oneI w9 _ _ _ _ (.tmp 65) rfl rfl
          case rea => simp only [List.getElem?_toArray, List.getElem?_cons_succ, List.getElem?_cons_zero]; exact rfl
          case rga => exact rfl
          case roq => exact rfl
          case ros => exact fun _ => rfl
          case rox => exact fun _ => rfl
          intro gs v2
          simp only [Act.put, List.setIfInBounds_toArray, List.set_cons_succ, List.set_cons_zero]
          refine Scr.quiet (A := ?A16) (o := ?o16) (fun s9 w9 w8 h9 hb9 => h9.step (fun _ _ => own_step) hb9) _ W5 HD.out ?e16 ?w16 7 ?d16 (by simp) ?h16 ?n16
          case e16 => simp only [List.getElem?_toArray, List.getElem?_cons_succ, List.getElem?_cons_zero]; exact rfl
          case w16 => exact rfl
          case d16 => exact rfl
          case h16 =>
            intro s9 w9 h9
            go_big_quiet_op
            exact rfl
          rintro W6 ⟨h7, hf7, ho7⟩
          have HLP6 := Lib.hid (HLP5.out.fields hf7 h7 ho7)
          clear h7 hf7 ho7 HD HLP5 HOK HCX HVK
          go_wp2_with fail
          refine ⟨⟨i + 1, s3, N3, l ++ [((r5, w5) : Nat × Nat)], by omega, by omega, by omega, hN5, rfl, HLP6.out, ?_, ?_⟩, by simp only [intOf]; omega⟩
          · simp; omega
          · rw [← HFL.out, HTK.out, List.flatMap_cons, HX.out]; simp only [List.append_assoc, tokT, HS5.out]
      · have d1 : decide ((i : Int) < (b : Int)) = false := decide_eq_false (by omega)
        obtain rfl : b = i := by omega
        obtain ⟨r5, w5, hs5⟩ : ∃ r5 w5, symT 256 = (r5, w5) := ⟨_, _, rfl⟩
        have HS5 := Lib.hid hs5
        clear hs5
        have R1 := build_one
        go_wp2_with fail
        refine (symbol_at wr 256 (by omega) r5 w5 HS5.out).mono ?_
        rintro e W5 ⟨rfl, hb5⟩
        have hx := hb5.trans ((ext_alloc W5 (.cells #[.int .u32 (r5 : Int), .int .i64 (w5 : Int)] 106)).mono hb5.size)
        have HLP5 := Lib.hid (HLP2.out.ext hx)
        have HR := Lib.hid (recs_one fields.len 106 W5 ((r5, w5) : Nat × Nat) #[.int .u32 (r5 : Int), .int .i64 (w5 : Int)] rfl)
        clear hb5 hx HLP2
        go_upto_region 14 with (at_builtin; go_loud (refine wpList_append_recs rfl (.tmp 70) (.tmp 72) 107 106 rfl _ 16 w.heap.size fields u7 l rfl HLP5.out.rec_ _ [((r5, w5) : Nat × Nat)] rfl HR.out (by simp; omega) (by simp; omega) HLP5.out.size ?_; intro v7 W7 ho hg hv; have HLP7 := Lib.hid (HLP5.out.fields ho ((Keeps.refl (own u7) _).grown hg (fun k hk => .inl hk)) (hv.imp id (fun e k hk => by rw [e] at hk; cases hk; exact Nat.le_refl _))); clear ho hg hv))
        have hfull : l ++ [((r5, w5) : Nat × Nat)] = FULL := by rw [← HFL.out, tokens_end B b b (Nat.le_refl _), HS5.out]; rfl
        rw [hfull] at HLP7
        clear hfull HLP5 HR R1 HS5
        have hft := fit_blk last.toNat (by cases last <;> simp) (tokens B S b) HT.out
        rw [← HFULL.out] at hft
        obtain ⟨m, hm⟩ : ∃ m, m = FULL.length := ⟨_, rfl⟩
        have hml : m ≤ 2 + 4 * (b - S) + 1 := by rw [hm, ← HFL.out, tokens_end B b b (Nat.le_refl _)]; simp; omega
        have hm0 : 0 < m := by rw [hm, HFULL.out]; unfold blkT; simp
        have hne : FULL ≠ [] := by intro e; rw [e] at hm; simp at hm; omega
        obtain ⟨bF, oF, cF, hvF, hcF1, hcF2⟩ := (HLP7.out.rec_.recs fields.len).cells hne
        rw [← hm] at hvF
        subst hvF
        have HM := Lib.hid hm
        have HFT := Lib.hid hft
        have HCF := Lib.hid (show bF < W7.heap.size ∧ ∀ (k : Nat) (h : k < FULL.length) (w9 : World), Below W7.heap.size W7 w9 → w9.cell? ⟨bF, oF + k * 2, none⟩ = some (.int .u32 (FULL[k].1 : Int)) ∧ w9.cell? ⟨bF, oF + k * 2 + 1, none⟩ = some (.int .i64 (FULL[k].2 : Int)) from
          ⟨hcF1, fun k h w9 h9 => ⟨(h9.cell (p := ⟨bF, oF + k * 2, none⟩) hcF1).trans (hcF2 k h 0 _ rfl), (h9.cell (p := ⟨bF, oF + k * 2 + 1, none⟩) hcF1).trans (hcF2 k h 1 _ rfl)⟩⟩)
        clear hft hm hne hcF1 hcF2
        go_upto_region 16 with (fail)
        go_loopw [11, 76] (fun v11 v76 wr2 => ∃ k : Nat, k ≤ m ∧ v76 = .int .i64 (k : Int) ∧ v11 = .int .i64 ((((FULL.take k).map Prod.snd).sum : Nat) : Int) ∧ Below W7.heap.size W7 wr2) (fun _ v76 _ => m - (intOf v76).toNat)
        case atStart => exact ⟨0, Nat.zero_le _, rfl, by simp, Below.refl _ _⟩
        case round =>
          obtain ⟨k, hk, rfl, rfl, hbw⟩ := hrel
          have HBW := Lib.hid hbw
          clear hbw
          obtain ⟨sm, hsm⟩ : ∃ sm, ((FULL.take k).map Prod.snd).sum = sm := ⟨_, rfl⟩
          have hsl : sm ≤ 16 * k := by rw [← hsm]; exact sum_le FULL HFT.out k
          rw [hsm]
          have HSM := Lib.hid hsm
          clear hsm
          by_cases hkm : k < m
          · have d3 : decide ((k : Int) < (m : Int)) = true := decide_eq_true (by omega)
            have hkF : k < FULL.length := by rw [← HM.out]; exact hkm
            obtain ⟨q0, q1⟩ := HCF.out.2 k hkF wr HBW.out
            obtain ⟨fa, fb, hfab⟩ : ∃ fa fb, FULL[k] = (fa, fb) := ⟨_, _, rfl⟩
            have hfit := HFT.out FULL[k] (List.getElem_mem hkF)
            rw [hfab] at q0 q1 hfit
            have hfb : fb ≤ 16 := hfit.2
            have hsn := sum_next FULL k hkF
            rw [hfab, HSM.out] at hsn
            simp only at hsn q0 q1
            have HSN := Lib.hid hsn
            clear hfab hfit hsn
            have HN9 := Lib.hid (heap_alloc_new wr (.cells #[.int .u32 0, .int .i64 0] 106))
            have HB9 := Lib.hid (HBW.out.trans ((ext_alloc wr (.cells #[.int .u32 0, .int .i64 0] 106)).mono HBW.out.size))
            go_upto_region 18 with (with_reducible refine store_f rfl (.tmp 13) (.tmp 79) rfl rfl wr.heap.size (fa : Int) (fb : Int) rfl rfl _ HN9.out rfl ?_)
            have HR9 := Lib.hid (show ((wr.alloc (.cells #[.int .u32 0, .int .i64 0] 106)).setRow wr.heap.size #[.int .u32 (fa : Int), .int .i64 (fb : Int)]).heap[wr.heap.size]? = some (.cells #[.int .u32 (fa : Int), .int .i64 (fb : Int)] 106) from setRow_heap _ _ _ _ _ _ HN9.out)
            have HBX := Lib.hid (show Below W7.heap.size W7 ((wr.alloc (.cells #[.int .u32 0, .int .i64 0] 106)).setRow wr.heap.size #[.int .u32 (fa : Int), .int .i64 (fb : Int)]) from below_setRow_new HB9.out HBW.out.size _)
            obtain ⟨wx, hwx⟩ : ∃ ww, ww = (wr.alloc (.cells #[.int .u32 0, .int .i64 0] 106)).setRow wr.heap.size #[.int .u32 (fa : Int), .int .i64 (fb : Int)] := ⟨_, rfl⟩
            rw [← hwx] at HR9 HBX ⊢
            obtain ⟨gx, hgx⟩ : ∃ g, g = wr.heap.size := ⟨_, rfl⟩
            rw [← hgx] at HR9 ⊢
            clear hwx hgx HN9 HB9 q0 q1
            have q1 := cell_of_row _ _ 1 _ _ _ HR9.out
            simp only [List.getElem?_toArray, List.getElem?_cons_succ, List.getElem?_cons_zero] at q1
            have e5 : IntKind.i64.wrap ((sm : Int) + (fb : Int)) = ((sm + fb : Nat) : Int) := by rw [IntKind.wrap_i64]; omega
            have e6 : IntKind.i64.wrap ((k : Int) + 1) = ((k + 1 : Nat) : Int) := by rw [IntKind.wrap_i64]; omega
            go_wp2_with fail
            refine ⟨⟨k + 1, by omega, rfl, ?_, HBX.out⟩, by simp only [intOf]; omega⟩
            rw [HSN.out, Int.natCast_add]
          · have d3 : decide ((k : Int) < (m : Int)) = false := decide_eq_false (by omega)
            obtain rfl : m = k := by omega
            have HPK := Lib.hid (show (fixB last.toNat (tokens B S b)).length = sm from by
              rw [← HSM.out, HM.out, List.take_length, ← fields_len, HFULL.out, blk_fields _ _ HT.out])
            have HLP8 := Lib.hid (HLP7.out.ext HBW.out)
            have HO0 := Lib.hid (recs_own_off HLP7.out.rec_)
            obtain ⟨LL, hLL⟩ : ∃ x, L.length = x := ⟨_, rfl⟩
            have hbits := HLP8.out.bits
            rw [hLL] at hbits
            have HBT := Lib.hid hbits
            clear hbits HLP7 HCF HSM HFL hlt d1 d3
            obtain ⟨P3, hP3⟩ : ∃ x, x = LL + 3 := ⟨_, rfl⟩
            obtain ⟨r8, hr8⟩ : ∃ x, x = P3 % 8 := ⟨_, rfl⟩
            obtain ⟨q8, hq8⟩ : ∃ x, x = 8 - r8 := ⟨_, rfl⟩
            obtain ⟨fi, hfi⟩ : ∃ x, x = q8 % 8 := ⟨_, rfl⟩
            obtain ⟨ln, hln⟩ : ∃ x, x = b - S := ⟨_, rfl⟩
            obtain ⟨a4, ha4⟩ : ∃ x, x = 35 + fi + 8 * ln := ⟨_, rfl⟩
            have hLb : LL ≤ 1099511627776 := by rw [← hLL]; exact hL
            have e1 : IntKind.i64.wrap ((LL : Int) + 3) = (P3 : Int) := by rw [IntKind.wrap_i64]; omega
            have e2 : (P3 : Int).tmod 8 = (r8 : Int) := by rw [hr8]; rfl
            have e2b : (P3 : Int) % 8 = (r8 : Int) := by omega
            have e3 : IntKind.i64.wrap (8 - (r8 : Int)) = (q8 : Int) := by rw [IntKind.wrap_i64]; omega
            have e4 : (q8 : Int).tmod 8 = (fi : Int) := by rw [hfi]; rfl
            have e4b : (q8 : Int) % 8 = (fi : Int) := by omega
            have e5 : IntKind.i64.wrap ((b : Int) - (S : Int)) = (ln : Int) := by rw [IntKind.wrap_i64]; omega
            have e6 : IntKind.i64.wrap (3 + (fi : Int)) = ((3 + fi : Nat) : Int) := by rw [IntKind.wrap_i64]; omega
            have e7 : IntKind.i64.wrap (((3 + fi : Nat) : Int) + 32) = ((35 + fi : Nat) : Int) := by rw [IntKind.wrap_i64]; omega
            have e8 : IntKind.i64.wrap (8 * (ln : Int)) = ((8 * ln : Nat) : Int) := by rw [IntKind.wrap_i64]; omega
            have e9 : IntKind.i64.wrap (((35 + fi : Nat) : Int) + ((8 * ln : Nat) : Int)) = (a4 : Int) := by rw [IntKind.wrap_i64]; omega
            have HST := Lib.hid (show (storedB last.toNat L.length (DefN.part B S b)).length = a4 from by
              rw [stored_len, part_len B S b hb, hLL]; unfold al8; omega)
            have HLL := Lib.hid hLL
            have hln2 : ln ≤ 4096 := by omega
            have HLN := Lib.hid hln
            have HA4 := Lib.hid ha4
            clear hLL hP3 hr8 hq8 hfi ha4 hln
            obtain ⟨hc2, hc3, hc4, hc5⟩ := HLP8.out.cells
            go_upto_if 107 with (go_at_call 62; refine HBT.out.mono ?_; rintro e W9 ⟨rfl, rfl⟩)
            go_cut [7, 17] from 85 to 173 (fun v7 _ wc => ∃ (s3 : Dg) (FLs : List (Nat × Nat)) (L3 : List Bool) (bG oG cG : Nat), v7 = .slice (some ⟨bG, oG, none⟩) FLs.length cG ∧ Hid (Lp base w s L3 T B S Z1 g6 #[.int .u32 ((last.toNat : Nat) : Int), .int .i64 1] wc s3 N2 v7 FLs) ∧ Hid (∀ f ∈ FLs, Fit f) ∧ Hid (L3 ++ FLs.flatMap fldB = blkB B S b last.toNat L) ∧ L3.length ≤ 1099511627776 + 100 ∧ 0 < FLs.length + 1 ∧ FLs.length ≤ 20000)
            case first =>
              by_cases hst : a4 < sm
              · have d1 : decide (3 + (fi : Int) + 32 + 8 * (ln : Int) < (sm : Int)) = true := decide_eq_true (by have := HA4.out; omega)
                have d1p : 3 + (fi : Int) + 32 + 8 * (ln : Int) < (sm : Int) := by have := HA4.out; omega
                go_upto_region 23 with (fail)
                refine wp_region_script [(true, 0), (true, 1), (true, 2), (true, 3), (true, 4), (true, 5), (false, 6)] (PD base w s T B S Z1 g6 #[.int .u32 ((last.toNat : Nat) : Int), .int .i64 1] N2 (.slice (some ⟨bF, oF, none⟩) m cF) FULL wr) (s2, L) (by kernel_rfl) (by kernel_rfl) (PD.step ⟨HLP8.out, trivial⟩ ⟨rfl, rfl, rfl, Nat.le_refl _, fun _ _ => rfl⟩) ?_
                refine Scr.quiet (A := ?Ap1) (o := ?op1) (fun s9 w9 w8 h9 hb9 => PD.step h9 hb9) _ wr (show PD _ _ _ _ _ _ _ _ _ _ _ _ _ (s2, L) wr from ⟨HLP8.out, trivial⟩) ?ep1 ?wp1 108 ?dp1 (by simp) ?hp1 ?np1
                case ep1 => simp only [List.getElem?_toArray, List.getElem?_cons_succ, List.getElem?_cons_zero]; exact rfl
                case wp1 => exact rfl
                case dp1 => exact rfl
                case hp1 =>
                  intro s9 w9 h9
                  go_big_quiet_op
                  exact rfl
                refine Scr.quiet (A := ?Ap2) (o := ?op2) (fun s9 w9 w8 h9 hb9 => PD.step h9 hb9) _ wr (show PD _ _ _ _ _ _ _ _ _ _ _ _ _ (s2, L) wr from ⟨HLP8.out, trivial⟩) ?ep2 ?wp2 109 ?dp2 (by simp) ?hp2 ?np2
                case ep2 => simp only [List.getElem?_toArray, List.getElem?_cons_succ, List.getElem?_cons_zero]; exact rfl
                case wp2 => exact rfl
                case dp2 => exact rfl
                case hp2 =>
                  intro s9 w9 h9
                  go_big_quiet_op
                  exact rfl
                refine Scr.quiet (A := ?Ap3) (o := ?op3) (fun s9 w9 w8 h9 hb9 => PD.step h9 hb9) _ wr (show PD _ _ _ _ _ _ _ _ _ _ _ _ _ (s2, L) wr from ⟨HLP8.out, trivial⟩) ?ep3 ?wp3 110 ?dp3 (by simp) ?hp3 ?np3
                case ep3 => simp only [List.getElem?_toArray, List.getElem?_cons_succ, List.getElem?_cons_zero]; exact rfl
                case wp3 => exact rfl
                case dp3 => exact rfl
                case hp3 =>
                  intro s9 w9 h9
                  go_big_quiet_op
                  exact rfl
                refine Scr.quiet (A := ?Ap4) (o := ?op4) (fun s9 w9 w8 h9 hb9 => PD.step h9 hb9) _ wr (show PD _ _ _ _ _ _ _ _ _ _ _ _ _ (s2, L) wr from ⟨HLP8.out, trivial⟩) ?ep4 ?wp4 111 ?dp4 (by simp) ?hp4 ?np4
                case ep4 => simp only [List.getElem?_toArray, List.getElem?_cons_succ, List.getElem?_cons_zero]; exact rfl
                case wp4 => exact rfl
                case dp4 => exact rfl
                case hp4 =>
                  intro s9 w9 h9
                  have q0 := fun d os => cell_regrown h9.1.cells.1 d os
                  go_big_quiet_op
                  exact rfl
                refine Scr.quiet (A := ?Ap5) (o := ?op5) (fun s9 w9 w8 h9 hb9 => PD.step h9 hb9) _ wr (show PD _ _ _ _ _ _ _ _ _ _ _ _ _ (s2, L) wr from ⟨HLP8.out, trivial⟩) ?ep5 ?wp5 112 ?dp5 (by simp) ?hp5 ?np5
                case ep5 => simp only [List.getElem?_toArray, List.getElem?_cons_succ, List.getElem?_cons_zero]; exact rfl
                case wp5 => exact rfl
                case dp5 => exact rfl
                case hp5 =>
                  intro s9 w9 h9
                  go_big_quiet_op
                  exact rfl
                refine Scr.quiet (A := ?Ap6) (o := ?op6) (fun s9 w9 w8 h9 hb9 => PD.step h9 hb9) _ wr (show PD _ _ _ _ _ _ _ _ _ _ _ _ _ (s2, L) wr from ⟨HLP8.out, trivial⟩) ?ep6 ?wp6 113 ?dp6 (by simp) ?hp6 ?np6
                case ep6 => simp only [List.getElem?_toArray, List.getElem?_cons_succ, List.getElem?_cons_zero]; exact rfl
                case wp6 => exact rfl
                case dp6 => exact rfl
                case hp6 =>
                  intro s9 w9 h9
                  have q0 := fun d os => cell_regrown (show w9.cell? ⟨g6, 0, none⟩ = some (.int .u32 ((last.toNat : Nat) : Int)) from cell_of_row _ _ 0 _ _ _ h9.1.h6) d os
                  go_big_quiet_op
                  exact rfl
                refine Scr.call (o := ?co) 63 #[.pointer (some ⟨s.gO, 0, none⟩), .int .u32 ((last.toNat : Nat) : Int), .int .i64 1] (fun (v : Value) (σ : Dg × List Bool) => v = .int .i64 0 ∧ σ.2 = L ++ bitsOf last.toNat 1) ?ce ?cw ?cr ?cc ?_
                case ce => simp only [List.getElem?_toArray, List.getElem?_cons_succ, List.getElem?_cons_zero]; exact rfl
                case cw => exact rfl
                case cr => intro w9; simp [execOp, Act.eval, resolve, go_sem]
                case cc =>
                  rintro w9 ⟨h9, hs9⟩
                  refine (h9.put last.toNat 1 (by omega) (by cases last <;> simp) (by have := HLL.out; simp only; omega)).mono ?_
                  rintro e w8 ⟨rfl, s8, h8⟩
                  exact ⟨_, (s8, L ++ bitsOf last.toNat 1), rfl, ⟨rfl, rfl⟩, h8, trivial⟩
                rintro v10 ⟨s10, L10⟩ ⟨rfl, h10⟩
                simp only at h10
                subst h10
                simp only [Act.put, List.setIfInBounds_toArray, List.set_cons_succ, List.set_cons_zero]
                rintro W10 ⟨hlp, -⟩
                have HLP10 := Lib.hid hlp
                clear hlp
                obtain ⟨hc2, hc3, hc4, hc5⟩ := HLP10.out.cells
                go_wp2_with fail
                refine (HLP10.out.putI 0 2 (by omega) (by decide) (by have := HLL.out; simp [bitsOf_length]; omega) _ _ rfl rfl).mono ?_
                rintro e W11 ⟨rfl, s11, hlp⟩
                have HLP11 := Lib.hid hlp
                clear hlp HLP10 hc2 hc3 hc4 hc5
                obtain ⟨hc2, hc3, hc4, hc5⟩ := HLP11.out.cells
                go_wp2_with fail
                refine (HLP11.out.align (by have := HLL.out; simp [bitsOf_length]; omega)).mono ?_
                rintro e W12 ⟨rfl, s12, hlp⟩
                have HLP12 := Lib.hid hlp
                clear hlp HLP11 hc2 hc3 hc4 hc5
                obtain ⟨hc2, hc3, hc4, hc5⟩ := HLP12.out.cells
                have hal : (alig (L ++ bitsOf last.toNat 1 ++ bitsOf 0 2)).length ≤ 1099511627776 + 20 := by
                  have := HLL.out
                  have h8 := al8_ge (L ++ bitsOf last.toNat 1 ++ bitsOf 0 2).length
                  unfold alig
                  simp only [List.length_append, List.length_replicate, bitsOf_length] at h8 ⊢
                  omega
                go_wp2_with fail
                refine (HLP12.out.putI ln 16 (by omega) (by omega) (by omega) _ _ rfl rfl).mono ?_
                rintro e W13 ⟨rfl, s13, hlp⟩
                have HLP13 := Lib.hid hlp
                clear hlp HLP12 hc2 hc3 hc4 hc5
                obtain ⟨hc2, hc3, hc4, hc5⟩ := HLP13.out.cells
                go_wp2_with fail
                refine (HLP13.out.putI (65535 - ln) 16 (by omega) (by omega) (by rw [List.length_append, bitsOf_length]; omega) _ _ (xor_all ln (by omega)) rfl).mono ?_
                rintro e W14 ⟨rfl, s14, hlp⟩
                have HLP14 := Lib.hid hlp
                clear hlp HLP13 hc2 hc3 hc4 hc5
                obtain ⟨L5, hL5⟩ : ∃ x, x = alig (L ++ bitsOf last.toNat 1 ++ bitsOf 0 2) ++ bitsOf ln 16 ++ bitsOf (65535 - ln) 16 := ⟨_, rfl⟩
                rw [← hL5] at HLP14
                have HL5L := Lib.hid (show L5.length ≤ 1099511627776 + 52 from by rw [hL5]; simp only [List.length_append, bitsOf_length]; omega)
                have HL5 := Lib.hid hL5
                clear hL5 hal
                have HLP15 := Lib.hid (show Lp base w s L5 T B S Z1 g6 #[.int .u32 ((last.toNat : Nat) : Int), .int .i64 1] W14 s14 N2 (.slice (some ⟨bF, oF, none⟩) 0 cF) [] from
                  HLP14.out.fields (recs_own_zero HLP14.out.rec_) (Keeps.refl _ _) (.inl rfl))
                clear HLP14
                obtain ⟨hc2, hc3, hc4, hc5⟩ := HLP15.out.cells
                have hln0 : 0 < ln := by
                  rcases Nat.eq_zero_or_pos ln with h0 | h0
                  · exfalso
                    have := HPK.out
                    rw [tokens_end B S b (by have := HLN.out; omega)] at this
                    have h1 : (fixB last.toNat []).length = 10 := by unfold fixB; simp [bitsOf_length, symB_len, symF]
                    have := HA4.out
                    omega
                  · exact h0
                have hB0 : 0 < B.length := by have := HLN.out; omega
                obtain ⟨bK, oK, cK, hvK, hbK, -⟩ := HLP15.out.kept.nums.cells (by intro e; rw [e] at hB0; simp at hB0)
                obtain ⟨aK, cK', hvK', hcK⟩ := HLP15.out.kept.nums.shape
                have hcc : cK' = cK := by rw [hvK] at hvK'; simp only [Value.slice.injEq] at hvK'; omega
                rw [hcc] at hcK
                have hcap : B.length ≤ cK := hcK.1
                have hcap2 : cK ≤ 9223372036854775807 := by have := hcK.2.1; unfold maxLen at this; omega
                have f3 := fun d os => cell_regrown (hc3.trans (congrArg some hvK)) d os
                have f4 := fun d os => cell_regrown hc4 d os
                have f5 := fun d os => cell_regrown hc5 d os
                have HVK := Lib.hid hvK
                have hcS : ¬ cK = S := by have := HLN.out; omega
                clear hvK hcK hvK' hcc
                go_upto_region 29 with (fail)
                refine wp_region_quiet_below (by kernel_rfl) (by kernel_rfl) ?_
                repeat (go_big_quiet_step (fail))
                refine wpQuiet_nil ?_
                first | (rintro _ ⟨⟨dq, osq⟩, rfl⟩) | (rintro ⟨dq, osq⟩)
                have hb := below_regrown W14 dq osq
                obtain ⟨W16, hW16⟩ : ∃ ww, ww = grow (redrawn W14 dq) osq := ⟨_, rfl⟩
                rw [← hW16] at hb ⊢
                clear hW16 f3 f4 f5 hc2 hc3 hc4 hc5
                have HLP16 := Lib.hid (HLP15.out.ext hb)
                clear hb HLP15
                go_upto_region 30 with (fail)
                have HPL := Lib.hid (part_len B S b hb)
                have R1 := build_one
                go_loopw [7, 163] (fun v7 v163 wr3 => ∃ k : Nat, k ≤ ln ∧ v163 = .int .i64 (k : Int) ∧ Lp base w s L5 T B S Z1 g6 #[.int .u32 ((last.toNat : Nat) : Int), .int .i64 1] wr3 s14 N2 v7 (((DefN.part B S b).take k).map (fun x => (x, 8)))) (fun _ v163 _ => ln - (intOf v163).toNat)
                case atStart => exact ⟨0, Nat.zero_le _, rfl, HLP16.out⟩
                case round =>
                  obtain ⟨k, hk, rfl, hlp⟩ := hrel
                  have HLP17 := Lib.hid hlp
                  clear hlp HLP16 d1 d1p
                  by_cases hkl : k < ln
                  · have d3 : decide ((k : Int) < (ln : Int)) = true := decide_eq_true (by omega)
                    obtain ⟨x, hx⟩ : ∃ x, B.getD (S + k) 0 = x := ⟨_, rfl⟩
                    have hx8 : x < 256 := by rw [← hx]; exact getD_lt HLP17.out.kept.bound _
                    have q0 := HLP17.out.keptCell HVK.out (S + k) (by have := HLN.out; omega)
                    rw [hx, ← Nat.add_assoc] at q0
                    have hpn := part_next B S b k (by have := HLN.out; omega) hb
                    rw [hx] at hpn
                    have HPN := Lib.hid hpn
                    clear hpn hx
                    have eb : ((k : Int) < ((b - S : Nat) : Int)) := by have := HLN.out; omega
                    have hkb : k < b - S := by have := HLN.out; omega
                    have e6 : IntKind.i64.wrap ((k : Int) + 1) = ((k + 1 : Nat) : Int) := by rw [IntKind.wrap_i64]; omega
                    have HR := Lib.hid (recs_one fields.len 106 wr ((x, 8) : Nat × Nat) #[.int .u32 (x : Int), .int .i64 8] rfl)
                    have HLP18 := Lib.hid (HLP17.out.ext (ext_alloc wr (.cells #[.int .u32 (x : Int), .int .i64 8] 106)))
                    have HTL := Lib.hid (show (((DefN.part B S b).take k).map (fun x => ((x, 8) : Nat × Nat))).length ≤ 5000 from by rw [List.length_map, List.length_take]; omega)
                    clear HLP17
                    go_upto_region 33 with (at_builtin; go_loud (refine wpList_append_recs rfl (.tmp 167) (.tmp 171) 107 106 rfl _ 16 w.heap.size fields u7 _ rfl HLP18.out.rec_ _ [((x, 8) : Nat × Nat)] rfl HR.out (by have := HTL.out; simp at this ⊢; omega) (by have := HTL.out; simp at this ⊢; omega) HLP18.out.size ?_; intro v9 W9 ho hg hv; have HLP19 := Lib.hid (HLP18.out.fields ho ((Keeps.refl (own u7) _).grown hg (fun k hk => .inl hk)) (hv.imp id (fun e k hk => by rw [e] at hk; cases hk; exact Nat.le_refl _))); clear ho hg hv))
                    clear HLP18
                    go_wp2_with fail
                    refine ⟨⟨k + 1, by omega, rfl, ?_⟩, by simp only [intOf]; omega⟩
                    rw [HPN.out, List.map_append]
                    exact HLP19.out
                  · have d3 : decide ((k : Int) < (ln : Int)) = false := decide_eq_false (by omega)
                    obtain rfl : ln = k := by omega
                    have eb : ¬ ((ln : Int) < ((b - S : Nat) : Int)) := by have := HLN.out; omega
                    go_wp2_with fail
                    go_meet
                    case rel =>
                      rw [List.take_of_length_le (by rw [HPL.out, HLN.out]; exact Nat.le_refl _)] at HLP17
                      obtain ⟨bG, oG, cG, hG, -, -⟩ := (HLP17.out.rec_.recs fields.len).cells (by
                        intro e
                        have h1 := congrArg List.length e
                        rw [List.length_map, HPL.out] at h1
                        simp at h1
                        have := HLN.out; omega)
                      refine ⟨s14, _, L5, bG, oG, cG, hG, HLP17, Lib.hid ?_, Lib.hid ?_, by have := HL5L.out; omega, by omega, by rw [List.length_map, HPL.out]; omega⟩
                      · intro f hf
                        rw [List.mem_map] at hf
                        obtain ⟨x, hx, rfl⟩ := hf
                        refine ⟨?_, by show (8 : Nat) ≤ 16; omega⟩
                        show x < 256
                        unfold DefN.part at hx
                        exact HLP17.out.kept.bound x (List.mem_of_mem_drop (List.mem_of_mem_take hx))
                      · unfold blkB
                        rw [HST.out, HPK.out, if_pos hst, part_bits, HL5.out]
                        unfold storedB alig
                        rw [HPL.out, ← HLN.out]
                        simp [List.append_assoc, bitsOf_length]
              · have d1 : decide (3 + (fi : Int) + 32 + 8 * (ln : Int) < (sm : Int)) = false := decide_eq_false (by have := HA4.out; omega)
                have d1p : ¬ (3 + (fi : Int) + 32 + 8 * (ln : Int) < (sm : Int)) := by have := HA4.out; omega
                go_wp2_with fail
                go_meet
                case rel =>
                  refine ⟨s2, FULL, L, bF, oF, cF, by rw [← HM.out], HLP8, HFT, Lib.hid ?_, by have := HLL.out; omega, by omega, by rw [← HM.out]; omega⟩
                  unfold blkB
                  rw [HST.out, HPK.out, if_neg hst, ← blk_fields _ _ HT.out, ← HFULL.out]
            case rest =>
              obtain ⟨s3, FLs, L3, bG, oG, cG, rfl, HLP20, HFT2, HBK, hL3, -, hFl⟩ := hcut
              obtain ⟨n4, hn4⟩ : ∃ n, n = FLs.length := ⟨_, rfl⟩
              rw [← hn4] at HLP20 hFl ⊢
              have HN4 := Lib.hid hn4
              clear hn4 HLP8 HBT HST HPK HO0 HFT HM HFULL HT HA4 HLN hc2 hc3 hc4 hc5 e1 e2 e2b e3 e4 e4b e5 e6 e7 e8 e9
              go_upto_region 35 with (fail)
              go_loopw [176] (fun v176 wr4 => ∃ (k : Nat) (s4 : Dg) (gg : Nat) (rr : Array Value), k ≤ n4 ∧ v176 = .int .i64 (k : Int) ∧ Lp base w s (L3 ++ (FLs.take k).flatMap fldB) T B S Z1 gg rr wr4 s4 N2 (.slice (some ⟨bG, oG, none⟩) n4 cG) FLs) (fun v176 _ => n4 - (intOf v176).toNat)
              case atStart => exact ⟨0, s3, g6, _, Nat.zero_le _, rfl, by rw [List.take_zero, List.flatMap_nil, List.append_nil]; exact HLP20.out⟩
              case round =>
                obtain ⟨k, s4, gg, rr, hk, rfl, hlp⟩ := hrel
                have HLP21 := Lib.hid hlp
                clear hlp HLP20
                by_cases hkl : k < n4
                · have d3 : decide ((k : Int) < (n4 : Int)) = true := decide_eq_true (by omega)
                  have hkF : k < FLs.length := by rw [← HN4.out]; exact hkl
                  obtain ⟨q0, q1⟩ := HLP21.out.fieldCell rfl k hkF
                  obtain ⟨fa, fb, hfab⟩ : ∃ fa fb, FLs[k] = (fa, fb) := ⟨_, _, rfl⟩
                  have hfit := HFT2.out FLs[k] (List.getElem_mem hkF)
                  have htk : (FLs.take (k + 1)).flatMap fldB = (FLs.take k).flatMap fldB ++ bitsOf fa fb := by
                    rw [List.take_succ_eq_append_getElem hkF, List.flatMap_append, hfab]; simp [fldB]
                  have hfl : ((FLs.take k).flatMap fldB).length ≤ 16 * k := by
                    have := sum_le FLs HFT2.out k
                    rw [fields_len]; exact this
                  rw [hfab] at q0 q1 hfit
                  simp only at q0 q1
                  have HTK := Lib.hid htk
                  have HFI := Lib.hid hfit
                  clear hfab hfit htk
                  have HN9 := Lib.hid (heap_alloc_new wr (.cells #[.int .u32 0, .int .i64 0] 106))
                  have HB9 := Lib.hid (ext_alloc wr (.cells #[.int .u32 0, .int .i64 0] 106))
                  go_upto_region 37 with (with_reducible refine store_f rfl (.tmp 19) (.tmp 179) rfl rfl wr.heap.size (fa : Int) (fb : Int) rfl rfl _ HN9.out rfl ?_)
                  have HLP22 := Lib.hid (HLP21.out.other (gx := wr.heap.size) (row' := #[.int .u32 (fa : Int), .int .i64 (fb : Int)]) (show Below wr.heap.size wr ((wr.alloc (.cells #[.int .u32 0, .int .i64 0] 106)).setRow wr.heap.size #[.int .u32 (fa : Int), .int .i64 (fb : Int)]) from below_setRow_new HB9.out (Nat.le_refl _) _) (Nat.le_refl _) (setRow_heap _ _ _ _ _ _ HN9.out))
                  obtain ⟨wx, hwx⟩ : ∃ ww, ww = (wr.alloc (.cells #[.int .u32 0, .int .i64 0] 106)).setRow wr.heap.size #[.int .u32 (fa : Int), .int .i64 (fb : Int)] := ⟨_, rfl⟩
                  rw [← hwx] at HLP22 ⊢
                  obtain ⟨gx, hgx⟩ : ∃ g, g = wr.heap.size := ⟨_, rfl⟩
                  rw [← hgx] at HLP22 ⊢
                  clear hwx hgx HN9 HB9 q0 q1 HLP21
                  refine wp_region_script [(true, 0), (true, 1), (true, 2), (true, 3), (true, 4), (true, 5), (true, 6), (true, 7), (false, 8)] (PD base w s T B S Z1 gx #[.int .u32 (fa : Int), .int .i64 (fb : Int)] N2 (.slice (some ⟨bG, oG, none⟩) n4 cG) FLs wx) (s4, L3 ++ (FLs.take k).flatMap fldB) (by kernel_rfl) (by kernel_rfl) (PD.step ⟨HLP22.out, trivial⟩ ⟨rfl, rfl, rfl, Nat.le_refl _, fun _ _ => rfl⟩) ?_
                  refine Scr.quiet (A := ?Aw1) (o := ?ow1) (fun s9 w9 w8 h9 hb9 => PD.step h9 hb9) _ wx (show PD _ _ _ _ _ _ _ _ _ _ _ _ _ (s4, L3 ++ (FLs.take k).flatMap fldB) wx from ⟨HLP22.out, trivial⟩) ?ew1 ?ww1 180 ?dw1 (by simp) ?hw1 ?nw1
                  case ew1 => simp only [List.getElem?_toArray, List.getElem?_cons_succ, List.getElem?_cons_zero]; exact rfl
                  case ww1 => exact rfl
                  case dw1 => exact rfl
                  case hw1 =>
                    intro s9 w9 h9
                    go_big_quiet_op
                    exact rfl
                  refine Scr.quiet (A := ?Aw2) (o := ?ow2) (fun s9 w9 w8 h9 hb9 => PD.step h9 hb9) _ wx (show PD _ _ _ _ _ _ _ _ _ _ _ _ _ (s4, L3 ++ (FLs.take k).flatMap fldB) wx from ⟨HLP22.out, trivial⟩) ?ew2 ?ww2 181 ?dw2 (by simp) ?hw2 ?nw2
                  case ew2 => simp only [List.getElem?_toArray, List.getElem?_cons_succ, List.getElem?_cons_zero]; exact rfl
                  case ww2 => exact rfl
                  case dw2 => exact rfl
                  case hw2 =>
                    intro s9 w9 h9
                    go_big_quiet_op
                    exact rfl
                  refine Scr.quiet (A := ?Aw3) (o := ?ow3) (fun s9 w9 w8 h9 hb9 => PD.step h9 hb9) _ wx (show PD _ _ _ _ _ _ _ _ _ _ _ _ _ (s4, L3 ++ (FLs.take k).flatMap fldB) wx from ⟨HLP22.out, trivial⟩) ?ew3 ?ww3 182 ?dw3 (by simp) ?hw3 ?nw3
                  case ew3 => simp only [List.getElem?_toArray, List.getElem?_cons_succ, List.getElem?_cons_zero]; exact rfl
                  case ww3 => exact rfl
                  case dw3 => exact rfl
                  case hw3 =>
                    intro s9 w9 h9
                    go_big_quiet_op
                    exact rfl
                  refine Scr.quiet (A := ?Aw4) (o := ?ow4) (fun s9 w9 w8 h9 hb9 => PD.step h9 hb9) _ wx (show PD _ _ _ _ _ _ _ _ _ _ _ _ _ (s4, L3 ++ (FLs.take k).flatMap fldB) wx from ⟨HLP22.out, trivial⟩) ?ew4 ?ww4 183 ?dw4 (by simp) ?hw4 ?nw4
                  case ew4 => simp only [List.getElem?_toArray, List.getElem?_cons_succ, List.getElem?_cons_zero]; exact rfl
                  case ww4 => exact rfl
                  case dw4 => exact rfl
                  case hw4 =>
                    intro s9 w9 h9
                    have q0 := fun d os => cell_regrown h9.1.cells.1 d os
                    go_big_quiet_op
                    exact rfl
                  refine Scr.quiet (A := ?Aw5) (o := ?ow5) (fun s9 w9 w8 h9 hb9 => PD.step h9 hb9) _ wx (show PD _ _ _ _ _ _ _ _ _ _ _ _ _ (s4, L3 ++ (FLs.take k).flatMap fldB) wx from ⟨HLP22.out, trivial⟩) ?ew5 ?ww5 184 ?dw5 (by simp) ?hw5 ?nw5
                  case ew5 => simp only [List.getElem?_toArray, List.getElem?_cons_succ, List.getElem?_cons_zero]; exact rfl
                  case ww5 => exact rfl
                  case dw5 => exact rfl
                  case hw5 =>
                    intro s9 w9 h9
                    go_big_quiet_op
                    exact rfl
                  refine Scr.quiet (A := ?Aw6) (o := ?ow6) (fun s9 w9 w8 h9 hb9 => PD.step h9 hb9) _ wx (show PD _ _ _ _ _ _ _ _ _ _ _ _ _ (s4, L3 ++ (FLs.take k).flatMap fldB) wx from ⟨HLP22.out, trivial⟩) ?ew6 ?ww6 185 ?dw6 (by simp) ?hw6 ?nw6
                  case ew6 => simp only [List.getElem?_toArray, List.getElem?_cons_succ, List.getElem?_cons_zero]; exact rfl
                  case ww6 => exact rfl
                  case dw6 => exact rfl
                  case hw6 =>
                    intro s9 w9 h9
                    have q0 := fun d os => cell_regrown (show w9.cell? ⟨gx, 0, none⟩ = some (.int .u32 (fa : Int)) from cell_of_row _ _ 0 _ _ _ h9.1.h6) d os
                    go_big_quiet_op
                    exact rfl
                  refine Scr.quiet (A := ?Aw7) (o := ?ow7) (fun s9 w9 w8 h9 hb9 => PD.step h9 hb9) _ wx (show PD _ _ _ _ _ _ _ _ _ _ _ _ _ (s4, L3 ++ (FLs.take k).flatMap fldB) wx from ⟨HLP22.out, trivial⟩) ?ew7 ?ww7 186 ?dw7 (by simp) ?hw7 ?nw7
                  case ew7 => simp only [List.getElem?_toArray, List.getElem?_cons_succ, List.getElem?_cons_zero]; exact rfl
                  case ww7 => exact rfl
                  case dw7 => exact rfl
                  case hw7 =>
                    intro s9 w9 h9
                    go_big_quiet_op
                    exact rfl
                  refine Scr.quiet (A := ?Aw8) (o := ?ow8) (fun s9 w9 w8 h9 hb9 => PD.step h9 hb9) _ wx (show PD _ _ _ _ _ _ _ _ _ _ _ _ _ (s4, L3 ++ (FLs.take k).flatMap fldB) wx from ⟨HLP22.out, trivial⟩) ?ew8 ?ww8 187 ?dw8 (by simp) ?hw8 ?nw8
                  case ew8 => simp only [List.getElem?_toArray, List.getElem?_cons_succ, List.getElem?_cons_zero]; exact rfl
                  case ww8 => exact rfl
                  case dw8 => exact rfl
                  case hw8 =>
                    intro s9 w9 h9
                    have q0 := fun d os => cell_regrown (show w9.cell? ⟨gx, 1, none⟩ = some (.int .i64 (fb : Int)) from cell_of_row _ _ 1 _ _ _ h9.1.h6) d os
                    go_big_quiet_op
                    exact rfl
                  refine Scr.call (o := ?xo) 63 #[.pointer (some ⟨s.gO, 0, none⟩), .int .u32 (fa : Int), .int .i64 (fb : Int)] (fun (v : Value) (σ : Dg × List Bool) => v = .int .i64 0 ∧ σ.2 = L3 ++ (FLs.take k).flatMap fldB ++ bitsOf fa fb) ?xe ?xw ?xr ?xc ?_
                  case xe => simp only [List.getElem?_toArray, List.getElem?_cons_succ, List.getElem?_cons_zero]; exact rfl
                  case xw => exact rfl
                  case xr => intro w9; simp [execOp, Act.eval, resolve, go_sem]
                  case xc =>
                    rintro w9 ⟨h9, hs9⟩
                    refine (h9.put fa fb (by have := HFI.out.2; simp only at this; omega) HFI.out.1 (by simp only [List.length_append]; omega)).mono ?_
                    rintro e w8 ⟨rfl, s8, h8⟩
                    exact ⟨_, (s8, L3 ++ (FLs.take k).flatMap fldB ++ bitsOf fa fb), rfl, ⟨rfl, rfl⟩, h8, trivial⟩
                  rintro v30 ⟨s30, L30⟩ ⟨rfl, h30⟩
                  simp only at h30
                  subst h30
                  simp only [Act.put, List.setIfInBounds_toArray, List.set_cons_succ, List.set_cons_zero]
                  rintro W30 ⟨hlp, -⟩
                  have HLP30 := Lib.hid hlp
                  clear hlp HLP22
                  have e6 : IntKind.i64.wrap ((k : Int) + 1) = ((k + 1 : Nat) : Int) := by rw [IntKind.wrap_i64]; omega
                  go_wp2_with fail
                  refine ⟨⟨k + 1, s30, gx, #[.int .u32 (fa : Int), .int .i64 (fb : Int)], by omega, rfl, ?_⟩, by simp only [intOf]; omega⟩
                  rw [HTK.out, ← List.append_assoc]
                  exact HLP30.out
                · have d3 : decide ((k : Int) < (n4 : Int)) = false := decide_eq_false (by omega)
                  obtain rfl : n4 = k := by omega
                  rw [List.take_of_length_le (by rw [← HN4.out]; exact Nat.le_refl _), HBK.out] at HLP21
                  obtain ⟨hc2, hc3, hc4, hc5⟩ := HLP21.out.cells
                  have fz := frozen_of_row _ _ 5 _ _ HLP21.out.row_
                  go_wp2_with fail
                  refine bodyPost_end (results_none rfl _ _ _) rfl ?_
                  have hfin := HLP21.out.finish b
                  exact ⟨rfl, s4, N2, hfin.1, hfin.2, hNi, hN3⟩
end Go.Proofs.Ytighlefajekloaa.DefBc
