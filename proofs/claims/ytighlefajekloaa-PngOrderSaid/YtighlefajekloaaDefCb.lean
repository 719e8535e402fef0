/- Package deflate: New, Write, End. -/
import Derived.Test.YtighlefajekloaaDefCa
set_option linter.unusedVariables false
set_option linter.unusedSimpArgs false
namespace Go.Proofs.Ytighlefajekloaa.DefCb
open Go.RowKit Go.Sort BitsM Base Low BitsW BitsX BitsS MapA DefM DefN DefO DefS DefT DefR DefU DefV DefW DefX DefY DefZ DefBa DefBb DefBc DefCa Qb Qt Qp Qy Rec
theorem make_map (w : World) : (Instr.makeMap 91 none).run Try.prog w = .ok (.map (some w.heap.size)) (w.alloc (.map #[] 0)) := by kernel_rfl

set_option maxRecDepth 100000 in
theorem new_any (base : Nat) (w : World) (hbase : base ≤ w.heap.size) :
    Calls Try.prog 33 #[] w fun e w' => ∃ s, e = .returned (.pointer (some ⟨s.gW, 0, none⟩)) ∧ Ws base w' s [] ∧ Below w.heap.size w w' ∧ ∀ k, s.own k → w.heap.size ≤ k := by
  have MM := make_map
  go_enter Try.func33, Try.ntmps33
  go_wp2_with (go_at_call 49; refine (newWriter_any w).mono ?_; rintro e w1 ⟨rfl, rfl⟩)
  go_ret
  obtain ⟨n, hn⟩ : ∃ n, w.heap.size = n := ⟨_, rfl⟩
  have H1 := Wr.new w base hbase
  obtain ⟨w1, hw1⟩ : ∃ ww, ww = w.alloc (.cells #[.bool true, .slice none 0 0, .int .i64 0] 104) := ⟨_, rfl⟩
  have b1 : Below w.heap.size w w1 := by rw [hw1]; exact ext_alloc w _
  have s1 : w1.heap.size = w.heap.size + 1 := by rw [hw1]; simp
  rw [← hw1] at H1 ⊢
  have H2 := Pl.new w1
  obtain ⟨w2, hw2⟩ : ∃ ww, ww = w1.alloc (.map #[] 0) := ⟨_, rfl⟩
  have b2 : Below w1.heap.size w1 w2 := by rw [hw2]; exact ext_alloc w1 _
  have s2 : w2.heap.size = w1.heap.size + 1 := by rw [hw2]; simp
  rw [← hw2] at H2 ⊢
  have H3 := heap_alloc_new w2 (.cells #[.bool true, .bool false, .pointer (some ⟨w.heap.size, 0, none⟩), .slice none 0 0, .int .i64 0, .int .i64 0, .int .i64 0, .map (some (w.heap.size + 1)), .int .i64 0] 93)
  obtain ⟨w3, hw3⟩ : ∃ ww, ww = w2.alloc (.cells #[.bool true, .bool false, .pointer (some ⟨w.heap.size, 0, none⟩), .slice none 0 0, .int .i64 0, .int .i64 0, .int .i64 0, .map (some (w.heap.size + 1)), .int .i64 0] 93) := ⟨_, rfl⟩
  have b3 : Below w2.heap.size w2 w3 := by rw [hw3]; exact ext_alloc w2 _
  rw [← hw3] at H3 ⊢
  clear hw1 hw2 hw3
  have b23 : Below w1.heap.size w1 w3 := b2.trans (b3.mono b2.size)
  have b13 : Below w.heap.size w w3 := b1.trans (b23.mono b1.size)
  have e2 : w2.heap.size = n + 2 := by omega
  have e1 : w1.heap.size = n + 1 := by omega
  rw [e2, hn] at H3
  rw [e1] at H2
  rw [hn] at H1
  have hge : ∀ k, (⟨n + 2, n, n + 1, .slice none 0 0, .slice none 0 0, fun _ => .slice none 0 0⟩ : Dg).own k → n ≤ k := by
    rintro k ⟨x, hx⟩
    cases x with
    | w => cases hx; show n ≤ n + 2; omega
    | o => cases hx; exact Nat.le_refl _
    | ov => cases hx
    | k => cases hx
    | m => cases hx; show n ≤ n + 1; omega
    | key v => cases hx
  refine ⟨⟨n + 2, n, n + 1, .slice none 0 0, .slice none 0 0, fun _ => .slice none 0 0⟩, by rw [hn]; rfl, ⟨0, ⟨0, 0, ⟨rfl, rfl⟩, ⟨⟨H3⟩, ⟨?_, Own.nil _ _ _ _ _, ?_, fun a b c _ _ _ => ?_, ?_, by rw [hn] at hbase; show base ≤ n + 2; omega, by rw [hn] at hbase; show base ≤ n + 1; omega⟩⟩⟩, Nat.zero_le _, .inl rfl⟩, b13, by rw [hn]; exact hge⟩
  · exact H1.frame (Keeps.of_ext b23 (fun _ => False)) (fun _ _ => id)
  · exact H2.keep (b3.block _ (by omega))
  · exact SeqOwn.nil _ _ _
  · intro x y k hx hy
    cases x <;> cases y <;> simp only [Dg.blk, Option.some.injEq, Value.ownBlock, reduceCtorEq] at hx hy <;> (try omega) <;> rfl

theorem nb_next (n k : Nat) (h : 4096 < n - 4096 * k) (hk : k ≤ nb n) : k + 1 ≤ nb n ∧ 4096 * (k + 1) ≤ n := by unfold nb at *; omega
set_option maxRecDepth 100000 in
set_option maxHeartbeats 1000000 in
theorem write_any (base : Nat) (w : World) (s : Dg) (B b : List Nat) (h : Ws base w s B) (u : Value) (hu : Nums .u8 256 w u b) (hlen : (B ++ b).length ≤ 36864) :
    Calls Try.prog 37 #[.pointer (some ⟨s.gW, 0, none⟩), u] w fun e w' => ∃ x s', e = .returned (.tuple #[x, .int .i64 0]) ∧ (Nums .u8 256 w' x (outN (bitsW (B ++ b)) ((bitsW B).length / 8)) ∧ ∃ a n, x = .slice a n n) ∧ Ws base w' s' (B ++ b) ∧ Evo w s w' s' ∧ (∀ k, x.ownBlock = some k → ¬ s'.own k ∧ (s.own k ∨ w.heap.size ≤ k)) := by
  obtain ⟨N, hd, hN, hN2⟩ := h
  have HD := Lib.hid hd
  have HU := Lib.hid hu
  obtain ⟨C0, C1, C2, C3, C4, C5, C6, C7, C8⟩ := hd.row.cells
  have HC7 := Lib.hid C7
  have hbase : base ≤ w.heap.size := by have := hd.low s.gW ⟨.w, rfl⟩; omega
  have fz := frozen_of_row _ _ 3 _ _ hd.row.blk
  clear hd hu C5 C6 C7 C8 C4
  have hb1 : (B.length + b.length) * 1 ≤ 140737488355328 := by rw [List.length_append] at hlen; omega
  have hb2 : B.length + b.length ≤ 140737488355328 := by omega
  obtain ⟨T0, hT0⟩ : ∃ t, t = (bitsW B).length / 8 := ⟨_, rfl⟩
  rw [← hT0] at HD ⊢
  have HT0 := Lib.hid hT0
  clear hT0
  go_enter Try.func37, Try.ntmps37
  go_upto_region 6 with (at_builtin; go_loud (refine wpList_append_nums_at rfl (.tmp 23) (.tmp 24) 33 5 rfl .u8 256 1 base u8s s.vK B rfl HD.out.kept u b rfl HU.out hb1 hb2 hbase ?_; intro v2 w2 ho hg hv; obtain ⟨a2, n2, c2, rfl⟩ := ho.slice_; have hm := Ds.more HD.out ho hg hv hN2; have HM := Lib.hid hm.1; have HE := Lib.hid hm.2; have hrw := ((hg.block _ HD.out.row.lt (fun e => by obtain ⟨V, R, h1, h2⟩ := HD.out; have := h2.k.apart .w .k s.gW rfl e.symm; cases this)).trans HD.out.row.blk); have fz2 := frozen_of_row _ _ 3 _ _ hrw; have cz2 := cell_of_row _ _ 3 _ _ _ hrw; simp only [List.getElem?_toArray, List.getElem?_cons_succ, List.getElem?_cons_zero] at cz2; clear hrw; clear hm ho hg hv))
  obtain ⟨w3, hw3⟩ : ∃ ww, ww = w2.setCell ⟨s.gW, 3, none⟩ (.slice a2 n2 c2) := ⟨_, rfl⟩
  obtain ⟨s1, hs1⟩ : ∃ s1, s1 = ({ s with vK := .slice a2 n2 c2 } : Dg) := ⟨_, rfl⟩
  rw [← hw3, ← hs1] at HM HE
  rw [← hw3]
  obtain ⟨BB, hBB⟩ : ∃ BB, BB = B ++ b := ⟨_, rfl⟩
  obtain ⟨n, hn⟩ : ∃ n, n = BB.length := ⟨_, rfl⟩
  rw [← hBB] at HM hlen
  rw [← hn] at hlen
  have hch : bitsW B = chain BB (nb B.length) := by rw [hBB]; exact chain_append B b _ (nb_le _)
  have hnl : B.length ≤ n := by rw [hn, hBB, List.length_append]; omega
  have HBB := Lib.hid hBB
  have HN := Lib.hid hn
  have HNL := Lib.hid hnl
  have HCH := Lib.hid hch
  clear hw3 hs1 fz2 cz2 C0 C1 C2 C3 fz HD HU hb1 hb2 hBB hn hch hnl HC7
  go_loopw [] (fun wr => ∃ (k : Nat) (s2 : Dg) (N2 : Nat), k ≤ nb n ∧ Ds base wr s2 false (chain BB k) T0 BB (4096 * k) N2 0 ∧ Evo w s wr s2 ∧ N2 ≤ 4096 * k ∧ (N2 = 0 ∨ N2 + 2 ≤ n)) (fun wr => n - (intOf ((wr.cell? ⟨s.gW, 5, none⟩).getD undef)).toNat)
  case atStart => exact ⟨nb B.length, s1, N, nb_mono HNL.out, by rw [← HCH.out]; exact HM.out, HE.out, hN, by have := HNL.out; omega⟩
  case round =>
    obtain ⟨k, s2, N2, hk, hds, hevo, hN3, hN4⟩ := hrel
    have HDS := Lib.hid hds
    have HEV := Lib.hid hevo
    have hcl := hds.row.cells
    rw [hevo.gW, hevo.gO] at hcl
    obtain ⟨-, -, C2, C3, C4, C5, -, -, -⟩ := hcl
    obtain ⟨aK, cK, hvK, hcK⟩ := hds.kept.nums.shape
    rw [← HN.out] at hvK
    rw [hvK] at C3
    obtain ⟨q, hq⟩ : ∃ q, q = 4096 * k := ⟨_, rfl⟩
    have hnq : q ≤ n := by rw [hq]; exact Nat.le_trans (Nat.mul_le_mul_left _ hk) (nb_le n)
    rw [← hq] at C5 HDS hN3
    have f3 := fun d os => cell_regrown C3 d os
    have f4 := fun d os => cell_regrown C4 d os
    have f5 := fun d os => cell_regrown C5 d os
    have HC := Lib.hid (show wr.cell? ⟨s.gW, 5, none⟩ = some (.int .i64 (q : Int)) from C5)
    have HQ := Lib.hid hq
    clear hds hevo hvK hcK hq C2 C3 C4 C5 HM HE
    have e0 : IntKind.i64.wrap (n : Int) = (n : Int) := by rw [IntKind.wrap_i64]; omega
    have e1 : IntKind.i64.wrap ((n : Int) - (q : Int)) = ((n - q : Nat) : Int) := by rw [IntKind.wrap_i64]; omega
    by_cases hm : 4096 < n - q
    · have d1 : decide ((4096 : Int) < ((n - q : Nat) : Int)) = true := decide_eq_true (by omega)
      have p1 : (4096 : Int) < ((n - q : Nat) : Int) := by omega
      have p2 : (4096 : Int) < (n : Int) - (q : Int) := by omega
      go_upto_region 6 with (fail)
      refine wp_region_quiet_below (by kernel_rfl) (by kernel_rfl) ?_
      repeat (go_big_quiet_step (fail))
      refine wpQuiet_nil ?_
      first | (rintro _ ⟨⟨dq, odq⟩, rfl⟩) | (rintro ⟨dq, odq⟩)
      have hW6 := below_regrown wr dq odq
      obtain ⟨W6, eW6⟩ : ∃ ww, ww = grow (redrawn wr dq) odq := ⟨_, rfl⟩
      rw [← eW6] at hW6 ⊢
      clear eW6
      have HB6 := Lib.hid hW6
      clear hW6
      have HDS2 := Lib.hid (HDS.out.ext HB6.out)
      have HEV2 := Lib.hid (HEV.out.ext HB6.out)
      have hnb := nb_next n k (by rw [← HQ.out]; exact hm) hk
      have hcl := HDS2.out.row.cells
      rw [HEV2.out.gW] at hcl
      obtain ⟨-, -, -, -, -, C5, -, -, -⟩ := hcl
      clear f3 f4 f5
      have e2 : IntKind.i64.wrap ((q : Int) + 4096) = ((q + 4096 : Nat) : Int) := by rw [IntKind.wrap_i64]; omega
      have hblk := block_any base W6 s2 (chain BB k) T0 BB q N2 0 0 (q + 4096) false HDS2.out (by omega) (by rw [← HN.out]; omega) (by omega) (by rw [← HN.out]; omega) hN3 (by rw [← HN.out]; exact hN4) (by have := chain_len2 BB k (by rw [← HN.out, ← HQ.out]; exact hnq); have := HQ.out; omega) (fun w1 h1 => prune_ds h1 (Nat.zero_le _) (by have := HQ.out; omega) (by omega))
      rw [HEV2.out.gW, show ((q + 4096 : Nat) : Int) = (q : Int) + 4096 from by omega] at hblk
      have HBK := Lib.hid hblk
      clear hblk
      go_wp2_with fail
      refine HBK.out.mono ?_
      rintro e W7 ⟨rfl, s3, N3, h3, he3, hN5, hN6⟩
      have hcn : chain BB (k + 1) = blkB BB q (q + 4096) 0 (chain BB k) := by rw [HQ.out]; rfl
      have hev3 := HEV2.out.trans (Ev.o he3)
      have hcl := h3.row.cells
      rw [hev3.gW] at hcl
      have hc5 := hcl.2.2.2.2.2.1
      have HCN := Lib.hid hcn
      have HN6 := Lib.hid (show N3 = 0 ∨ N3 + 2 ≤ n from by rw [HN.out]; exact hN6)
      have HC7 := Lib.hid hc5
      clear hcl hc5 hcn HBK HDS2 HDS hN6 C5
      go_wp2_with fail
      refine ⟨⟨k + 1, s3, N3, hnb.1, ?_, hev3, by have := HQ.out; omega, HN6.out⟩, ?_⟩
      · rw [HCN.out, show 4096 * (k + 1) = q + 4096 by rw [HQ.out]; omega]; exact h3
      · rw [HC7.out, HC.out]
        simp only [Option.getD_some, intOf]
        omega
    · have d1 : decide ((4096 : Int) < ((n - q : Nat) : Int)) = false := decide_eq_false (by omega)
      have p1 : ¬ (4096 : Int) < ((n - q : Nat) : Int) := by omega
      have p2 : ¬ (4096 : Int) < (n : Int) - (q : Int) := by omega
      have hkn := nb_done n k (by rw [← HQ.out]; exact hnq) (by rw [← HQ.out]; exact hm) hk
      go_upto_region 6 with (fail)
      refine wp_region_quiet_below (by kernel_rfl) (by kernel_rfl) ?_
      repeat (go_big_quiet_step (fail))
      refine wpQuiet_nil ?_
      first | (rintro _ ⟨⟨dq, odq⟩, rfl⟩) | (rintro ⟨dq, odq⟩)
      have hW6 := below_regrown wr dq odq
      obtain ⟨W6, eW6⟩ : ∃ ww, ww = grow (redrawn wr dq) odq := ⟨_, rfl⟩
      rw [← eW6] at hW6 ⊢
      clear eW6
      have HB6 := Lib.hid hW6
      clear hW6
      have HDS2 := Lib.hid (HDS.out.ext HB6.out)
      have HEV2 := Lib.hid (HEV.out.ext HB6.out)
      clear f3 f4 f5 HDS HEV HC
      have htr := trim_small W6 s2 false q N2 0 HDS2.out.row (by omega)
      rw [HEV2.out.gW] at htr
      have HTR := Lib.hid htr
      clear htr
      go_wp2_with (go_at_call 51; refine HTR.out.mono ?_; rintro e W7 ⟨rfl, hb7⟩; have HDS3 := Lib.hid (HDS2.out.ext hb7); have HEV3 := Lib.hid (HEV2.out.ext hb7); have hcl := HDS3.out.row.cells; rw [HEV3.out.gW, HEV3.out.gO] at hcl; obtain ⟨-, -, C2, -, -, -, -, -, -⟩ := hcl; clear hb7 HDS2 HEV2 HTR)
      have htk := Ds.take HDS3.out (by have := chain_len2 BB k (by rw [← HN.out, ← HQ.out]; exact hnq); have := HQ.out; omega)
      rw [HEV3.out.gO] at htk
      refine htk.mono ?_
      rintro e W8 ⟨x, s3, rfl, hnx, hd3, he3, hfr⟩
      obtain ⟨hnx, hxt⟩ := hnx
      have HNX := Lib.hid hnx
      have HXT := Lib.hid hxt
      have HD3 := Lib.hid hd3
      have HE3 := Lib.hid (HEV3.out.trans (Ev.o he3))
      have HFR := Lib.hid (show ∀ k, x.ownBlock = some k → ¬ s3.own k ∧ (s.own k ∨ w.heap.size ≤ k) from fun k hk => ⟨(hfr k hk).1, HEV3.out.fresh k (hfr k hk).2⟩)
      clear hnx hxt hd3 he3 hfr htk
      go_wp2_with fail
      go_ret2
      have hcb : chain BB k = bitsW BB := by unfold bitsW; rw [hkn, ← HN.out]
      refine ⟨x, s3, rfl, ⟨?_, HXT.out⟩, ⟨N2, ?_, ?_, ?_⟩, HE3.out, HFR.out⟩
      · rw [← HBB.out, ← hcb]; exact HNX.out
      · rw [← HBB.out, ← hcb, ← HN.out, ← hkn, ← HQ.out]; exact HD3.out
      · rw [← HBB.out, ← HN.out, ← hkn, ← HQ.out]; exact hN3
      · rw [← HBB.out, ← HN.out]; exact hN4

/-- a writer that has ended -/
structure RowE (w : World) (g : Nat) : Prop where
  ex : ∃ cs, w.heap[g]? = some (.cells cs 93) ∧ cs.toList.take 2 = [.bool true, .bool true]
/-- the state of the region that asks for the last block -/
def ED (base : Nat) (w : World) (s : Dg) (T : Nat) (B : List Nat) (σ : Dg × List Bool × Nat × Nat × Nat) (w9 : World) : Prop := Ds base w9 σ.1 false σ.2.1 T B σ.2.2.1 σ.2.2.2.1 σ.2.2.2.2 ∧ Ev w s w9 σ.1
theorem ED.step {base : Nat} {w : World} {s : Dg} {T : Nat} {B : List Nat} {σ : Dg × List Bool × Nat × Nat × Nat} {w9 w' : World} (h : ED base w s T B σ w9) (hb : Below w9.heap.size w9 w') : ED base w s T B σ w' := ⟨h.1.ext hb, h.2.ext hb⟩
theorem ED.cells {base : Nat} {w : World} {s : Dg} {T : Nat} {B : List Nat} {σ : Dg × List Bool × Nat × Nat × Nat} {w9 : World} (h : ED base w s T B σ w9) : w9.cell? ⟨s.gW, 3, none⟩ = some s.vK ∧ w9.cell? ⟨s.gW, 4, none⟩ = some (.int .i64 0) := by
  have hcl := h.1.row.cells
  rw [h.2.gW, h.2.vK] at hcl
  exact ⟨hcl.2.2.2.1, hcl.2.2.2.2.1⟩
theorem Wr.keep3 {base : Nat} {w w' : World} {g gW : Nat} {v : Value} {V R T : Nat} (h : Wr base w g v V R T) (hk : Keeps (fun k => k = gW) w w') (h1 : ¬ g = gW) (h2 : v.ownBlock ≠ some gW) : Wr base w' g v V R T :=
  h.frame hk (fun k hf e => by rcases hf with rfl | hf; exact h1 e; subst e; exact h2 hf)
set_option maxRecDepth 100000 in
set_option maxHeartbeats 1000000 in
theorem end_any (base : Nat) (w : World) (s : Dg) (B : List Nat) (Z1 : Nat) (h : Ws base w s B) (hlen : B.length ≤ 36864)
    (hpr : ∀ w1 N, Ds base w1 s false (bitsW B) ((bitsW B).length / 8) B (4096 * nb B.length) N 0 → Calls Try.prog 58 #[.pointer (some ⟨s.gW, 0, none⟩)] w1 fun e w' => e = .returned (.tuple #[]) ∧ ∃ s', Ds base w' s' false (bitsW B) ((bitsW B).length / 8) B (4096 * nb B.length) N Z1 ∧ Ev w1 s w' s') :
    Calls Try.prog 40 #[.pointer (some ⟨s.gW, 0, none⟩)] w fun e w' => ∃ x, e = .returned (.tuple #[x, .int .i64 0]) ∧ Nums .u8 256 w' x (outN (endL B) ((bitsW B).length / 8)) ∧ RowE w' s.gW ∧ Keeps s.own w w' ∧ (∀ k, x.ownBlock = some k → (s.own k ∨ w.heap.size ≤ k) ∧ ¬ k = s.gW) := by
  obtain ⟨N, hd, hN, hN2⟩ := h
  have HD := Lib.hid hd
  obtain ⟨C0, C1, C2, C3, C4, C5, C6, C7, C8⟩ := hd.row.cells
  clear hd C5 C6 C7 C8
  obtain ⟨T0, hT0⟩ : ∃ t, t = (bitsW B).length / 8 := ⟨_, rfl⟩
  rw [← hT0] at HD hpr ⊢
  have HPR := Lib.hid hpr
  clear hT0 hpr
  obtain ⟨q, hq⟩ : ∃ q, q = 4096 * nb B.length := ⟨_, rfl⟩
  have hql : q ≤ B.length ∧ B.length - q ≤ 4096 := by rw [hq]; exact ⟨nb_le _, nb_rest _⟩
  have HBL := Lib.hid (show (bitsW B).length ≤ 9 * 36864 from by have := bitsW_len B; omega)
  rw [← hq] at HD HPR hN
  have HQ := Lib.hid hq
  clear hq
  obtain ⟨aK, cK, hvK, hcK⟩ := HD.out.kept.nums.shape
  obtain ⟨n, hn⟩ : ∃ n, n = B.length := ⟨_, rfl⟩
  have hn9 : n ≤ 36864 := by omega
  have hne : (n : Int) = (B.length : Int) := by rw [hn]
  rw [← hn] at hvK
  have HVK := Lib.hid hvK
  have HN := Lib.hid hn
  clear hvK hcK hn hne
  have e0 : IntKind.i64.wrap (n : Int) = (n : Int) := by rw [IntKind.wrap_i64]; omega
  go_enter Try.func40, Try.ntmps40
  go_upto_region 5 with (fail)
  refine wp_region_script [(true, 0), (true, 1), (true, 2), (true, 3), (true, 4), (true, 5), (true, 6), (true, 7), (true, 8), (true, 9), (true, 10), (false, 11)] (ED base w s T0 B) (s, bitsW B, q, N, 0) (by kernel_rfl) (by kernel_rfl) (ED.step ⟨HD.out, Ev.refl _ _⟩ ⟨rfl, rfl, rfl, Nat.le_refl _, fun _ _ => rfl⟩) ?_
  refine Scr.quiet (A := ?A1) (o := ?o1) (fun s9 w9 w8 h9 hb9 => ED.step h9 hb9) _ w (show ED base w s T0 B (s, bitsW B, q, N, 0) w from ⟨HD.out, Ev.refl _ _⟩) ?e1 ?w1 17 ?d1 (by simp) ?h1 ?n1
  case e1 => simp only [List.getElem?_toArray, List.getElem?_cons_succ, List.getElem?_cons_zero]; exact rfl
  case w1 => exact rfl
  case d1 => exact rfl
  case h1 =>
    intro s9 w9 h9
    go_big_quiet_op
    exact rfl
  refine Scr.quiet (A := ?A2) (o := ?o2) (fun s9 w9 w8 h9 hb9 => ED.step h9 hb9) _ w (show ED base w s T0 B (s, bitsW B, q, N, 0) w from ⟨HD.out, Ev.refl _ _⟩) ?e2 ?w2 18 ?d2 (by simp) ?h2 ?n2
  case e2 => simp only [List.getElem?_toArray, List.getElem?_cons_succ, List.getElem?_cons_zero]; exact rfl
  case w2 => exact rfl
  case d2 => exact rfl
  case h2 =>
    intro s9 w9 h9
    go_big_quiet_op
    exact rfl
  refine Scr.quiet (A := ?A3) (o := ?o3) (fun s9 w9 w8 h9 hb9 => ED.step h9 hb9) _ w (show ED base w s T0 B (s, bitsW B, q, N, 0) w from ⟨HD.out, Ev.refl _ _⟩) ?e3 ?w3 19 ?d3 (by simp) ?h3 ?n3
  case e3 => simp only [List.getElem?_toArray, List.getElem?_cons_succ, List.getElem?_cons_zero]; exact rfl
  case w3 => exact rfl
  case d3 => exact rfl
  case h3 =>
    intro s9 w9 h9
    go_big_quiet_op
    exact rfl
  refine Scr.quiet (A := ?A4) (o := ?o4) (fun s9 w9 w8 h9 hb9 => ED.step h9 hb9) _ w (show ED base w s T0 B (s, bitsW B, q, N, 0) w from ⟨HD.out, Ev.refl _ _⟩) ?e4 ?w4 20 ?d4 (by simp) ?h4 ?n4
  case e4 => simp only [List.getElem?_toArray, List.getElem?_cons_succ, List.getElem?_cons_zero]; exact rfl
  case w4 => exact rfl
  case d4 => exact rfl
  case h4 =>
    intro s9 w9 h9
    go_big_quiet_op
    exact rfl
  refine Scr.quiet (A := ?A5) (o := ?o5) (fun s9 w9 w8 h9 hb9 => ED.step h9 hb9) _ w (show ED base w s T0 B (s, bitsW B, q, N, 0) w from ⟨HD.out, Ev.refl _ _⟩) ?e5 ?w5 21 ?d5 (by simp) ?h5 ?n5
  case e5 => simp only [List.getElem?_toArray, List.getElem?_cons_succ, List.getElem?_cons_zero]; exact rfl
  case w5 => exact rfl
  case d5 => exact rfl
  case h5 =>
    intro s9 w9 h9
    have q0 := fun d os => cell_regrown h9.cells.2 d os
    go_big_quiet_op
    exact rfl
  refine Scr.quiet (A := ?A6) (o := ?o6) (fun s9 w9 w8 h9 hb9 => ED.step h9 hb9) _ w (show ED base w s T0 B (s, bitsW B, q, N, 0) w from ⟨HD.out, Ev.refl _ _⟩) ?e6 ?w6 22 ?d6 (by simp) ?h6 ?n6
  case e6 => simp only [List.getElem?_toArray, List.getElem?_cons_succ, List.getElem?_cons_zero]; exact rfl
  case w6 => exact rfl
  case d6 => exact rfl
  case h6 =>
    intro s9 w9 h9
    go_big_quiet_op
    exact rfl
  refine Scr.quiet (A := ?A7) (o := ?o7) (fun s9 w9 w8 h9 hb9 => ED.step h9 hb9) _ w (show ED base w s T0 B (s, bitsW B, q, N, 0) w from ⟨HD.out, Ev.refl _ _⟩) ?e7 ?w7 23 ?d7 (by simp) ?h7 ?n7
  case e7 => simp only [List.getElem?_toArray, List.getElem?_cons_succ, List.getElem?_cons_zero]; exact rfl
  case w7 => exact rfl
  case d7 => exact rfl
  case h7 =>
    intro s9 w9 h9
    go_big_quiet_op
    exact rfl
  refine Scr.quiet (A := ?A8) (o := ?o8) (fun s9 w9 w8 h9 hb9 => ED.step h9 hb9) _ w (show ED base w s T0 B (s, bitsW B, q, N, 0) w from ⟨HD.out, Ev.refl _ _⟩) ?e8 ?w8 24 ?d8 (by simp) ?h8 ?n8
  case e8 => simp only [List.getElem?_toArray, List.getElem?_cons_succ, List.getElem?_cons_zero]; exact rfl
  case w8 => exact rfl
  case d8 => exact rfl
  case h8 =>
    intro s9 w9 h9
    go_big_quiet_op
    exact rfl
  refine Scr.quiet (A := ?A9) (o := ?o9) (fun s9 w9 w8 h9 hb9 => ED.step h9 hb9) _ w (show ED base w s T0 B (s, bitsW B, q, N, 0) w from ⟨HD.out, Ev.refl _ _⟩) ?e9 ?w9 25 ?d9 (by simp) ?h9 ?n9
  case e9 => simp only [List.getElem?_toArray, List.getElem?_cons_succ, List.getElem?_cons_zero]; exact rfl
  case w9 => exact rfl
  case d9 => exact rfl
  case h9 =>
    intro s9 w9 h9
    have q0 := fun d os => cell_regrown (h9.cells.1.trans (congrArg some HVK.out)) d os
    go_big_quiet_op
    exact rfl
  refine Scr.quiet (A := ?A10) (o := ?o10) (fun s9 w9 w8 h9 hb9 => ED.step h9 hb9) _ w (show ED base w s T0 B (s, bitsW B, q, N, 0) w from ⟨HD.out, Ev.refl _ _⟩) ?e10 ?w10 26 ?d10 (by simp) ?h10 ?n10
  case e10 => simp only [List.getElem?_toArray, List.getElem?_cons_succ, List.getElem?_cons_zero]; exact rfl
  case w10 => exact rfl
  case d10 => exact rfl
  case h10 =>
    intro s9 w9 h9
    go_big_quiet_op
    exact rfl
  refine Scr.quiet (A := ?A11) (o := ?o11) (fun s9 w9 w8 h9 hb9 => ED.step h9 hb9) _ w (show ED base w s T0 B (s, bitsW B, q, N, 0) w from ⟨HD.out, Ev.refl _ _⟩) ?e11 ?w11 27 ?d11 (by simp) ?h11 ?n11
  case e11 => simp only [List.getElem?_toArray, List.getElem?_cons_succ, List.getElem?_cons_zero]; exact rfl
  case w11 => exact rfl
  case d11 => exact rfl
  case h11 =>
    intro s9 w9 h9
    go_big_quiet_op
    exact rfl
  refine Scr.call (o := ?co) 50 #[.pointer (some ⟨s.gW, 0, none⟩), .int .i64 (n : Int), .bool true] (fun (v : Value) (σ : Dg × List Bool × Nat × Nat × Nat) => v = .tuple #[] ∧ σ.2.1 = finL B ∧ σ.2.2.1 = B.length) ?ce ?cw ?cr ?cc ?_
  case ce => simp only [List.getElem?_toArray, List.getElem?_cons_succ, List.getElem?_cons_zero]; exact rfl
  case cw => exact rfl
  case cr => intro w9; simp [execOp, Act.eval, resolve, go_sem]
  case cc =>
    rintro w9 ⟨hd9, he9⟩
    have hb := block_any base w9 s (bitsW B) T0 B q N 0 Z1 n true hd9 (by have := HN.out; omega) (by rw [HN.out]; exact Nat.le_refl _) (by have := HN.out; omega) (by omega) hN hN2 (by have := HBL.out; omega) (fun w1 h1 => HPR.out w1 N h1)
    refine hb.mono ?_
    rintro e w8 ⟨rfl, s8, N8, h8, he8, -⟩
    refine ⟨_, (s8, finL B, n, N8, Z1), rfl, ⟨rfl, rfl, HN.out⟩, ?_, he9.trans he8⟩
    show Ds base w8 s8 false (finL B) T0 B n N8 Z1
    have : finL B = blkB B q n 1 (bitsW B) := by unfold finL; rw [HQ.out, HN.out]
    rw [this]; exact h8
  rintro v10 ⟨s10, L10, S10, N10, Z10⟩ ⟨rfl, h10, h11⟩
  simp only at h10 h11
  subst h10 h11
  simp only [Act.put, List.setIfInBounds_toArray, List.set_cons_succ, List.set_cons_zero]
  rintro W5 ⟨hd5, he5⟩
  have HD5 := Lib.hid hd5
  have HE5 := Lib.hid he5
  clear hd5 he5
  have hcl := HD5.out.row.cells
  rw [HE5.out.gW, HE5.out.gO] at hcl
  obtain ⟨-, -, C2', -, -, -, -, -, -⟩ := hcl
  have hal := Ds.align HD5.out (by
    show (finL B).length ≤ _
    have h1 := fin_len B
    have h2 := al8_ge (finL B).length
    have h3 := nb_le B.length
    omega)
  rw [HE5.out.gO] at hal
  clear C0 C1 C2 C3 C4
  go_wp2_with fail
  refine hal.mono ?_
  rintro e W6 ⟨rfl, s6, hd6, he6⟩
  have HD6 := Lib.hid hd6
  have HE6 := Lib.hid (HE5.out.trans he6)
  clear hal hd6 he6 C2' HD5 HE5
  have hrow := HD6.out.row.blk
  rw [HE6.out.gW, HE6.out.gO, HE6.out.vK, HE6.out.gM] at hrow
  have HROW := Lib.hid hrow
  have c := fun j => cell_of_row _ _ j _ _ _ hrow
  have c1 := c 1
  have c3 := c 3
  have c7 := c 7
  have c2 := c 2
  simp only [List.getElem?_toArray, List.getElem?_cons_succ, List.getElem?_cons_zero] at c1 c2 c3 c7
  have f1 := frozen_of_row _ _ 1 _ _ hrow
  have f3 := frozen_of_row _ _ 3 _ _ hrow
  have f7 := frozen_of_row _ _ 7 _ _ hrow
  clear hrow c
  go_wp2_with fail
  obtain ⟨V, R, h1, h2⟩ := HD6.out
  have hkk : Keeps (fun k => k = s.gW) W6 (((W6.setCell ⟨s.gW, 1, none⟩ (.bool true)).setCell ⟨s.gW, 3, none⟩ (.slice none 0 0)).setCell ⟨s.gW, 7, none⟩ (.map none)) := ((((Keeps.refl (fun k => k = s.gW) W6).setCell s.gW 1 (.bool true) (.inl rfl)).setCell s.gW 3 (.slice none 0 0) (.inl rfl)).setCell s.gW 7 (.map none) (.inl rfl))
  have hr1 := heap_setCell_same W6 s.gW 1 _ _ (.bool true) HROW.out
  have hr2 := heap_setCell_same _ s.gW 3 _ _ (.slice none 0 0) hr1
  have hr3 := heap_setCell_same _ s.gW 7 _ _ (.map none) hr2
  obtain ⟨W7, hW7⟩ : ∃ ww, ww = ((W6.setCell ⟨s.gW, 1, none⟩ (.bool true)).setCell ⟨s.gW, 3, none⟩ (.slice none 0 0)).setCell ⟨s.gW, 7, none⟩ (.map none) := ⟨_, rfl⟩
  rw [← hW7] at hkk hr3 ⊢
  have a1 : ¬ s6.gO = s.gW := fun e => by
    have := h2.k.apart .o .w s.gW (congrArg some e) (by show some s6.gW = _; rw [HE6.out.gW])
    cases this
  have a2 : s6.vO.ownBlock ≠ some s.gW := fun e => by
    have := h2.k.apart .ov .w s.gW e (by show some s6.gW = _; rw [HE6.out.gW])
    cases this
  have hwr := Wr.keep3 h2.k.wr hkk a1 a2
  have hfl : (alig (finL B)).length ≤ 562949953421312 := by
    have h1 := fin_len B
    have h2 := al8_ge (finL B).length
    have h3 := nb_le B.length
    unfold alig
    rw [List.length_append, List.length_replicate]
    omega
  have htk := take_any base s6.gO V R T0 s6.vO W7 hwr (by rw [← h1.len]; exact hfl)
  obtain ⟨t1, t2, t3⟩ := h1.take
  have hout : bytesN V (R / 8) = outN (endL B) T0 := by unfold outN endL; rw [t3, h1.num]
  have HOUT := Lib.hid hout
  have HR3 := Lib.hid hr3
  have HKK := Lib.hid (HE6.out.keeps.trans hkk (fun k e => .inl ⟨.w, by rw [e]; rfl⟩))
  have HFV := Lib.hid (show ∀ k, s6.vO.ownBlock = some k → s.own k ∨ w.heap.size ≤ k from fun k hk => HE6.out.fresh k ⟨.ov, hk⟩)
  have HA1 := Lib.hid a1
  have HA2 := Lib.hid a2
  have HGO := Lib.hid (HE6.out.gO)
  rw [HE6.out.gO] at htk
  clear hW7 hkk hr1 hr2 hr3 hwr a1 a2 h1 h2 t1 t2 t3 hout HD6 HROW c1 c2 c3 c7 f1 f3 f7 hfl
  refine htk.mono ?_
  rintro e W8 ⟨x, v8, rfl, ⟨hnx, -⟩, -, hk8, -, hxb⟩
  have HNX := Lib.hid hnx
  have HK8 := Lib.hid hk8
  have HXB := Lib.hid hxb
  clear hnx hk8 hxb htk
  go_wp2_with fail
  go_ret2
  refine ⟨x, rfl, by rw [← HOUT.out]; exact HNX.out, ⟨_, (HK8.out.block _ (lt_of_heap HR3.out) (fun hf => ?_)).trans HR3.out, rfl⟩, ?_, fun k hk => ?_⟩
  · rcases hf with e | e
    · exact HA1.out (HGO.out.trans e.symm)
    · exact HA2.out e
  · refine HKK.out.trans HK8.out (fun k hf => ?_)
    rcases hf with e | e
    · exact .inl ⟨.o, by rw [e]; rfl⟩
    · exact HFV.out k e
  · have h9 := (HXB.out k hk).1
    exact ⟨HFV.out k h9, fun e => HA2.out (by rw [h9, e])⟩
theorem end_small (base : Nat) (w : World) (s : Dg) (B : List Nat) (h : Ws base w s B) (hlen : B.length ≤ 32768) :
    Calls Try.prog 40 #[.pointer (some ⟨s.gW, 0, none⟩)] w fun e w' => ∃ x, e = .returned (.tuple #[x, .int .i64 0]) ∧ Nums .u8 256 w' x (outN (endL B) ((bitsW B).length / 8)) ∧ RowE w' s.gW ∧ Keeps s.own w w' ∧ (∀ k, x.ownBlock = some k → (s.own k ∨ w.heap.size ≤ k) ∧ ¬ k = s.gW) :=
  end_any base w s B 0 h (by omega) (fun w1 N h1 => prune_ds h1 (Nat.zero_le _) (by unfold nb; omega) (by unfold nb; omega))
end Go.Proofs.Ytighlefajekloaa.DefCb
