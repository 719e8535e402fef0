/- The walks of light.Bounce and of the reference's: the round way. -/
import Derived.Test.YtnfbeldiideonaaLightD
import Derived.Test.YtnfbeldiideonaaLightB
import Derived.Test.YtnfbeldiideonaaLightR
set_option linter.unusedVariables false
set_option linter.unusedSimpArgs false
namespace Go.Proofs.Ytnfbeldiideonaa.LightH
open Go.RowKit Go.Sort FixM Base Num FixW FixV FixU FixT FixS FixO FixN FixK FixP Qb Qt VecW VecV VecU VecR LightM LightW LightQ LightK Qa LightC LightP LightD LightR LightB

/-- Bounce's way and its result's block, in a later world -/
structure Bn (w : World) (n : V3) (W : World) : Prop where
  h1 : W.heap[w.heap.size + 1]? = some (box3 n)
  h2 : W.heap[w.heap.size + 1 + 1]? = some (box3 ⟨0, 0, 0⟩)
  hb : Below w.heap.size w W
theorem in_sinF (x : Int) : In (sinF x) := by have := sinF_in x; unfold In; omega
theorem in_cosF (x : Int) : In (cosF x) := in_sinF _
theorem Bn.step {w W W' : World} {n : V3} (h : Bn w n W) (hb : Below W.heap.size W W') : Bn w n W' :=
  ⟨(hb.block _ (lt_of_heap h.h1)).trans h.h1, (hb.block _ (lt_of_heap h.h2)).trans h.h2, h.hb.trans (hb.mono h.hb.size)⟩
theorem Bn.put {w W : World} {n : V3} (h : Bn w n W) {g : Nat} (hg : W.heap.size ≤ g) {W' : World} (hb : Below W.heap.size W W') (cs : Array Value) : Bn w n (W'.setRow g cs) := by
  have l1 := lt_of_heap h.h1
  have l2 := lt_of_heap h.h2
  have h' := h.step hb
  exact ⟨(setRow_other _ _ _ _ (by omega)).trans h'.h1, (setRow_other _ _ _ _ (by omega)).trans h'.h2, below_setRow h'.hb (by omega) _⟩

set_option maxRecDepth 100000 in
set_option maxHeartbeats 8000000 in
theorem round_any (k : Int) (d n : V3) (a b : Int) (hk : k ≠ 2) (hd : d.ok) (hn : n.ok) (ha : In a) (hb : In b) (w : World) : Calls Try.prog 10 #[.int .u8 k, vecV d, vecV n, .int .i64 a, .int .i64 b] w (VTo (vecV (roundF n a b)) w) := by
  have hone : In 4294967296 := by unfold In; omega
  have hturn : In 26986075409 := by unfold In; omega
  have hk2 : (k == 2) = false := by simpa using hk
  obtain ⟨p, hp⟩ : ∃ p, p = axisF n.x := ⟨_, rfl⟩
  have okp : p.ok := by rw [hp]; exact ok_axis _
  have S1 := fun W => vcross_any p n okp hn W
  obtain ⟨q, hq⟩ : ∃ q, q = crossF p n := ⟨_, rfl⟩
  rw [← hq] at S1
  have okq : q.ok := by rw [hq]; exact ok_cross _ _
  have S2 := fun W => vunit_any q okq W
  obtain ⟨t, ht⟩ : ∃ t, t = unitF q := ⟨_, rfl⟩
  rw [← ht] at S2
  have okt : t.ok := by rw [ht]; exact ok_unit _
  have S3 := fun W => vcross_any n t hn okt W
  obtain ⟨v, hv⟩ : ∃ v, v = crossF n t := ⟨_, rfl⟩
  rw [← hv] at S3
  have okv : v.ok := by rw [hv]; exact ok_cross _ _
  have in_sqrt : ∀ x, In x → In (sqrtF x) := fun x hx => by have := sqrtF_in x hx.2; unfold In; omega
  have M1 := fun W => mul_any 26986075409 a hturn.1 hturn.2 ha.1 ha.2 W
  obtain ⟨x, hx⟩ : ∃ c, c = mulF 26986075409 a := ⟨_, rfl⟩
  rw [← hx] at M1
  have ix : In x := by rw [hx]; exact in_mul _ _
  have R1 := fun W => sqrt_any b hb.1 hb.2 W
  obtain ⟨r, hr⟩ : ∃ c, c = sqrtF b := ⟨_, rfl⟩
  rw [← hr] at R1
  have ir : In r := by rw [hr]; exact in_sqrt _ hb
  have B1 := fun W => sub_any 4294967296 b hone.1 hone.2 hb.1 hb.2 W
  obtain ⟨y, hy⟩ : ∃ c, c = subF 4294967296 b := ⟨_, rfl⟩
  rw [← hy] at B1
  have iy : In y := by rw [hy]; exact in_sub _ _
  have R2 := fun W => sqrt_any y iy.1 iy.2 W
  obtain ⟨z, hz⟩ : ∃ c, c = sqrtF y := ⟨_, rfl⟩
  rw [← hz] at R2
  have iz : In z := by rw [hz]; exact in_sqrt _ iy
  have C1 := fun W => cos_any x ix.1 ix.2 W
  obtain ⟨cs, hcs⟩ : ∃ c, c = cosF x := ⟨_, rfl⟩
  rw [← hcs] at C1
  have ics : In cs := by rw [hcs]; exact in_cosF x
  have C2 := fun W => sin_any x ix.1 ix.2 W
  obtain ⟨sn, hsn⟩ : ∃ c, c = sinF x := ⟨_, rfl⟩
  rw [← hsn] at C2
  have isn : In sn := by rw [hsn]; exact in_sinF x
  have M2 := fun W => mul_any r cs ir.1 ir.2 ics.1 ics.2 W
  obtain ⟨rc, hrc⟩ : ∃ c, c = mulF r cs := ⟨_, rfl⟩
  rw [← hrc] at M2
  have irc : In rc := by rw [hrc]; exact in_mul _ _
  have M3 := fun W => mul_any r sn ir.1 ir.2 isn.1 isn.2 W
  obtain ⟨rs, hrs⟩ : ∃ c, c = mulF r sn := ⟨_, rfl⟩
  rw [← hrs] at M3
  have irs : In rs := by rw [hrs]; exact in_mul _ _
  have T1 := fun W => qb (P := Try.prog) (W := W) (fun w2 _ => vscale_any t rc okt irc w2)
  have T2 := fun W => qb (P := Try.prog) (W := W) (fun w2 _ => vscale_any v rs okv irs w2)
  obtain ⟨t1, ht1⟩ : ∃ c, c = map1 (fun x => mulF x rc) t := ⟨_, rfl⟩
  obtain ⟨t2, ht2⟩ : ∃ c, c = map1 (fun x => mulF x rs) v := ⟨_, rfl⟩
  rw [← ht1] at T1
  rw [← ht2] at T2
  have okt1 : t1.ok := by rw [ht1]; exact ok_map1 (fun x => in_mul _ _) _
  have okt2 : t2.ok := by rw [ht2]; exact ok_map1 (fun x => in_mul _ _) _
  have T3 := fun W => qb (P := Try.prog) (W := W) (fun w2 _ => vadd_any t1 t2 okt1 okt2 w2)
  obtain ⟨fl, hfl⟩ : ∃ c, c = map2 addF t1 t2 := ⟨_, rfl⟩
  rw [← hfl] at T3
  have okfl : fl.ok := by rw [hfl]; exact ok_map2 in_add _ _
  have T4 := fun W => qb (P := Try.prog) (W := W) (fun w2 _ => vscale_any n z hn iz w2)
  obtain ⟨nz, hnz⟩ : ∃ c, c = map1 (fun x => mulF x z) n := ⟨_, rfl⟩
  rw [← hnz] at T4
  have oknz : nz.ok := by rw [hnz]; exact ok_map1 (fun x => in_mul _ _) _
  have T5 := fun W => qb (P := Try.prog) (W := W) (fun w2 _ => vadd_any fl nz okfl oknz w2)
  obtain ⟨sm, hsm⟩ : ∃ c, c = map2 addF fl nz := ⟨_, rfl⟩
  rw [← hsm] at T5
  have oksm : sm.ok := by rw [hsm]; exact ok_map2 in_add _ _
  have T6 := fun W => qb (P := Try.prog) (W := W) (fun w2 _ => vunit_any sm oksm w2)
  have hres : roundF n a b = unitF sm := by
    rw [hsm, hnz, hfl, ht2, ht1, hrs, hrc, hsn, hcs, hz, hy, hr, hx, hv, ht, hq, hp]; rfl
  obtain ⟨e, he⟩ : ∃ c, c = unitF sm := ⟨_, rfl⟩
  rw [hres]
  rw [← he] at T6 ⊢
  have E1 := fun W => qs (P := Try.prog) (W := W) (fun w => C1 w)
  have E2 := fun W => qs (P := Try.prog) (W := W) (fun w => C2 w)
  have E3 := fun W => qs (P := Try.prog) (W := W) (fun w => M2 w)
  have E4 := fun W => qs (P := Try.prog) (W := W) (fun w => M3 w)
  have NG := fun W => neg_any n.x hn.1.1 hn.1.2 W
  have hax := hp
  unfold axisF at hax
  clear hres he hsm hnz hfl ht2 ht1 hrs hrc hsn hcs hz hy hr hx hv ht hq hp oksm oknz okfl okt1 okt2 irc irs isn ics iz iy ir ix in_sqrt okv okt okq okp C1 C2 M2 M3 hone hturn hk
  obtain ⟨d1, d2, d3⟩ := d
  obtain ⟨n1, n2, n3⟩ := n
  obtain ⟨p1, p2, p3⟩ := p
  obtain ⟨q1, q2, q3⟩ := q
  obtain ⟨u1, u2, u3⟩ := t
  obtain ⟨v1, v2, v3⟩ := v
  obtain ⟨l1, l2, l3⟩ := t1
  obtain ⟨m1, m2, m3⟩ := t2
  obtain ⟨f1, f2, f3⟩ := fl
  obtain ⟨o1, o2, o3⟩ := nz
  obtain ⟨s1, s2, s3⟩ := sm
  obtain ⟨e1, e2, e3⟩ := e
  dsimp only [vecV] at *
  have HS1 := Lib.hid S1
  have HS2 := Lib.hid S2
  have HS3 := Lib.hid S3
  have HM1 := Lib.hid M1
  have HR1 := Lib.hid R1
  have HB1 := Lib.hid B1
  have HR2 := Lib.hid R2
  have HT1 := Lib.hid T1
  have HT2 := Lib.hid T2
  have HT3 := Lib.hid T3
  have HT4 := Lib.hid T4
  have HT5 := Lib.hid T5
  have HT6 := Lib.hid T6
  have HE1 := Lib.hid E1
  have HE2 := Lib.hid E2
  have HE3 := Lib.hid E3
  have HE4 := Lib.hid E4
  have HNG := Lib.hid NG
  clear S1 S2 S3 M1 R1 B1 R2 T1 T2 T3 T4 T5 T6 E1 E2 E3 E4 NG
  obtain ⟨W, hW⟩ : ∃ W, W = ((w.alloc (box3 ⟨d1, d2, d3⟩)).alloc (box3 ⟨n1, n2, n3⟩)).alloc (box3 ⟨0, 0, 0⟩) := ⟨_, rfl⟩
  have K := Lib.hid (show Bn w ⟨n1, n2, n3⟩ W from ⟨by rw [hW]; exact alloc3_1 _ _ _ _, by rw [hW]; exact alloc3_2 _ _ _ _, by rw [hW]; exact alloc3_below _ _ _ _⟩)
  have HWW := Lib.hid hW
  obtain ⟨c0, c1, c2⟩ := cells_now K.out.h1
  clear hW ha hb hd hn
  have HX := Lib.hid hax
  clear hax
  by_cases h1 : n1 < 0
  · by_cases h2 : negF n1 ≤ 2147483648
    · have d1 : decide (n1 < 0) = true := decide_eq_true h1
      have hx := HX.out
      simp only [if_pos h1] at hx
      obtain ⟨sz, hsz⟩ : ∃ c, c = negF n1 := ⟨_, rfl⟩
      rw [← hsz] at h2 HNG hx
      clear hsz
      have d2 : decide (sz ≤ 2147483648) = true := decide_eq_true h2
      rw [if_pos h2] at hx
      obtain ⟨rfl, rfl, rfl⟩ := V3.mk.inj hx
      clear hx h1 h2 HX
      go_enter Try.func10, Try.ntmps10
      go_wp2_with fail
      rw [← HWW.out]
      clear HWW
      refine (HM1.out _).mono ?_
      rintro e w' ⟨rfl, rfl⟩
      go_wp2_with fail
      refine (HR1.out _).mono ?_
      rintro e w' ⟨rfl, rfl⟩
      go_wp2_with fail
      refine (HB1.out _).mono ?_
      rintro e w' ⟨rfl, rfl⟩
      go_wp2_with fail
      refine (HR2.out _).mono ?_
      rintro e w' ⟨rfl, rfl⟩
      clear HM1 HR1 HB1 HR2
      go_wp2_with fail
      refine (HNG.out _).mono ?_
      rintro e w' ⟨rfl, rfl⟩
      clear HNG
      obtain ⟨W1, hv1⟩ : ∃ V, V = (W.alloc (box3 ⟨0, 0, 0⟩)).setRow W.heap.size #[.int .i64 0, .int .i64 4294967296, .int .i64 0] := ⟨_, rfl⟩
      have G1 := Lib.hid (show W1.heap[W.heap.size]? = some (box3 ⟨0, 4294967296, 0⟩) by rw [hv1]; exact put3_row _ _ _ _)
      have K1 := Lib.hid (K.out.step (show Below W.heap.size W W1 by rw [hv1]; exact put3_ext _ _ _ _))
      have hlt := lt_of_heap K.out.h2
      go_upto_region 10 with (with_reducible refine store_vec rfl (.tmp 15) (.tmp 37) rfl rfl W.heap.size 0 4294967296 0 rfl rfl _ _ _ (heap_alloc_new _ _) ?_)
      rw [← hv1]
      clear hv1 K c0 c1 c2
      generalize W.heap.size = g15 at *
      clear W
      have GA := Lib.hid (setRow_heap W1 g15 _ #[.int .i64 4294967296, .int .i64 0, .int .i64 0] _ _ G1.out)
      have KA := Lib.hid (show Bn w ⟨n1, n2, n3⟩ (W1.setRow g15 #[.int .i64 4294967296, .int .i64 0, .int .i64 0]) from ⟨(setRow_other _ _ _ _ (by omega)).trans K1.out.h1, (setRow_other _ _ _ _ (by omega)).trans K1.out.h2, below_setRow K1.out.hb (by omega) _⟩)
      go_upto_region 12 with (with_reducible refine store_vec rfl (.tmp 15) (.tmp 40) rfl rfl g15 4294967296 0 0 rfl rfl _ _ _ G1.out ?_)
      generalize W1.setRow g15 _ = WA at *
      clear K1 G1 W1
      obtain ⟨b0, b1, b2⟩ := cells_now GA.out
      obtain ⟨c0, c1, c2⟩ := cells_now KA.out.h1
      go_wp2_with fail
      refine (HS1.out _).mono ?_
      rintro e W2 ⟨rfl, hb2⟩
      have K2 := Lib.hid (KA.out.step hb2)
      clear hb2 HS1 b0 b1 b2 c0 c1 c2 KA GA
      clear WA
      go_wp2_with fail
      refine (HS2.out _).mono ?_
      rintro e W3 ⟨rfl, hb3⟩
      have K3 := Lib.hid (K2.out.step hb3)
      clear hb3 HS2 K2 W2
      obtain ⟨W4, hW4⟩ : ∃ V, V = (W3.alloc (box3 ⟨0, 0, 0⟩)).setRow W3.heap.size #[.int .i64 u1, .int .i64 u2, .int .i64 u3] := ⟨_, rfl⟩
      have T4 := Lib.hid (show W4.heap[W3.heap.size]? = some (box3 ⟨u1, u2, u3⟩) by rw [hW4]; exact put3_row _ _ _ _)
      have K4 := Lib.hid (K3.out.step (show Below W3.heap.size W3 W4 by rw [hW4]; exact put3_ext _ _ _ _))
      go_upto_region 13 with (with_reducible refine store_vec rfl (.tmp 16) (.tmp 44) rfl rfl W3.heap.size u1 u2 u3 rfl rfl _ _ _ (heap_alloc_new _ _) ?_)
      rw [← hW4]
      clear hW4 K3
      generalize W3.heap.size = g16 at *
      clear W3
      obtain ⟨b0, b1, b2⟩ := cells_now T4.out
      obtain ⟨c0, c1, c2⟩ := cells_now K4.out.h1
      go_wp2_with fail
      refine (HS3.out _).mono ?_
      rintro e W5 ⟨rfl, hb5⟩
      have K5 := Lib.hid (K4.out.step hb5)
      have T5 := Lib.hid (vec_step T4.out hb5)
      clear hb5 HS3 b0 b1 b2 c0 c1 c2 K4 T4 W4
      obtain ⟨W6, hW6⟩ : ∃ V, V = (W5.alloc (box3 ⟨0, 0, 0⟩)).setRow W5.heap.size #[.int .i64 v1, .int .i64 v2, .int .i64 v3] := ⟨_, rfl⟩
      have V6 := Lib.hid (show W6.heap[W5.heap.size]? = some (box3 ⟨v1, v2, v3⟩) by rw [hW6]; exact put3_row _ _ _ _)
      have hb6 : Below W5.heap.size W5 W6 := by rw [hW6]; exact put3_ext _ _ _ _
      have K6 := Lib.hid (K5.out.step hb6)
      have T6 := Lib.hid (vec_step T5.out hb6)
      go_upto_region 14 with (with_reducible refine store_vec rfl (.tmp 17) (.tmp 47) rfl rfl W5.heap.size v1 v2 v3 rfl rfl _ _ _ (heap_alloc_new _ _) ?_)
      rw [← hW6]
      clear hW6 hb6 K5 T5
      generalize W5.heap.size = g17 at *
      clear W5
      refine wp_region_allocs 14 [0, 1, 2, 3, 4, 5, 6, 7, 8, 9, 10, 11, 12] [(13, 18, box3 ⟨0, 0, 0⟩)] (by kernel_rfl) (by kernel_rfl) (by
        intro x hx
        simp only [List.mem_cons, List.not_mem_nil, or_false] at hx
        rcases hx with rfl
        exact ⟨by decide, _, rfl, ⟨⟨_, rfl, alloc_vec⟩, rfl, rfl⟩⟩) (by decide) (by decide) ?_
      refine Walk.step (A := ?A101) (o := ?o101) ?e101 ?w101 48 ?d101 (by simp) ?h101 ?n101
      case e101 => simp only [List.getElem?_toArray, List.getElem?_cons_succ, List.getElem?_cons_zero]; exact rfl
      case w101 => exact rfl
      case d101 => exact rfl
      case h101 =>
        intro W9 hW9
        obtain ⟨e0, e1, e2⟩ := cells3 ((hW9.block _ (lt_of_heap T6.out)).trans T6.out)
        go_big_quiet_op
        exact rfl
      refine Walk.step (A := ?A102) (o := ?o102) ?e102 ?w102 49 ?d102 (by simp) ?h102 ?n102
      case e102 => simp only [List.getElem?_toArray, List.getElem?_cons_succ, List.getElem?_cons_zero]; exact rfl
      case w102 => exact rfl
      case d102 => exact rfl
      case h102 =>
        intro W9 hW9
        go_big_quiet_op
        exact rfl
      refine Walk.step (A := ?A103) (o := ?o103) ?e103 ?w103 50 ?d103 (by simp) ?h103 ?n103
      case e103 => simp only [List.getElem?_toArray, List.getElem?_cons_succ, List.getElem?_cons_zero]; exact rfl
      case w103 => exact rfl
      case d103 => exact rfl
      case h103 =>
        intro W9 hW9
        go_big_quiet_op
        exact rfl
      refine Walk.step (A := ?A104) (o := ?o104) ?e104 ?w104 51 ?d104 (by simp) ?h104 ?n104
      case e104 => simp only [List.getElem?_toArray, List.getElem?_cons_succ, List.getElem?_cons_zero]; exact rfl
      case w104 => exact rfl
      case d104 => exact rfl
      case h104 =>
        intro W9 hW9
        go_big_quiet_op
        apply Exists.intro
        refine ⟨fun _ => ?_, ?_⟩
        · with_reducible exact HE1.out _ _ _
        · exact rfl
      refine Walk.step (A := ?A105) (o := ?o105) ?e105 ?w105 52 ?d105 (by simp) ?h105 ?n105
      case e105 => simp only [List.getElem?_toArray, List.getElem?_cons_succ, List.getElem?_cons_zero]; exact rfl
      case w105 => exact rfl
      case d105 => exact rfl
      case h105 =>
        intro W9 hW9
        go_big_quiet_op
        apply Exists.intro
        refine ⟨fun _ => ?_, ?_⟩
        · with_reducible exact HE3.out _ _ _
        · exact rfl
      refine Walk.step (A := ?A106) (o := ?o106) ?e106 ?w106 53 ?d106 (by simp) ?h106 ?n106
      case e106 => simp only [List.getElem?_toArray, List.getElem?_cons_succ, List.getElem?_cons_zero]; exact rfl
      case w106 => exact rfl
      case d106 => exact rfl
      case h106 =>
        intro W9 hW9
        go_big_quiet_op
        apply Exists.intro
        refine ⟨fun _ => ?_, ?_⟩
        · with_reducible exact HT1.out _ _ _
        · exact rfl
      refine Walk.step (A := ?A107) (o := ?o107) ?e107 ?w107 54 ?d107 (by simp) ?h107 ?n107
      case e107 => simp only [List.getElem?_toArray, List.getElem?_cons_succ, List.getElem?_cons_zero]; exact rfl
      case w107 => exact rfl
      case d107 => exact rfl
      case h107 =>
        intro W9 hW9
        obtain ⟨e0, e1, e2⟩ := cells3 ((hW9.block _ (lt_of_heap V6.out)).trans V6.out)
        go_big_quiet_op
        exact rfl
      refine Walk.step (A := ?A108) (o := ?o108) ?e108 ?w108 55 ?d108 (by simp) ?h108 ?n108
      case e108 => simp only [List.getElem?_toArray, List.getElem?_cons_succ, List.getElem?_cons_zero]; exact rfl
      case w108 => exact rfl
      case d108 => exact rfl
      case h108 =>
        intro W9 hW9
        go_big_quiet_op
        exact rfl
      refine Walk.step (A := ?A109) (o := ?o109) ?e109 ?w109 56 ?d109 (by simp) ?h109 ?n109
      case e109 => simp only [List.getElem?_toArray, List.getElem?_cons_succ, List.getElem?_cons_zero]; exact rfl
      case w109 => exact rfl
      case d109 => exact rfl
      case h109 =>
        intro W9 hW9
        go_big_quiet_op
        exact rfl
      refine Walk.step (A := ?A110) (o := ?o110) ?e110 ?w110 57 ?d110 (by simp) ?h110 ?n110
      case e110 => simp only [List.getElem?_toArray, List.getElem?_cons_succ, List.getElem?_cons_zero]; exact rfl
      case w110 => exact rfl
      case d110 => exact rfl
      case h110 =>
        intro W9 hW9
        go_big_quiet_op
        apply Exists.intro
        refine ⟨fun _ => ?_, ?_⟩
        · with_reducible exact HE2.out _ _ _
        · exact rfl
      refine Walk.step (A := ?A111) (o := ?o111) ?e111 ?w111 58 ?d111 (by simp) ?h111 ?n111
      case e111 => simp only [List.getElem?_toArray, List.getElem?_cons_succ, List.getElem?_cons_zero]; exact rfl
      case w111 => exact rfl
      case d111 => exact rfl
      case h111 =>
        intro W9 hW9
        go_big_quiet_op
        apply Exists.intro
        refine ⟨fun _ => ?_, ?_⟩
        · with_reducible exact HE4.out _ _ _
        · exact rfl
      refine Walk.step (A := ?A112) (o := ?o112) ?e112 ?w112 59 ?d112 (by simp) ?h112 ?n112
      case e112 => simp only [List.getElem?_toArray, List.getElem?_cons_succ, List.getElem?_cons_zero]; exact rfl
      case w112 => exact rfl
      case d112 => exact rfl
      case h112 =>
        intro W9 hW9
        go_big_quiet_op
        apply Exists.intro
        refine ⟨fun _ => ?_, ?_⟩
        · with_reducible exact HT2.out _ _ _
        · exact rfl
      refine Walk.step (A := ?A113) (o := ?o113) ?e113 ?w113 60 ?d113 (by simp) ?h113 ?n113
      case e113 => simp only [List.getElem?_toArray, List.getElem?_cons_succ, List.getElem?_cons_zero]; exact rfl
      case w113 => exact rfl
      case d113 => exact rfl
      case h113 =>
        intro W9 hW9
        go_big_quiet_op
        apply Exists.intro
        refine ⟨fun _ => ?_, ?_⟩
        · with_reducible exact HT3.out _ _ _
        · exact rfl
      simp only [Walk, All]
      intro g18 hg hf w2 hD2
      have k18 : w2.heap[g18]? = some (box3 ⟨0, 0, 0⟩) := hD2.2 (g18, box3 ⟨0, 0, 0⟩) (by simp)
      have K7 := Lib.hid (K6.out.put hg hD2.1 #[.int .i64 f1, .int .i64 f2, .int .i64 f3])
      clear hf hD2 hg
      simp only [List.drop_succ_cons, List.drop_zero, Act.put, List.setIfInBounds_toArray, List.set_cons_succ, List.set_cons_zero, ptr]
      refine store_vec rfl (.tmp 18) (.tmp 60) rfl rfl g18 f1 f2 f3 rfl rfl _ _ _ k18 ?_
      have F7 := Lib.hid (setRow_heap w2 g18 _ #[.int .i64 f1, .int .i64 f2, .int .i64 f3] _ _ k18)
      clear k18 K6 T6 V6
      generalize w2.setRow g18 _ = W7 at *
      clear w2 W6 HE1 HE2 HE3 HE4 HT1 HT2 HT3
      go_upto_region 15 with (fail)
      obtain ⟨b0, b1, b2⟩ := cells3 F7.out
      obtain ⟨c0, c1, c2⟩ := cells3 K7.out.h1
      have HR := Lib.hid K7.out.h2
      have HB := Lib.hid K7.out.hb
      clear K7 F7
      refine wp_region_below_tail 6 (by kernel_rfl) (by kernel_rfl) ?_
      simp only [List.take_succ_cons, List.take_zero, List.drop_succ_cons, List.drop_zero]
      repeat (go_big_quiet_step (first | (with_reducible exact HT4.out _ _ _) | (with_reducible exact HT5.out _ _ _) | (with_reducible exact HT6.out _ _ _)))
      refine wpQuiet_nil ?_
      rintro _ ⟨⟨dq, osq⟩, rfl⟩
      clear b0 b1 b2 c0 c1 c2
      refine store_vec rfl (.tmp 10) (.tmp 66) rfl rfl (w.heap.size + 1 + 1) e1 e2 e3 rfl rfl _ _ _ (heap_regrown HR.out dq osq) ?_
      have hb2 : Below w.heap.size w (grow (redrawn W7 dq) osq) := HB.out.trans ((below_regrown W7 dq osq).mono HB.out.size)
      have H4 := Lib.hid (setRow_heap (grow (redrawn W7 dq) osq) (w.heap.size + 1 + 1) _ #[.int .i64 e1, .int .i64 e2, .int .i64 e3] _ _ (heap_regrown HR.out dq osq))
      have HB4 := Lib.hid (below_setRow hb2 (show w.heap.size ≤ w.heap.size + 1 + 1 by omega) #[.int .i64 e1, .int .i64 e2, .int .i64 e3])
      clear hb2
      generalize (grow (redrawn W7 dq) osq).setRow (w.heap.size + 1 + 1) #[.int .i64 e1, .int .i64 e2, .int .i64 e3] = w3 at *
      go_wp2_with fail
      refine bodyPost_ret (results_cell_row rfl _ _ (w.heap.size + 1 + 1) 23 _ _ _ rfl H4.out Try.underlying23 rfl vec_size) rfl ?_
      exact ⟨rfl, HB4.out⟩
    · have d1 : decide (n1 < 0) = true := decide_eq_true h1
      have hx := HX.out
      simp only [if_pos h1] at hx
      obtain ⟨sz, hsz⟩ : ∃ c, c = negF n1 := ⟨_, rfl⟩
      rw [← hsz] at h2 HNG hx
      clear hsz
      have d2 : decide (sz ≤ 2147483648) = false := decide_eq_false h2
      rw [if_neg h2] at hx
      obtain ⟨rfl, rfl, rfl⟩ := V3.mk.inj hx
      clear hx h1 h2 HX
      go_enter Try.func10, Try.ntmps10
      go_wp2_with fail
      rw [← HWW.out]
      clear HWW
      refine (HM1.out _).mono ?_
      rintro e w' ⟨rfl, rfl⟩
      go_wp2_with fail
      refine (HR1.out _).mono ?_
      rintro e w' ⟨rfl, rfl⟩
      go_wp2_with fail
      refine (HB1.out _).mono ?_
      rintro e w' ⟨rfl, rfl⟩
      go_wp2_with fail
      refine (HR2.out _).mono ?_
      rintro e w' ⟨rfl, rfl⟩
      clear HM1 HR1 HB1 HR2
      go_wp2_with fail
      refine (HNG.out _).mono ?_
      rintro e w' ⟨rfl, rfl⟩
      clear HNG
      obtain ⟨W1, hv1⟩ : ∃ V, V = (W.alloc (box3 ⟨0, 0, 0⟩)).setRow W.heap.size #[.int .i64 0, .int .i64 4294967296, .int .i64 0] := ⟨_, rfl⟩
      have G1 := Lib.hid (show W1.heap[W.heap.size]? = some (box3 ⟨0, 4294967296, 0⟩) by rw [hv1]; exact put3_row _ _ _ _)
      have K1 := Lib.hid (K.out.step (show Below W.heap.size W W1 by rw [hv1]; exact put3_ext _ _ _ _))
      have hlt := lt_of_heap K.out.h2
      go_upto_region 10 with (with_reducible refine store_vec rfl (.tmp 15) (.tmp 37) rfl rfl W.heap.size 0 4294967296 0 rfl rfl _ _ _ (heap_alloc_new _ _) ?_)
      rw [← hv1]
      clear hv1 K c0 c1 c2
      generalize W.heap.size = g15 at *
      clear W
      go_upto_region 12 with (fail)
      clear hlt
      obtain ⟨b0, b1, b2⟩ := cells_now G1.out
      obtain ⟨c0, c1, c2⟩ := cells_now K1.out.h1
      go_wp2_with fail
      refine (HS1.out _).mono ?_
      rintro e W2 ⟨rfl, hb2⟩
      have K2 := Lib.hid (K1.out.step hb2)
      clear hb2 HS1 b0 b1 b2 c0 c1 c2 K1 G1
      clear W1
      go_wp2_with fail
      refine (HS2.out _).mono ?_
      rintro e W3 ⟨rfl, hb3⟩
      have K3 := Lib.hid (K2.out.step hb3)
      clear hb3 HS2 K2 W2
      obtain ⟨W4, hW4⟩ : ∃ V, V = (W3.alloc (box3 ⟨0, 0, 0⟩)).setRow W3.heap.size #[.int .i64 u1, .int .i64 u2, .int .i64 u3] := ⟨_, rfl⟩
      have T4 := Lib.hid (show W4.heap[W3.heap.size]? = some (box3 ⟨u1, u2, u3⟩) by rw [hW4]; exact put3_row _ _ _ _)
      have K4 := Lib.hid (K3.out.step (show Below W3.heap.size W3 W4 by rw [hW4]; exact put3_ext _ _ _ _))
      go_upto_region 13 with (with_reducible refine store_vec rfl (.tmp 16) (.tmp 44) rfl rfl W3.heap.size u1 u2 u3 rfl rfl _ _ _ (heap_alloc_new _ _) ?_)
      rw [← hW4]
      clear hW4 K3
      generalize W3.heap.size = g16 at *
      clear W3
      obtain ⟨b0, b1, b2⟩ := cells_now T4.out
      obtain ⟨c0, c1, c2⟩ := cells_now K4.out.h1
      go_wp2_with fail
      refine (HS3.out _).mono ?_
      rintro e W5 ⟨rfl, hb5⟩
      have K5 := Lib.hid (K4.out.step hb5)
      have T5 := Lib.hid (vec_step T4.out hb5)
      clear hb5 HS3 b0 b1 b2 c0 c1 c2 K4 T4 W4
      obtain ⟨W6, hW6⟩ : ∃ V, V = (W5.alloc (box3 ⟨0, 0, 0⟩)).setRow W5.heap.size #[.int .i64 v1, .int .i64 v2, .int .i64 v3] := ⟨_, rfl⟩
      have V6 := Lib.hid (show W6.heap[W5.heap.size]? = some (box3 ⟨v1, v2, v3⟩) by rw [hW6]; exact put3_row _ _ _ _)
      have hb6 : Below W5.heap.size W5 W6 := by rw [hW6]; exact put3_ext _ _ _ _
      have K6 := Lib.hid (K5.out.step hb6)
      have T6 := Lib.hid (vec_step T5.out hb6)
      go_upto_region 14 with (with_reducible refine store_vec rfl (.tmp 17) (.tmp 47) rfl rfl W5.heap.size v1 v2 v3 rfl rfl _ _ _ (heap_alloc_new _ _) ?_)
      rw [← hW6]
      clear hW6 hb6 K5 T5
      generalize W5.heap.size = g17 at *
      clear W5
      refine wp_region_allocs 14 [0, 1, 2, 3, 4, 5, 6, 7, 8, 9, 10, 11, 12] [(13, 18, box3 ⟨0, 0, 0⟩)] (by kernel_rfl) (by kernel_rfl) (by
        intro x hx
        simp only [List.mem_cons, List.not_mem_nil, or_false] at hx
        rcases hx with rfl
        exact ⟨by decide, _, rfl, ⟨⟨_, rfl, alloc_vec⟩, rfl, rfl⟩⟩) (by decide) (by decide) ?_
      refine Walk.step (A := ?A214) (o := ?o214) ?e214 ?w214 48 ?d214 (by simp) ?h214 ?n214
      case e214 => simp only [List.getElem?_toArray, List.getElem?_cons_succ, List.getElem?_cons_zero]; exact rfl
      case w214 => exact rfl
      case d214 => exact rfl
      case h214 =>
        intro W9 hW9
        obtain ⟨e0, e1, e2⟩ := cells3 ((hW9.block _ (lt_of_heap T6.out)).trans T6.out)
        go_big_quiet_op
        exact rfl
      refine Walk.step (A := ?A215) (o := ?o215) ?e215 ?w215 49 ?d215 (by simp) ?h215 ?n215
      case e215 => simp only [List.getElem?_toArray, List.getElem?_cons_succ, List.getElem?_cons_zero]; exact rfl
      case w215 => exact rfl
      case d215 => exact rfl
      case h215 =>
        intro W9 hW9
        go_big_quiet_op
        exact rfl
      refine Walk.step (A := ?A216) (o := ?o216) ?e216 ?w216 50 ?d216 (by simp) ?h216 ?n216
      case e216 => simp only [List.getElem?_toArray, List.getElem?_cons_succ, List.getElem?_cons_zero]; exact rfl
      case w216 => exact rfl
      case d216 => exact rfl
      case h216 =>
        intro W9 hW9
        go_big_quiet_op
        exact rfl
      refine Walk.step (A := ?A217) (o := ?o217) ?e217 ?w217 51 ?d217 (by simp) ?h217 ?n217
      case e217 => simp only [List.getElem?_toArray, List.getElem?_cons_succ, List.getElem?_cons_zero]; exact rfl
      case w217 => exact rfl
      case d217 => exact rfl
      case h217 =>
        intro W9 hW9
        go_big_quiet_op
        apply Exists.intro
        refine ⟨fun _ => ?_, ?_⟩
        · with_reducible exact HE1.out _ _ _
        · exact rfl
      refine Walk.step (A := ?A218) (o := ?o218) ?e218 ?w218 52 ?d218 (by simp) ?h218 ?n218
      case e218 => simp only [List.getElem?_toArray, List.getElem?_cons_succ, List.getElem?_cons_zero]; exact rfl
      case w218 => exact rfl
      case d218 => exact rfl
      case h218 =>
        intro W9 hW9
        go_big_quiet_op
        apply Exists.intro
        refine ⟨fun _ => ?_, ?_⟩
        · with_reducible exact HE3.out _ _ _
        · exact rfl
      refine Walk.step (A := ?A219) (o := ?o219) ?e219 ?w219 53 ?d219 (by simp) ?h219 ?n219
      case e219 => simp only [List.getElem?_toArray, List.getElem?_cons_succ, List.getElem?_cons_zero]; exact rfl
      case w219 => exact rfl
      case d219 => exact rfl
      case h219 =>
        intro W9 hW9
        go_big_quiet_op
        apply Exists.intro
        refine ⟨fun _ => ?_, ?_⟩
        · with_reducible exact HT1.out _ _ _
        · exact rfl
      refine Walk.step (A := ?A220) (o := ?o220) ?e220 ?w220 54 ?d220 (by simp) ?h220 ?n220
      case e220 => simp only [List.getElem?_toArray, List.getElem?_cons_succ, List.getElem?_cons_zero]; exact rfl
      case w220 => exact rfl
      case d220 => exact rfl
      case h220 =>
        intro W9 hW9
        obtain ⟨e0, e1, e2⟩ := cells3 ((hW9.block _ (lt_of_heap V6.out)).trans V6.out)
        go_big_quiet_op
        exact rfl
      refine Walk.step (A := ?A221) (o := ?o221) ?e221 ?w221 55 ?d221 (by simp) ?h221 ?n221
      case e221 => simp only [List.getElem?_toArray, List.getElem?_cons_succ, List.getElem?_cons_zero]; exact rfl
      case w221 => exact rfl
      case d221 => exact rfl
      case h221 =>
        intro W9 hW9
        go_big_quiet_op
        exact rfl
      refine Walk.step (A := ?A222) (o := ?o222) ?e222 ?w222 56 ?d222 (by simp) ?h222 ?n222
      case e222 => simp only [List.getElem?_toArray, List.getElem?_cons_succ, List.getElem?_cons_zero]; exact rfl
      case w222 => exact rfl
      case d222 => exact rfl
      case h222 =>
        intro W9 hW9
        go_big_quiet_op
        exact rfl
      refine Walk.step (A := ?A223) (o := ?o223) ?e223 ?w223 57 ?d223 (by simp) ?h223 ?n223
      case e223 => simp only [List.getElem?_toArray, List.getElem?_cons_succ, List.getElem?_cons_zero]; exact rfl
      case w223 => exact rfl
      case d223 => exact rfl
      case h223 =>
        intro W9 hW9
        go_big_quiet_op
        apply Exists.intro
        refine ⟨fun _ => ?_, ?_⟩
        · with_reducible exact HE2.out _ _ _
        · exact rfl
      refine Walk.step (A := ?A224) (o := ?o224) ?e224 ?w224 58 ?d224 (by simp) ?h224 ?n224
      case e224 => simp only [List.getElem?_toArray, List.getElem?_cons_succ, List.getElem?_cons_zero]; exact rfl
      case w224 => exact rfl
      case d224 => exact rfl
      case h224 =>
        intro W9 hW9
        go_big_quiet_op
        apply Exists.intro
        refine ⟨fun _ => ?_, ?_⟩
        · with_reducible exact HE4.out _ _ _
        · exact rfl
      refine Walk.step (A := ?A225) (o := ?o225) ?e225 ?w225 59 ?d225 (by simp) ?h225 ?n225
      case e225 => simp only [List.getElem?_toArray, List.getElem?_cons_succ, List.getElem?_cons_zero]; exact rfl
      case w225 => exact rfl
      case d225 => exact rfl
      case h225 =>
        intro W9 hW9
        go_big_quiet_op
        apply Exists.intro
        refine ⟨fun _ => ?_, ?_⟩
        · with_reducible exact HT2.out _ _ _
        · exact rfl
      refine Walk.step (A := ?A226) (o := ?o226) ?e226 ?w226 60 ?d226 (by simp) ?h226 ?n226
      case e226 => simp only [List.getElem?_toArray, List.getElem?_cons_succ, List.getElem?_cons_zero]; exact rfl
      case w226 => exact rfl
      case d226 => exact rfl
      case h226 =>
        intro W9 hW9
        go_big_quiet_op
        apply Exists.intro
        refine ⟨fun _ => ?_, ?_⟩
        · with_reducible exact HT3.out _ _ _
        · exact rfl
      simp only [Walk, All]
      intro g18 hg hf w2 hD2
      have k18 : w2.heap[g18]? = some (box3 ⟨0, 0, 0⟩) := hD2.2 (g18, box3 ⟨0, 0, 0⟩) (by simp)
      have K7 := Lib.hid (K6.out.put hg hD2.1 #[.int .i64 f1, .int .i64 f2, .int .i64 f3])
      clear hf hD2 hg
      simp only [List.drop_succ_cons, List.drop_zero, Act.put, List.setIfInBounds_toArray, List.set_cons_succ, List.set_cons_zero, ptr]
      refine store_vec rfl (.tmp 18) (.tmp 60) rfl rfl g18 f1 f2 f3 rfl rfl _ _ _ k18 ?_
      have F7 := Lib.hid (setRow_heap w2 g18 _ #[.int .i64 f1, .int .i64 f2, .int .i64 f3] _ _ k18)
      clear k18 K6 T6 V6
      generalize w2.setRow g18 _ = W7 at *
      clear w2 W6 HE1 HE2 HE3 HE4 HT1 HT2 HT3
      go_upto_region 15 with (fail)
      obtain ⟨b0, b1, b2⟩ := cells3 F7.out
      obtain ⟨c0, c1, c2⟩ := cells3 K7.out.h1
      have HR := Lib.hid K7.out.h2
      have HB := Lib.hid K7.out.hb
      clear K7 F7
      refine wp_region_below_tail 6 (by kernel_rfl) (by kernel_rfl) ?_
      simp only [List.take_succ_cons, List.take_zero, List.drop_succ_cons, List.drop_zero]
      repeat (go_big_quiet_step (first | (with_reducible exact HT4.out _ _ _) | (with_reducible exact HT5.out _ _ _) | (with_reducible exact HT6.out _ _ _)))
      refine wpQuiet_nil ?_
      rintro _ ⟨⟨dq, osq⟩, rfl⟩
      clear b0 b1 b2 c0 c1 c2
      refine store_vec rfl (.tmp 10) (.tmp 66) rfl rfl (w.heap.size + 1 + 1) e1 e2 e3 rfl rfl _ _ _ (heap_regrown HR.out dq osq) ?_
      have hb2 : Below w.heap.size w (grow (redrawn W7 dq) osq) := HB.out.trans ((below_regrown W7 dq osq).mono HB.out.size)
      have H4 := Lib.hid (setRow_heap (grow (redrawn W7 dq) osq) (w.heap.size + 1 + 1) _ #[.int .i64 e1, .int .i64 e2, .int .i64 e3] _ _ (heap_regrown HR.out dq osq))
      have HB4 := Lib.hid (below_setRow hb2 (show w.heap.size ≤ w.heap.size + 1 + 1 by omega) #[.int .i64 e1, .int .i64 e2, .int .i64 e3])
      clear hb2
      generalize (grow (redrawn W7 dq) osq).setRow (w.heap.size + 1 + 1) #[.int .i64 e1, .int .i64 e2, .int .i64 e3] = w3 at *
      go_wp2_with fail
      refine bodyPost_ret (results_cell_row rfl _ _ (w.heap.size + 1 + 1) 23 _ _ _ rfl H4.out Try.underlying23 rfl vec_size) rfl ?_
      exact ⟨rfl, HB4.out⟩
  · by_cases h2 : n1 ≤ 2147483648
    · have d1 : decide (n1 < 0) = false := decide_eq_false h1
      have hx := HX.out
      simp only [if_neg h1] at hx
      have d2 : decide (n1 ≤ 2147483648) = true := decide_eq_true h2
      rw [if_pos h2] at hx
      obtain ⟨rfl, rfl, rfl⟩ := V3.mk.inj hx
      clear hx h1 h2 HX
      go_enter Try.func10, Try.ntmps10
      go_wp2_with fail
      rw [← HWW.out]
      clear HWW
      refine (HM1.out _).mono ?_
      rintro e w' ⟨rfl, rfl⟩
      go_wp2_with fail
      refine (HR1.out _).mono ?_
      rintro e w' ⟨rfl, rfl⟩
      go_wp2_with fail
      refine (HB1.out _).mono ?_
      rintro e w' ⟨rfl, rfl⟩
      go_wp2_with fail
      refine (HR2.out _).mono ?_
      rintro e w' ⟨rfl, rfl⟩
      clear HM1 HR1 HB1 HR2
      clear HNG
      obtain ⟨W1, hv1⟩ : ∃ V, V = (W.alloc (box3 ⟨0, 0, 0⟩)).setRow W.heap.size #[.int .i64 0, .int .i64 4294967296, .int .i64 0] := ⟨_, rfl⟩
      have G1 := Lib.hid (show W1.heap[W.heap.size]? = some (box3 ⟨0, 4294967296, 0⟩) by rw [hv1]; exact put3_row _ _ _ _)
      have K1 := Lib.hid (K.out.step (show Below W.heap.size W W1 by rw [hv1]; exact put3_ext _ _ _ _))
      have hlt := lt_of_heap K.out.h2
      go_upto_region 10 with (with_reducible refine store_vec rfl (.tmp 15) (.tmp 37) rfl rfl W.heap.size 0 4294967296 0 rfl rfl _ _ _ (heap_alloc_new _ _) ?_)
      rw [← hv1]
      clear hv1 K c0 c1 c2
      generalize W.heap.size = g15 at *
      clear W
      have GA := Lib.hid (setRow_heap W1 g15 _ #[.int .i64 4294967296, .int .i64 0, .int .i64 0] _ _ G1.out)
      have KA := Lib.hid (show Bn w ⟨n1, n2, n3⟩ (W1.setRow g15 #[.int .i64 4294967296, .int .i64 0, .int .i64 0]) from ⟨(setRow_other _ _ _ _ (by omega)).trans K1.out.h1, (setRow_other _ _ _ _ (by omega)).trans K1.out.h2, below_setRow K1.out.hb (by omega) _⟩)
      go_upto_region 12 with (with_reducible refine store_vec rfl (.tmp 15) (.tmp 40) rfl rfl g15 4294967296 0 0 rfl rfl _ _ _ G1.out ?_)
      generalize W1.setRow g15 _ = WA at *
      clear K1 G1 W1
      obtain ⟨b0, b1, b2⟩ := cells_now GA.out
      obtain ⟨c0, c1, c2⟩ := cells_now KA.out.h1
      go_wp2_with fail
      refine (HS1.out _).mono ?_
      rintro e W2 ⟨rfl, hb2⟩
      have K2 := Lib.hid (KA.out.step hb2)
      clear hb2 HS1 b0 b1 b2 c0 c1 c2 KA GA
      clear WA
      go_wp2_with fail
      refine (HS2.out _).mono ?_
      rintro e W3 ⟨rfl, hb3⟩
      have K3 := Lib.hid (K2.out.step hb3)
      clear hb3 HS2 K2 W2
      obtain ⟨W4, hW4⟩ : ∃ V, V = (W3.alloc (box3 ⟨0, 0, 0⟩)).setRow W3.heap.size #[.int .i64 u1, .int .i64 u2, .int .i64 u3] := ⟨_, rfl⟩
      have T4 := Lib.hid (show W4.heap[W3.heap.size]? = some (box3 ⟨u1, u2, u3⟩) by rw [hW4]; exact put3_row _ _ _ _)
      have K4 := Lib.hid (K3.out.step (show Below W3.heap.size W3 W4 by rw [hW4]; exact put3_ext _ _ _ _))
      go_upto_region 13 with (with_reducible refine store_vec rfl (.tmp 16) (.tmp 44) rfl rfl W3.heap.size u1 u2 u3 rfl rfl _ _ _ (heap_alloc_new _ _) ?_)
      rw [← hW4]
      clear hW4 K3
      generalize W3.heap.size = g16 at *
      clear W3
      obtain ⟨b0, b1, b2⟩ := cells_now T4.out
      obtain ⟨c0, c1, c2⟩ := cells_now K4.out.h1
      go_wp2_with fail
      refine (HS3.out _).mono ?_
      rintro e W5 ⟨rfl, hb5⟩
      have K5 := Lib.hid (K4.out.step hb5)
      have T5 := Lib.hid (vec_step T4.out hb5)
      clear hb5 HS3 b0 b1 b2 c0 c1 c2 K4 T4 W4
      obtain ⟨W6, hW6⟩ : ∃ V, V = (W5.alloc (box3 ⟨0, 0, 0⟩)).setRow W5.heap.size #[.int .i64 v1, .int .i64 v2, .int .i64 v3] := ⟨_, rfl⟩
      have V6 := Lib.hid (show W6.heap[W5.heap.size]? = some (box3 ⟨v1, v2, v3⟩) by rw [hW6]; exact put3_row _ _ _ _)
      have hb6 : Below W5.heap.size W5 W6 := by rw [hW6]; exact put3_ext _ _ _ _
      have K6 := Lib.hid (K5.out.step hb6)
      have T6 := Lib.hid (vec_step T5.out hb6)
      go_upto_region 14 with (with_reducible refine store_vec rfl (.tmp 17) (.tmp 47) rfl rfl W5.heap.size v1 v2 v3 rfl rfl _ _ _ (heap_alloc_new _ _) ?_)
      rw [← hW6]
      clear hW6 hb6 K5 T5
      generalize W5.heap.size = g17 at *
      clear W5
      refine wp_region_allocs 14 [0, 1, 2, 3, 4, 5, 6, 7, 8, 9, 10, 11, 12] [(13, 18, box3 ⟨0, 0, 0⟩)] (by kernel_rfl) (by kernel_rfl) (by
        intro x hx
        simp only [List.mem_cons, List.not_mem_nil, or_false] at hx
        rcases hx with rfl
        exact ⟨by decide, _, rfl, ⟨⟨_, rfl, alloc_vec⟩, rfl, rfl⟩⟩) (by decide) (by decide) ?_
      refine Walk.step (A := ?A327) (o := ?o327) ?e327 ?w327 48 ?d327 (by simp) ?h327 ?n327
      case e327 => simp only [List.getElem?_toArray, List.getElem?_cons_succ, List.getElem?_cons_zero]; exact rfl
      case w327 => exact rfl
      case d327 => exact rfl
      case h327 =>
        intro W9 hW9
        obtain ⟨e0, e1, e2⟩ := cells3 ((hW9.block _ (lt_of_heap T6.out)).trans T6.out)
        go_big_quiet_op
        exact rfl
      refine Walk.step (A := ?A328) (o := ?o328) ?e328 ?w328 49 ?d328 (by simp) ?h328 ?n328
      case e328 => simp only [List.getElem?_toArray, List.getElem?_cons_succ, List.getElem?_cons_zero]; exact rfl
      case w328 => exact rfl
      case d328 => exact rfl
      case h328 =>
        intro W9 hW9
        go_big_quiet_op
        exact rfl
      refine Walk.step (A := ?A329) (o := ?o329) ?e329 ?w329 50 ?d329 (by simp) ?h329 ?n329
      case e329 => simp only [List.getElem?_toArray, List.getElem?_cons_succ, List.getElem?_cons_zero]; exact rfl
      case w329 => exact rfl
      case d329 => exact rfl
      case h329 =>
        intro W9 hW9
        go_big_quiet_op
        exact rfl
      refine Walk.step (A := ?A330) (o := ?o330) ?e330 ?w330 51 ?d330 (by simp) ?h330 ?n330
      case e330 => simp only [List.getElem?_toArray, List.getElem?_cons_succ, List.getElem?_cons_zero]; exact rfl
      case w330 => exact rfl
      case d330 => exact rfl
      case h330 =>
        intro W9 hW9
        go_big_quiet_op
        apply Exists.intro
        refine ⟨fun _ => ?_, ?_⟩
        · with_reducible exact HE1.out _ _ _
        · exact rfl
      refine Walk.step (A := ?A331) (o := ?o331) ?e331 ?w331 52 ?d331 (by simp) ?h331 ?n331
      case e331 => simp only [List.getElem?_toArray, List.getElem?_cons_succ, List.getElem?_cons_zero]; exact rfl
      case w331 => exact rfl
      case d331 => exact rfl
      case h331 =>
        intro W9 hW9
        go_big_quiet_op
        apply Exists.intro
        refine ⟨fun _ => ?_, ?_⟩
        · with_reducible exact HE3.out _ _ _
        · exact rfl
      refine Walk.step (A := ?A332) (o := ?o332) ?e332 ?w332 53 ?d332 (by simp) ?h332 ?n332
      case e332 => simp only [List.getElem?_toArray, List.getElem?_cons_succ, List.getElem?_cons_zero]; exact rfl
      case w332 => exact rfl
      case d332 => exact rfl
      case h332 =>
        intro W9 hW9
        go_big_quiet_op
        apply Exists.intro
        refine ⟨fun _ => ?_, ?_⟩
        · with_reducible exact HT1.out _ _ _
        · exact rfl
      refine Walk.step (A := ?A333) (o := ?o333) ?e333 ?w333 54 ?d333 (by simp) ?h333 ?n333
      case e333 => simp only [List.getElem?_toArray, List.getElem?_cons_succ, List.getElem?_cons_zero]; exact rfl
      case w333 => exact rfl
      case d333 => exact rfl
      case h333 =>
        intro W9 hW9
        obtain ⟨e0, e1, e2⟩ := cells3 ((hW9.block _ (lt_of_heap V6.out)).trans V6.out)
        go_big_quiet_op
        exact rfl
      refine Walk.step (A := ?A334) (o := ?o334) ?e334 ?w334 55 ?d334 (by simp) ?h334 ?n334
      case e334 => simp only [List.getElem?_toArray, List.getElem?_cons_succ, List.getElem?_cons_zero]; exact rfl
      case w334 => exact rfl
      case d334 => exact rfl
      case h334 =>
        intro W9 hW9
        go_big_quiet_op
        exact rfl
      refine Walk.step (A := ?A335) (o := ?o335) ?e335 ?w335 56 ?d335 (by simp) ?h335 ?n335
      case e335 => simp only [List.getElem?_toArray, List.getElem?_cons_succ, List.getElem?_cons_zero]; exact rfl
      case w335 => exact rfl
      case d335 => exact rfl
      case h335 =>
        intro W9 hW9
        go_big_quiet_op
        exact rfl
      refine Walk.step (A := ?A336) (o := ?o336) ?e336 ?w336 57 ?d336 (by simp) ?h336 ?n336
      case e336 => simp only [List.getElem?_toArray, List.getElem?_cons_succ, List.getElem?_cons_zero]; exact rfl
      case w336 => exact rfl
      case d336 => exact rfl
      case h336 =>
        intro W9 hW9
        go_big_quiet_op
        apply Exists.intro
        refine ⟨fun _ => ?_, ?_⟩
        · with_reducible exact HE2.out _ _ _
        · exact rfl
      refine Walk.step (A := ?A337) (o := ?o337) ?e337 ?w337 58 ?d337 (by simp) ?h337 ?n337
      case e337 => simp only [List.getElem?_toArray, List.getElem?_cons_succ, List.getElem?_cons_zero]; exact rfl
      case w337 => exact rfl
      case d337 => exact rfl
      case h337 =>
        intro W9 hW9
        go_big_quiet_op
        apply Exists.intro
        refine ⟨fun _ => ?_, ?_⟩
        · with_reducible exact HE4.out _ _ _
        · exact rfl
      refine Walk.step (A := ?A338) (o := ?o338) ?e338 ?w338 59 ?d338 (by simp) ?h338 ?n338
      case e338 => simp only [List.getElem?_toArray, List.getElem?_cons_succ, List.getElem?_cons_zero]; exact rfl
      case w338 => exact rfl
      case d338 => exact rfl
      case h338 =>
        intro W9 hW9
        go_big_quiet_op
        apply Exists.intro
        refine ⟨fun _ => ?_, ?_⟩
        · with_reducible exact HT2.out _ _ _
        · exact rfl
      refine Walk.step (A := ?A339) (o := ?o339) ?e339 ?w339 60 ?d339 (by simp) ?h339 ?n339
      case e339 => simp only [List.getElem?_toArray, List.getElem?_cons_succ, List.getElem?_cons_zero]; exact rfl
      case w339 => exact rfl
      case d339 => exact rfl
      case h339 =>
        intro W9 hW9
        go_big_quiet_op
        apply Exists.intro
        refine ⟨fun _ => ?_, ?_⟩
        · with_reducible exact HT3.out _ _ _
        · exact rfl
      simp only [Walk, All]
      intro g18 hg hf w2 hD2
      have k18 : w2.heap[g18]? = some (box3 ⟨0, 0, 0⟩) := hD2.2 (g18, box3 ⟨0, 0, 0⟩) (by simp)
      have K7 := Lib.hid (K6.out.put hg hD2.1 #[.int .i64 f1, .int .i64 f2, .int .i64 f3])
      clear hf hD2 hg
      simp only [List.drop_succ_cons, List.drop_zero, Act.put, List.setIfInBounds_toArray, List.set_cons_succ, List.set_cons_zero, ptr]
      refine store_vec rfl (.tmp 18) (.tmp 60) rfl rfl g18 f1 f2 f3 rfl rfl _ _ _ k18 ?_
      have F7 := Lib.hid (setRow_heap w2 g18 _ #[.int .i64 f1, .int .i64 f2, .int .i64 f3] _ _ k18)
      clear k18 K6 T6 V6
      generalize w2.setRow g18 _ = W7 at *
      clear w2 W6 HE1 HE2 HE3 HE4 HT1 HT2 HT3
      go_upto_region 15 with (fail)
      obtain ⟨b0, b1, b2⟩ := cells3 F7.out
      obtain ⟨c0, c1, c2⟩ := cells3 K7.out.h1
      have HR := Lib.hid K7.out.h2
      have HB := Lib.hid K7.out.hb
      clear K7 F7
      refine wp_region_below_tail 6 (by kernel_rfl) (by kernel_rfl) ?_
      simp only [List.take_succ_cons, List.take_zero, List.drop_succ_cons, List.drop_zero]
      repeat (go_big_quiet_step (first | (with_reducible exact HT4.out _ _ _) | (with_reducible exact HT5.out _ _ _) | (with_reducible exact HT6.out _ _ _)))
      refine wpQuiet_nil ?_
      rintro _ ⟨⟨dq, osq⟩, rfl⟩
      clear b0 b1 b2 c0 c1 c2
      refine store_vec rfl (.tmp 10) (.tmp 66) rfl rfl (w.heap.size + 1 + 1) e1 e2 e3 rfl rfl _ _ _ (heap_regrown HR.out dq osq) ?_
      have hb2 : Below w.heap.size w (grow (redrawn W7 dq) osq) := HB.out.trans ((below_regrown W7 dq osq).mono HB.out.size)
      have H4 := Lib.hid (setRow_heap (grow (redrawn W7 dq) osq) (w.heap.size + 1 + 1) _ #[.int .i64 e1, .int .i64 e2, .int .i64 e3] _ _ (heap_regrown HR.out dq osq))
      have HB4 := Lib.hid (below_setRow hb2 (show w.heap.size ≤ w.heap.size + 1 + 1 by omega) #[.int .i64 e1, .int .i64 e2, .int .i64 e3])
      clear hb2
      generalize (grow (redrawn W7 dq) osq).setRow (w.heap.size + 1 + 1) #[.int .i64 e1, .int .i64 e2, .int .i64 e3] = w3 at *
      go_wp2_with fail
      refine bodyPost_ret (results_cell_row rfl _ _ (w.heap.size + 1 + 1) 23 _ _ _ rfl H4.out Try.underlying23 rfl vec_size) rfl ?_
      exact ⟨rfl, HB4.out⟩
    · have d1 : decide (n1 < 0) = false := decide_eq_false h1
      have hx := HX.out
      simp only [if_neg h1] at hx
      have d2 : decide (n1 ≤ 2147483648) = false := decide_eq_false h2
      rw [if_neg h2] at hx
      obtain ⟨rfl, rfl, rfl⟩ := V3.mk.inj hx
      clear hx h1 h2 HX
      go_enter Try.func10, Try.ntmps10
      go_wp2_with fail
      rw [← HWW.out]
      clear HWW
      refine (HM1.out _).mono ?_
      rintro e w' ⟨rfl, rfl⟩
      go_wp2_with fail
      refine (HR1.out _).mono ?_
      rintro e w' ⟨rfl, rfl⟩
      go_wp2_with fail
      refine (HB1.out _).mono ?_
      rintro e w' ⟨rfl, rfl⟩
      go_wp2_with fail
      refine (HR2.out _).mono ?_
      rintro e w' ⟨rfl, rfl⟩
      clear HM1 HR1 HB1 HR2
      clear HNG
      obtain ⟨W1, hv1⟩ : ∃ V, V = (W.alloc (box3 ⟨0, 0, 0⟩)).setRow W.heap.size #[.int .i64 0, .int .i64 4294967296, .int .i64 0] := ⟨_, rfl⟩
      have G1 := Lib.hid (show W1.heap[W.heap.size]? = some (box3 ⟨0, 4294967296, 0⟩) by rw [hv1]; exact put3_row _ _ _ _)
      have K1 := Lib.hid (K.out.step (show Below W.heap.size W W1 by rw [hv1]; exact put3_ext _ _ _ _))
      have hlt := lt_of_heap K.out.h2
      go_upto_region 10 with (with_reducible refine store_vec rfl (.tmp 15) (.tmp 37) rfl rfl W.heap.size 0 4294967296 0 rfl rfl _ _ _ (heap_alloc_new _ _) ?_)
      rw [← hv1]
      clear hv1 K c0 c1 c2
      generalize W.heap.size = g15 at *
      clear W
      go_upto_region 12 with (fail)
      clear hlt
      obtain ⟨b0, b1, b2⟩ := cells_now G1.out
      obtain ⟨c0, c1, c2⟩ := cells_now K1.out.h1
      go_wp2_with fail
      refine (HS1.out _).mono ?_
      rintro e W2 ⟨rfl, hb2⟩
      have K2 := Lib.hid (K1.out.step hb2)
      clear hb2 HS1 b0 b1 b2 c0 c1 c2 K1 G1
      clear W1
      go_wp2_with fail
      refine (HS2.out _).mono ?_
      rintro e W3 ⟨rfl, hb3⟩
      have K3 := Lib.hid (K2.out.step hb3)
      clear hb3 HS2 K2 W2
      obtain ⟨W4, hW4⟩ : ∃ V, V = (W3.alloc (box3 ⟨0, 0, 0⟩)).setRow W3.heap.size #[.int .i64 u1, .int .i64 u2, .int .i64 u3] := ⟨_, rfl⟩
      have T4 := Lib.hid (show W4.heap[W3.heap.size]? = some (box3 ⟨u1, u2, u3⟩) by rw [hW4]; exact put3_row _ _ _ _)
      have K4 := Lib.hid (K3.out.step (show Below W3.heap.size W3 W4 by rw [hW4]; exact put3_ext _ _ _ _))
      go_upto_region 13 with (with_reducible refine store_vec rfl (.tmp 16) (.tmp 44) rfl rfl W3.heap.size u1 u2 u3 rfl rfl _ _ _ (heap_alloc_new _ _) ?_)
      rw [← hW4]
      clear hW4 K3
      generalize W3.heap.size = g16 at *
      clear W3
      obtain ⟨b0, b1, b2⟩ := cells_now T4.out
      obtain ⟨c0, c1, c2⟩ := cells_now K4.out.h1
      go_wp2_with fail
      refine (HS3.out _).mono ?_
      rintro e W5 ⟨rfl, hb5⟩
      have K5 := Lib.hid (K4.out.step hb5)
      have T5 := Lib.hid (vec_step T4.out hb5)
      clear hb5 HS3 b0 b1 b2 c0 c1 c2 K4 T4 W4
      obtain ⟨W6, hW6⟩ : ∃ V, V = (W5.alloc (box3 ⟨0, 0, 0⟩)).setRow W5.heap.size #[.int .i64 v1, .int .i64 v2, .int .i64 v3] := ⟨_, rfl⟩
      have V6 := Lib.hid (show W6.heap[W5.heap.size]? = some (box3 ⟨v1, v2, v3⟩) by rw [hW6]; exact put3_row _ _ _ _)
      have hb6 : Below W5.heap.size W5 W6 := by rw [hW6]; exact put3_ext _ _ _ _
      have K6 := Lib.hid (K5.out.step hb6)
      have T6 := Lib.hid (vec_step T5.out hb6)
      go_upto_region 14 with (with_reducible refine store_vec rfl (.tmp 17) (.tmp 47) rfl rfl W5.heap.size v1 v2 v3 rfl rfl _ _ _ (heap_alloc_new _ _) ?_)
      rw [← hW6]
      clear hW6 hb6 K5 T5
      generalize W5.heap.size = g17 at *
      clear W5
      refine wp_region_allocs 14 [0, 1, 2, 3, 4, 5, 6, 7, 8, 9, 10, 11, 12] [(13, 18, box3 ⟨0, 0, 0⟩)] (by kernel_rfl) (by kernel_rfl) (by
        intro x hx
        simp only [List.mem_cons, List.not_mem_nil, or_false] at hx
        rcases hx with rfl
        exact ⟨by decide, _, rfl, ⟨⟨_, rfl, alloc_vec⟩, rfl, rfl⟩⟩) (by decide) (by decide) ?_
      refine Walk.step (A := ?A440) (o := ?o440) ?e440 ?w440 48 ?d440 (by simp) ?h440 ?n440
      case e440 => simp only [List.getElem?_toArray, List.getElem?_cons_succ, List.getElem?_cons_zero]; exact rfl
      case w440 => exact rfl
      case d440 => exact rfl
      case h440 =>
        intro W9 hW9
        obtain ⟨e0, e1, e2⟩ := cells3 ((hW9.block _ (lt_of_heap T6.out)).trans T6.out)
        go_big_quiet_op
        exact rfl
      refine Walk.step (A := ?A441) (o := ?o441) ?e441 ?w441 49 ?d441 (by simp) ?h441 ?n441
      case e441 => simp only [List.getElem?_toArray, List.getElem?_cons_succ, List.getElem?_cons_zero]; exact rfl
      case w441 => exact rfl
      case d441 => exact rfl
      case h441 =>
        intro W9 hW9
        go_big_quiet_op
        exact rfl
      refine Walk.step (A := ?A442) (o := ?o442) ?e442 ?w442 50 ?d442 (by simp) ?h442 ?n442
      case e442 => simp only [List.getElem?_toArray, List.getElem?_cons_succ, List.getElem?_cons_zero]; exact rfl
      case w442 => exact rfl
      case d442 => exact rfl
      case h442 =>
        intro W9 hW9
        go_big_quiet_op
        exact rfl
      refine Walk.step (A := ?A443) (o := ?o443) ?e443 ?w443 51 ?d443 (by simp) ?h443 ?n443
      case e443 => simp only [List.getElem?_toArray, List.getElem?_cons_succ, List.getElem?_cons_zero]; exact rfl
      case w443 => exact rfl
      case d443 => exact rfl
      case h443 =>
        intro W9 hW9
        go_big_quiet_op
        apply Exists.intro
        refine ⟨fun _ => ?_, ?_⟩
        · with_reducible exact HE1.out _ _ _
        · exact rfl
      refine Walk.step (A := ?A444) (o := ?o444) ?e444 ?w444 52 ?d444 (by simp) ?h444 ?n444
      case e444 => simp only [List.getElem?_toArray, List.getElem?_cons_succ, List.getElem?_cons_zero]; exact rfl
      case w444 => exact rfl
      case d444 => exact rfl
      case h444 =>
        intro W9 hW9
        go_big_quiet_op
        apply Exists.intro
        refine ⟨fun _ => ?_, ?_⟩
        · with_reducible exact HE3.out _ _ _
        · exact rfl
      refine Walk.step (A := ?A445) (o := ?o445) ?e445 ?w445 53 ?d445 (by simp) ?h445 ?n445
      case e445 => simp only [List.getElem?_toArray, List.getElem?_cons_succ, List.getElem?_cons_zero]; exact rfl
      case w445 => exact rfl
      case d445 => exact rfl
      case h445 =>
        intro W9 hW9
        go_big_quiet_op
        apply Exists.intro
        refine ⟨fun _ => ?_, ?_⟩
        · with_reducible exact HT1.out _ _ _
        · exact rfl
      refine Walk.step (A := ?A446) (o := ?o446) ?e446 ?w446 54 ?d446 (by simp) ?h446 ?n446
      case e446 => simp only [List.getElem?_toArray, List.getElem?_cons_succ, List.getElem?_cons_zero]; exact rfl
      case w446 => exact rfl
      case d446 => exact rfl
      case h446 =>
        intro W9 hW9
        obtain ⟨e0, e1, e2⟩ := cells3 ((hW9.block _ (lt_of_heap V6.out)).trans V6.out)
        go_big_quiet_op
        exact rfl
      refine Walk.step (A := ?A447) (o := ?o447) ?e447 ?w447 55 ?d447 (by simp) ?h447 ?n447
      case e447 => simp only [List.getElem?_toArray, List.getElem?_cons_succ, List.getElem?_cons_zero]; exact rfl
      case w447 => exact rfl
      case d447 => exact rfl
      case h447 =>
        intro W9 hW9
        go_big_quiet_op
        exact rfl
      refine Walk.step (A := ?A448) (o := ?o448) ?e448 ?w448 56 ?d448 (by simp) ?h448 ?n448
      case e448 => simp only [List.getElem?_toArray, List.getElem?_cons_succ, List.getElem?_cons_zero]; exact rfl
      case w448 => exact rfl
      case d448 => exact rfl
      case h448 =>
        intro W9 hW9
        go_big_quiet_op
        exact rfl
      refine Walk.step (A := ?A449) (o := ?o449) ?e449 ?w449 57 ?d449 (by simp) ?h449 ?n449
      case e449 => simp only [List.getElem?_toArray, List.getElem?_cons_succ, List.getElem?_cons_zero]; exact rfl
      case w449 => exact rfl
      case d449 => exact rfl
      case h449 =>
        intro W9 hW9
        go_big_quiet_op
        apply Exists.intro
        refine ⟨fun _ => ?_, ?_⟩
        · with_reducible exact HE2.out _ _ _
        · exact rfl
      refine Walk.step (A := ?A450) (o := ?o450) ?e450 ?w450 58 ?d450 (by simp) ?h450 ?n450
      case e450 => simp only [List.getElem?_toArray, List.getElem?_cons_succ, List.getElem?_cons_zero]; exact rfl
      case w450 => exact rfl
      case d450 => exact rfl
      case h450 =>
        intro W9 hW9
        go_big_quiet_op
        apply Exists.intro
        refine ⟨fun _ => ?_, ?_⟩
        · with_reducible exact HE4.out _ _ _
        · exact rfl
      refine Walk.step (A := ?A451) (o := ?o451) ?e451 ?w451 59 ?d451 (by simp) ?h451 ?n451
      case e451 => simp only [List.getElem?_toArray, List.getElem?_cons_succ, List.getElem?_cons_zero]; exact rfl
      case w451 => exact rfl
      case d451 => exact rfl
      case h451 =>
        intro W9 hW9
        go_big_quiet_op
        apply Exists.intro
        refine ⟨fun _ => ?_, ?_⟩
        · with_reducible exact HT2.out _ _ _
        · exact rfl
      refine Walk.step (A := ?A452) (o := ?o452) ?e452 ?w452 60 ?d452 (by simp) ?h452 ?n452
      case e452 => simp only [List.getElem?_toArray, List.getElem?_cons_succ, List.getElem?_cons_zero]; exact rfl
      case w452 => exact rfl
      case d452 => exact rfl
      case h452 =>
        intro W9 hW9
        go_big_quiet_op
        apply Exists.intro
        refine ⟨fun _ => ?_, ?_⟩
        · with_reducible exact HT3.out _ _ _
        · exact rfl
      simp only [Walk, All]
      intro g18 hg hf w2 hD2
      have k18 : w2.heap[g18]? = some (box3 ⟨0, 0, 0⟩) := hD2.2 (g18, box3 ⟨0, 0, 0⟩) (by simp)
      have K7 := Lib.hid (K6.out.put hg hD2.1 #[.int .i64 f1, .int .i64 f2, .int .i64 f3])
      clear hf hD2 hg
      simp only [List.drop_succ_cons, List.drop_zero, Act.put, List.setIfInBounds_toArray, List.set_cons_succ, List.set_cons_zero, ptr]
      refine store_vec rfl (.tmp 18) (.tmp 60) rfl rfl g18 f1 f2 f3 rfl rfl _ _ _ k18 ?_
      have F7 := Lib.hid (setRow_heap w2 g18 _ #[.int .i64 f1, .int .i64 f2, .int .i64 f3] _ _ k18)
      clear k18 K6 T6 V6
      generalize w2.setRow g18 _ = W7 at *
      clear w2 W6 HE1 HE2 HE3 HE4 HT1 HT2 HT3
      go_upto_region 15 with (fail)
      obtain ⟨b0, b1, b2⟩ := cells3 F7.out
      obtain ⟨c0, c1, c2⟩ := cells3 K7.out.h1
      have HR := Lib.hid K7.out.h2
      have HB := Lib.hid K7.out.hb
      clear K7 F7
      refine wp_region_below_tail 6 (by kernel_rfl) (by kernel_rfl) ?_
      simp only [List.take_succ_cons, List.take_zero, List.drop_succ_cons, List.drop_zero]
      repeat (go_big_quiet_step (first | (with_reducible exact HT4.out _ _ _) | (with_reducible exact HT5.out _ _ _) | (with_reducible exact HT6.out _ _ _)))
      refine wpQuiet_nil ?_
      rintro _ ⟨⟨dq, osq⟩, rfl⟩
      clear b0 b1 b2 c0 c1 c2
      refine store_vec rfl (.tmp 10) (.tmp 66) rfl rfl (w.heap.size + 1 + 1) e1 e2 e3 rfl rfl _ _ _ (heap_regrown HR.out dq osq) ?_
      have hb2 : Below w.heap.size w (grow (redrawn W7 dq) osq) := HB.out.trans ((below_regrown W7 dq osq).mono HB.out.size)
      have H4 := Lib.hid (setRow_heap (grow (redrawn W7 dq) osq) (w.heap.size + 1 + 1) _ #[.int .i64 e1, .int .i64 e2, .int .i64 e3] _ _ (heap_regrown HR.out dq osq))
      have HB4 := Lib.hid (below_setRow hb2 (show w.heap.size ≤ w.heap.size + 1 + 1 by omega) #[.int .i64 e1, .int .i64 e2, .int .i64 e3])
      clear hb2
      generalize (grow (redrawn W7 dq) osq).setRow (w.heap.size + 1 + 1) #[.int .i64 e1, .int .i64 e2, .int .i64 e3] = w3 at *
      go_wp2_with fail
      refine bodyPost_ret (results_cell_row rfl _ _ (w.heap.size + 1 + 1) 23 _ _ _ rfl H4.out Try.underlying23 rfl vec_size) rfl ?_
      exact ⟨rfl, HB4.out⟩

set_option maxRecDepth 100000 in
set_option maxHeartbeats 8000000 in
theorem rround_any (k : Int) (d n : V3) (a b : Int) (hk : k ≠ 2) (hd : d.ok) (hn : n.ok) (ha : In a) (hb : In b) (w : World) : Calls Try.prog 11 #[.int .u8 k, vecV d, vecV n, .int .i64 a, .int .i64 b] w (VTo (vecV (roundF n a b)) w) := by
  have hone : In 4294967296 := by unfold In; omega
  have hturn : In 26986075409 := by unfold In; omega
  have hk2 : (k == 2) = false := by simpa using hk
  obtain ⟨p, hp⟩ : ∃ p, p = axisF n.x := ⟨_, rfl⟩
  have okp : p.ok := by rw [hp]; exact ok_axis _
  have S1 := fun W => vrcross_any p n okp hn W
  obtain ⟨q, hq⟩ : ∃ q, q = crossF p n := ⟨_, rfl⟩
  rw [← hq] at S1
  have okq : q.ok := by rw [hq]; exact ok_cross _ _
  have S2 := fun W => vrunit_any q okq W
  obtain ⟨t, ht⟩ : ∃ t, t = unitF q := ⟨_, rfl⟩
  rw [← ht] at S2
  have okt : t.ok := by rw [ht]; exact ok_unit _
  have S3 := fun W => vrcross_any n t hn okt W
  obtain ⟨v, hv⟩ : ∃ v, v = crossF n t := ⟨_, rfl⟩
  rw [← hv] at S3
  have okv : v.ok := by rw [hv]; exact ok_cross _ _
  have in_sqrt : ∀ x, In x → In (sqrtF x) := fun x hx => by have := sqrtF_in x hx.2; unfold In; omega
  have M1 := fun W => rmul_any 26986075409 a hturn.1 hturn.2 ha.1 ha.2 W
  obtain ⟨x, hx⟩ : ∃ c, c = mulF 26986075409 a := ⟨_, rfl⟩
  rw [← hx] at M1
  have ix : In x := by rw [hx]; exact in_mul _ _
  have R1 := fun W => rsqrt_any b hb.1 hb.2 W
  obtain ⟨r, hr⟩ : ∃ c, c = sqrtF b := ⟨_, rfl⟩
  rw [← hr] at R1
  have ir : In r := by rw [hr]; exact in_sqrt _ hb
  have B1 := fun W => rsub_any 4294967296 b hone.1 hone.2 hb.1 hb.2 W
  obtain ⟨y, hy⟩ : ∃ c, c = subF 4294967296 b := ⟨_, rfl⟩
  rw [← hy] at B1
  have iy : In y := by rw [hy]; exact in_sub _ _
  have R2 := fun W => rsqrt_any y iy.1 iy.2 W
  obtain ⟨z, hz⟩ : ∃ c, c = sqrtF y := ⟨_, rfl⟩
  rw [← hz] at R2
  have iz : In z := by rw [hz]; exact in_sqrt _ iy
  have C1 := fun W => rcos_any x ix.1 ix.2 W
  obtain ⟨cs, hcs⟩ : ∃ c, c = cosF x := ⟨_, rfl⟩
  rw [← hcs] at C1
  have ics : In cs := by rw [hcs]; exact in_cosF x
  have C2 := fun W => rsin_any x ix.1 ix.2 W
  obtain ⟨sn, hsn⟩ : ∃ c, c = sinF x := ⟨_, rfl⟩
  rw [← hsn] at C2
  have isn : In sn := by rw [hsn]; exact in_sinF x
  have M2 := fun W => rmul_any r cs ir.1 ir.2 ics.1 ics.2 W
  obtain ⟨rc, hrc⟩ : ∃ c, c = mulF r cs := ⟨_, rfl⟩
  rw [← hrc] at M2
  have irc : In rc := by rw [hrc]; exact in_mul _ _
  have M3 := fun W => rmul_any r sn ir.1 ir.2 isn.1 isn.2 W
  obtain ⟨rs, hrs⟩ : ∃ c, c = mulF r sn := ⟨_, rfl⟩
  rw [← hrs] at M3
  have irs : In rs := by rw [hrs]; exact in_mul _ _
  have T1 := fun W => qb (P := Try.prog) (W := W) (fun w2 _ => lscale_any t rc irc okt w2)
  have T2 := fun W => qb (P := Try.prog) (W := W) (fun w2 _ => lscale_any v rs irs okv w2)
  obtain ⟨t1, ht1⟩ : ∃ c, c = map1 (fun x => mulF x rc) t := ⟨_, rfl⟩
  obtain ⟨t2, ht2⟩ : ∃ c, c = map1 (fun x => mulF x rs) v := ⟨_, rfl⟩
  rw [← ht1] at T1
  rw [← ht2] at T2
  have okt1 : t1.ok := by rw [ht1]; exact ok_map1 (fun x => in_mul _ _) _
  have okt2 : t2.ok := by rw [ht2]; exact ok_map1 (fun x => in_mul _ _) _
  have T3 := fun W => qb (P := Try.prog) (W := W) (fun w2 _ => ladd_any t1 t2 okt1 okt2 w2)
  obtain ⟨fl, hfl⟩ : ∃ c, c = map2 addF t1 t2 := ⟨_, rfl⟩
  rw [← hfl] at T3
  have okfl : fl.ok := by rw [hfl]; exact ok_map2 in_add _ _
  have T4 := fun W => qb (P := Try.prog) (W := W) (fun w2 _ => lscale_any n z iz hn w2)
  obtain ⟨nz, hnz⟩ : ∃ c, c = map1 (fun x => mulF x z) n := ⟨_, rfl⟩
  rw [← hnz] at T4
  have oknz : nz.ok := by rw [hnz]; exact ok_map1 (fun x => in_mul _ _) _
  have T5 := fun W => qb (P := Try.prog) (W := W) (fun w2 _ => ladd_any fl nz okfl oknz w2)
  obtain ⟨sm, hsm⟩ : ∃ c, c = map2 addF fl nz := ⟨_, rfl⟩
  rw [← hsm] at T5
  have oksm : sm.ok := by rw [hsm]; exact ok_map2 in_add _ _
  have T6 := fun W => qb (P := Try.prog) (W := W) (fun w2 _ => vrunit_any sm oksm w2)
  have hres : roundF n a b = unitF sm := by
    rw [hsm, hnz, hfl, ht2, ht1, hrs, hrc, hsn, hcs, hz, hy, hr, hx, hv, ht, hq, hp]; rfl
  obtain ⟨e, he⟩ : ∃ c, c = unitF sm := ⟨_, rfl⟩
  rw [hres]
  rw [← he] at T6 ⊢
  have E1 := fun W => qs (P := Try.prog) (W := W) (fun w => C1 w)
  have E2 := fun W => qs (P := Try.prog) (W := W) (fun w => C2 w)
  have E3 := fun W => qs (P := Try.prog) (W := W) (fun w => M2 w)
  have E4 := fun W => qs (P := Try.prog) (W := W) (fun w => M3 w)
  have hax : (n.x > 2147483648 ∨ n.x < -2147483648) → p = ⟨0, 4294967296, 0⟩ := fun h => by rw [hp, axisF_ref hn.1, if_pos h]
  have hay : ¬ (n.x > 2147483648 ∨ n.x < -2147483648) → p = ⟨4294967296, 0, 0⟩ := fun h => by rw [hp, axisF_ref hn.1, if_neg h]
  clear hres he hsm hnz hfl ht2 ht1 hrs hrc hsn hcs hz hy hr hx hv ht hq hp oksm oknz okfl okt1 okt2 irc irs isn ics iz iy ir ix in_sqrt okv okt okq okp C1 C2 M2 M3 hone hturn hk
  obtain ⟨d1, d2, d3⟩ := d
  obtain ⟨n1, n2, n3⟩ := n
  obtain ⟨p1, p2, p3⟩ := p
  obtain ⟨q1, q2, q3⟩ := q
  obtain ⟨u1, u2, u3⟩ := t
  obtain ⟨v1, v2, v3⟩ := v
  obtain ⟨l1, l2, l3⟩ := t1
  obtain ⟨m1, m2, m3⟩ := t2
  obtain ⟨f1, f2, f3⟩ := fl
  obtain ⟨o1, o2, o3⟩ := nz
  obtain ⟨s1, s2, s3⟩ := sm
  obtain ⟨e1, e2, e3⟩ := e
  dsimp only [vecV] at *
  have HS1 := Lib.hid S1
  have HS2 := Lib.hid S2
  have HS3 := Lib.hid S3
  have HM1 := Lib.hid M1
  have HR1 := Lib.hid R1
  have HB1 := Lib.hid B1
  have HR2 := Lib.hid R2
  have HT1 := Lib.hid T1
  have HT2 := Lib.hid T2
  have HT3 := Lib.hid T3
  have HT4 := Lib.hid T4
  have HT5 := Lib.hid T5
  have HT6 := Lib.hid T6
  have HE1 := Lib.hid E1
  have HE2 := Lib.hid E2
  have HE3 := Lib.hid E3
  have HE4 := Lib.hid E4
  clear S1 S2 S3 M1 R1 B1 R2 T1 T2 T3 T4 T5 T6 E1 E2 E3 E4
  obtain ⟨W, hW⟩ : ∃ W, W = ((w.alloc (box3 ⟨d1, d2, d3⟩)).alloc (box3 ⟨n1, n2, n3⟩)).alloc (box3 ⟨0, 0, 0⟩) := ⟨_, rfl⟩
  have K := Lib.hid (show Bn w ⟨n1, n2, n3⟩ W from ⟨by rw [hW]; exact alloc3_1 _ _ _ _, by rw [hW]; exact alloc3_2 _ _ _ _, by rw [hW]; exact alloc3_below _ _ _ _⟩)
  have HWW := Lib.hid hW
  obtain ⟨c0, c1, c2⟩ := cells_now K.out.h1
  clear hW ha hb hd hn
  have HX := Lib.hid hax
  clear hax
  have HY := Lib.hid hay
  clear hay
  by_cases h1 : n1 > 2147483648
  · have hx := HX.out (.inl h1)
    have dd1 : decide (n1 > 2147483648) = true := decide_eq_true h1
    have dd2 : decide (2147483648 < n1) = true := decide_eq_true h1
    obtain ⟨rfl, rfl, rfl⟩ := V3.mk.inj hx
    clear hx HX HY h1
    go_enter Try.func11, Try.ntmps11
    go_wp2_with fail
    rw [← HWW.out]
    clear HWW
    refine (HM1.out _).mono ?_
    rintro e w' ⟨rfl, rfl⟩
    go_wp2_with fail
    refine (HR1.out _).mono ?_
    rintro e w' ⟨rfl, rfl⟩
    go_wp2_with fail
    refine (HB1.out _).mono ?_
    rintro e w' ⟨rfl, rfl⟩
    go_wp2_with fail
    refine (HR2.out _).mono ?_
    rintro e w' ⟨rfl, rfl⟩
    clear HM1 HR1 HB1 HR2
    obtain ⟨W1, hv1⟩ : ∃ V, V = (W.alloc (box3 ⟨0, 0, 0⟩)).setRow W.heap.size #[.int .i64 4294967296, .int .i64 0, .int .i64 0] := ⟨_, rfl⟩
    have G1 := Lib.hid (show W1.heap[W.heap.size]? = some (box3 ⟨4294967296, 0, 0⟩) by rw [hv1]; exact put3_row _ _ _ _)
    have K1 := Lib.hid (K.out.step (show Below W.heap.size W W1 by rw [hv1]; exact put3_ext _ _ _ _))
    have hlt := lt_of_heap K.out.h2
    go_upto_region 7 with (with_reducible refine store_vec rfl (.tmp 14) (.tmp 30) rfl rfl W.heap.size 4294967296 0 0 rfl rfl _ _ _ (heap_alloc_new _ _) ?_)
    rw [← hv1]
    clear hv1 K c0 c1 c2
    generalize W.heap.size = g15 at *
    clear W
    obtain ⟨c0, c1, c2⟩ := cells_now K1.out.h1
    go_upto_region 8 with (fail)
    clear c0 c1 c2
    have GA := Lib.hid (setRow_heap W1 g15 _ #[.int .i64 0, .int .i64 4294967296, .int .i64 0] _ _ G1.out)
    have KA := Lib.hid (show Bn w ⟨n1, n2, n3⟩ (W1.setRow g15 #[.int .i64 0, .int .i64 4294967296, .int .i64 0]) from ⟨(setRow_other _ _ _ _ (by omega)).trans K1.out.h1, (setRow_other _ _ _ _ (by omega)).trans K1.out.h2, below_setRow K1.out.hb (by omega) _⟩)
    go_upto_region 9 with (with_reducible refine store_vec rfl (.tmp 14) (.tmp 39) rfl rfl g15 0 4294967296 0 rfl rfl _ _ _ G1.out ?_)
    generalize W1.setRow g15 _ = WA at *
    clear K1 G1 W1
    obtain ⟨b0, b1, b2⟩ := cells_now GA.out
    obtain ⟨c0, c1, c2⟩ := cells_now KA.out.h1
    go_wp2_with fail
    refine (HS1.out _).mono ?_
    rintro e W2 ⟨rfl, hb2⟩
    have K2 := Lib.hid (KA.out.step hb2)
    clear hb2 HS1 b0 b1 b2 c0 c1 c2 KA GA
    clear WA
    go_wp2_with fail
    refine (HS2.out _).mono ?_
    rintro e W3 ⟨rfl, hb3⟩
    have K3 := Lib.hid (K2.out.step hb3)
    clear hb3 HS2 K2 W2
    obtain ⟨W4, hW4⟩ : ∃ V, V = (W3.alloc (box3 ⟨0, 0, 0⟩)).setRow W3.heap.size #[.int .i64 u1, .int .i64 u2, .int .i64 u3] := ⟨_, rfl⟩
    have T4 := Lib.hid (show W4.heap[W3.heap.size]? = some (box3 ⟨u1, u2, u3⟩) by rw [hW4]; exact put3_row _ _ _ _)
    have K4 := Lib.hid (K3.out.step (show Below W3.heap.size W3 W4 by rw [hW4]; exact put3_ext _ _ _ _))
    go_upto_region 10 with (with_reducible refine store_vec rfl (.tmp 15) (.tmp 43) rfl rfl W3.heap.size u1 u2 u3 rfl rfl _ _ _ (heap_alloc_new _ _) ?_)
    rw [← hW4]
    clear hW4 K3
    generalize W3.heap.size = g16 at *
    clear W3
    obtain ⟨b0, b1, b2⟩ := cells_now T4.out
    obtain ⟨c0, c1, c2⟩ := cells_now K4.out.h1
    go_wp2_with fail
    refine (HS3.out _).mono ?_
    rintro e W5 ⟨rfl, hb5⟩
    have K5 := Lib.hid (K4.out.step hb5)
    have T5 := Lib.hid (vec_step T4.out hb5)
    clear hb5 HS3 b0 b1 b2 c0 c1 c2 K4 T4 W4
    obtain ⟨W6, hW6⟩ : ∃ V, V = (W5.alloc (box3 ⟨0, 0, 0⟩)).setRow W5.heap.size #[.int .i64 v1, .int .i64 v2, .int .i64 v3] := ⟨_, rfl⟩
    have V6 := Lib.hid (show W6.heap[W5.heap.size]? = some (box3 ⟨v1, v2, v3⟩) by rw [hW6]; exact put3_row _ _ _ _)
    have hb6 : Below W5.heap.size W5 W6 := by rw [hW6]; exact put3_ext _ _ _ _
    have K6 := Lib.hid (K5.out.step hb6)
    have T6 := Lib.hid (vec_step T5.out hb6)
    go_upto_region 11 with (with_reducible refine store_vec rfl (.tmp 16) (.tmp 46) rfl rfl W5.heap.size v1 v2 v3 rfl rfl _ _ _ (heap_alloc_new _ _) ?_)
    rw [← hW6]
    clear hW6 hb6 K5 T5
    generalize W5.heap.size = g17 at *
    clear W5
    refine wp_region_allocs 14 [0, 1, 2, 3, 4, 5, 6, 7, 8, 9, 10, 11, 12] [(13, 17, box3 ⟨0, 0, 0⟩)] (by kernel_rfl) (by kernel_rfl) (by
      intro x hx
      simp only [List.mem_cons, List.not_mem_nil, or_false] at hx
      rcases hx with rfl
      exact ⟨by decide, _, rfl, ⟨⟨_, rfl, alloc_vec⟩, rfl, rfl⟩⟩) (by decide) (by decide) ?_
    refine Walk.step (A := ?A553) (o := ?o553) ?e553 ?w553 47 ?d553 (by simp) ?h553 ?n553
    case e553 => simp only [List.getElem?_toArray, List.getElem?_cons_succ, List.getElem?_cons_zero]; exact rfl
    case w553 => exact rfl
    case d553 => exact rfl
    case h553 =>
      intro W9 hW9
      obtain ⟨e0, e1, e2⟩ := cells3 ((hW9.block _ (lt_of_heap T6.out)).trans T6.out)
      go_big_quiet_op
      exact rfl
    refine Walk.step (A := ?A554) (o := ?o554) ?e554 ?w554 48 ?d554 (by simp) ?h554 ?n554
    case e554 => simp only [List.getElem?_toArray, List.getElem?_cons_succ, List.getElem?_cons_zero]; exact rfl
    case w554 => exact rfl
    case d554 => exact rfl
    case h554 =>
      intro W9 hW9
      go_big_quiet_op
      exact rfl
    refine Walk.step (A := ?A555) (o := ?o555) ?e555 ?w555 49 ?d555 (by simp) ?h555 ?n555
    case e555 => simp only [List.getElem?_toArray, List.getElem?_cons_succ, List.getElem?_cons_zero]; exact rfl
    case w555 => exact rfl
    case d555 => exact rfl
    case h555 =>
      intro W9 hW9
      go_big_quiet_op
      exact rfl
    refine Walk.step (A := ?A556) (o := ?o556) ?e556 ?w556 50 ?d556 (by simp) ?h556 ?n556
    case e556 => simp only [List.getElem?_toArray, List.getElem?_cons_succ, List.getElem?_cons_zero]; exact rfl
    case w556 => exact rfl
    case d556 => exact rfl
    case h556 =>
      intro W9 hW9
      go_big_quiet_op
      apply Exists.intro
      refine ⟨fun _ => ?_, ?_⟩
      · with_reducible exact HE1.out _ _ _
      · exact rfl
    refine Walk.step (A := ?A557) (o := ?o557) ?e557 ?w557 51 ?d557 (by simp) ?h557 ?n557
    case e557 => simp only [List.getElem?_toArray, List.getElem?_cons_succ, List.getElem?_cons_zero]; exact rfl
    case w557 => exact rfl
    case d557 => exact rfl
    case h557 =>
      intro W9 hW9
      go_big_quiet_op
      apply Exists.intro
      refine ⟨fun _ => ?_, ?_⟩
      · with_reducible exact HE3.out _ _ _
      · exact rfl
    refine Walk.step (A := ?A558) (o := ?o558) ?e558 ?w558 52 ?d558 (by simp) ?h558 ?n558
    case e558 => simp only [List.getElem?_toArray, List.getElem?_cons_succ, List.getElem?_cons_zero]; exact rfl
    case w558 => exact rfl
    case d558 => exact rfl
    case h558 =>
      intro W9 hW9
      go_big_quiet_op
      apply Exists.intro
      refine ⟨fun _ => ?_, ?_⟩
      · with_reducible exact HT1.out _ _ _
      · exact rfl
    refine Walk.step (A := ?A559) (o := ?o559) ?e559 ?w559 53 ?d559 (by simp) ?h559 ?n559
    case e559 => simp only [List.getElem?_toArray, List.getElem?_cons_succ, List.getElem?_cons_zero]; exact rfl
    case w559 => exact rfl
    case d559 => exact rfl
    case h559 =>
      intro W9 hW9
      obtain ⟨e0, e1, e2⟩ := cells3 ((hW9.block _ (lt_of_heap V6.out)).trans V6.out)
      go_big_quiet_op
      exact rfl
    refine Walk.step (A := ?A560) (o := ?o560) ?e560 ?w560 54 ?d560 (by simp) ?h560 ?n560
    case e560 => simp only [List.getElem?_toArray, List.getElem?_cons_succ, List.getElem?_cons_zero]; exact rfl
    case w560 => exact rfl
    case d560 => exact rfl
    case h560 =>
      intro W9 hW9
      go_big_quiet_op
      exact rfl
    refine Walk.step (A := ?A561) (o := ?o561) ?e561 ?w561 55 ?d561 (by simp) ?h561 ?n561
    case e561 => simp only [List.getElem?_toArray, List.getElem?_cons_succ, List.getElem?_cons_zero]; exact rfl
    case w561 => exact rfl
    case d561 => exact rfl
    case h561 =>
      intro W9 hW9
      go_big_quiet_op
      exact rfl
    refine Walk.step (A := ?A562) (o := ?o562) ?e562 ?w562 56 ?d562 (by simp) ?h562 ?n562
    case e562 => simp only [List.getElem?_toArray, List.getElem?_cons_succ, List.getElem?_cons_zero]; exact rfl
    case w562 => exact rfl
    case d562 => exact rfl
    case h562 =>
      intro W9 hW9
      go_big_quiet_op
      apply Exists.intro
      refine ⟨fun _ => ?_, ?_⟩
      · with_reducible exact HE2.out _ _ _
      · exact rfl
    refine Walk.step (A := ?A563) (o := ?o563) ?e563 ?w563 57 ?d563 (by simp) ?h563 ?n563
    case e563 => simp only [List.getElem?_toArray, List.getElem?_cons_succ, List.getElem?_cons_zero]; exact rfl
    case w563 => exact rfl
    case d563 => exact rfl
    case h563 =>
      intro W9 hW9
      go_big_quiet_op
      apply Exists.intro
      refine ⟨fun _ => ?_, ?_⟩
      · with_reducible exact HE4.out _ _ _
      · exact rfl
    refine Walk.step (A := ?A564) (o := ?o564) ?e564 ?w564 58 ?d564 (by simp) ?h564 ?n564
    case e564 => simp only [List.getElem?_toArray, List.getElem?_cons_succ, List.getElem?_cons_zero]; exact rfl
    case w564 => exact rfl
    case d564 => exact rfl
    case h564 =>
      intro W9 hW9
      go_big_quiet_op
      apply Exists.intro
      refine ⟨fun _ => ?_, ?_⟩
      · with_reducible exact HT2.out _ _ _
      · exact rfl
    refine Walk.step (A := ?A565) (o := ?o565) ?e565 ?w565 59 ?d565 (by simp) ?h565 ?n565
    case e565 => simp only [List.getElem?_toArray, List.getElem?_cons_succ, List.getElem?_cons_zero]; exact rfl
    case w565 => exact rfl
    case d565 => exact rfl
    case h565 =>
      intro W9 hW9
      go_big_quiet_op
      apply Exists.intro
      refine ⟨fun _ => ?_, ?_⟩
      · with_reducible exact HT3.out _ _ _
      · exact rfl
    simp only [Walk, All]
    intro g18 hg hf w2 hD2
    have k18 : w2.heap[g18]? = some (box3 ⟨0, 0, 0⟩) := hD2.2 (g18, box3 ⟨0, 0, 0⟩) (by simp)
    have K7 := Lib.hid (K6.out.put hg hD2.1 #[.int .i64 f1, .int .i64 f2, .int .i64 f3])
    clear hf hD2 hg
    simp only [List.drop_succ_cons, List.drop_zero, Act.put, List.setIfInBounds_toArray, List.set_cons_succ, List.set_cons_zero, ptr]
    refine store_vec rfl (.tmp 17) (.tmp 59) rfl rfl g18 f1 f2 f3 rfl rfl _ _ _ k18 ?_
    have F7 := Lib.hid (setRow_heap w2 g18 _ #[.int .i64 f1, .int .i64 f2, .int .i64 f3] _ _ k18)
    clear k18 K6 T6 V6
    generalize w2.setRow g18 _ = W7 at *
    clear w2 W6 HE1 HE2 HE3 HE4 HT1 HT2 HT3
    go_upto_region 12 with (fail)
    obtain ⟨b0, b1, b2⟩ := cells3 F7.out
    obtain ⟨c0, c1, c2⟩ := cells3 K7.out.h1
    have HR := Lib.hid K7.out.h2
    have HB := Lib.hid K7.out.hb
    clear K7 F7
    refine wp_region_below_tail 6 (by kernel_rfl) (by kernel_rfl) ?_
    simp only [List.take_succ_cons, List.take_zero, List.drop_succ_cons, List.drop_zero]
    repeat (go_big_quiet_step (first | (with_reducible exact HT4.out _ _ _) | (with_reducible exact HT5.out _ _ _) | (with_reducible exact HT6.out _ _ _)))
    refine wpQuiet_nil ?_
    rintro _ ⟨⟨dq, osq⟩, rfl⟩
    clear b0 b1 b2 c0 c1 c2
    refine store_vec rfl (.tmp 10) (.tmp 65) rfl rfl (w.heap.size + 1 + 1) e1 e2 e3 rfl rfl _ _ _ (heap_regrown HR.out dq osq) ?_
    have hb2 : Below w.heap.size w (grow (redrawn W7 dq) osq) := HB.out.trans ((below_regrown W7 dq osq).mono HB.out.size)
    have H4 := Lib.hid (setRow_heap (grow (redrawn W7 dq) osq) (w.heap.size + 1 + 1) _ #[.int .i64 e1, .int .i64 e2, .int .i64 e3] _ _ (heap_regrown HR.out dq osq))
    have HB4 := Lib.hid (below_setRow hb2 (show w.heap.size ≤ w.heap.size + 1 + 1 by omega) #[.int .i64 e1, .int .i64 e2, .int .i64 e3])
    clear hb2
    generalize (grow (redrawn W7 dq) osq).setRow (w.heap.size + 1 + 1) #[.int .i64 e1, .int .i64 e2, .int .i64 e3] = w3 at *
    go_wp2_with fail
    refine bodyPost_ret (results_cell_row rfl _ _ (w.heap.size + 1 + 1) 23 _ _ _ rfl H4.out Try.underlying23 rfl vec_size) rfl ?_
    exact ⟨rfl, HB4.out⟩
  · by_cases h2 : n1 < -2147483648
    · have dd1 : decide (n1 > 2147483648) = false := decide_eq_false h1
      have dd2 : decide (2147483648 < n1) = false := decide_eq_false h1
      have hx := HX.out (.inr h2)
      have dd3 : decide (n1 < -2147483648) = true := decide_eq_true h2
      obtain ⟨rfl, rfl, rfl⟩ := V3.mk.inj hx
      clear hx HX HY h1 h2
      go_enter Try.func11, Try.ntmps11
      go_wp2_with fail
      rw [← HWW.out]
      clear HWW
      refine (HM1.out _).mono ?_
      rintro e w' ⟨rfl, rfl⟩
      go_wp2_with fail
      refine (HR1.out _).mono ?_
      rintro e w' ⟨rfl, rfl⟩
      go_wp2_with fail
      refine (HB1.out _).mono ?_
      rintro e w' ⟨rfl, rfl⟩
      go_wp2_with fail
      refine (HR2.out _).mono ?_
      rintro e w' ⟨rfl, rfl⟩
      clear HM1 HR1 HB1 HR2
      obtain ⟨W1, hv1⟩ : ∃ V, V = (W.alloc (box3 ⟨0, 0, 0⟩)).setRow W.heap.size #[.int .i64 4294967296, .int .i64 0, .int .i64 0] := ⟨_, rfl⟩
      have G1 := Lib.hid (show W1.heap[W.heap.size]? = some (box3 ⟨4294967296, 0, 0⟩) by rw [hv1]; exact put3_row _ _ _ _)
      have K1 := Lib.hid (K.out.step (show Below W.heap.size W W1 by rw [hv1]; exact put3_ext _ _ _ _))
      have hlt := lt_of_heap K.out.h2
      go_upto_region 7 with (with_reducible refine store_vec rfl (.tmp 14) (.tmp 30) rfl rfl W.heap.size 4294967296 0 0 rfl rfl _ _ _ (heap_alloc_new _ _) ?_)
      rw [← hv1]
      clear hv1 K c0 c1 c2
      generalize W.heap.size = g15 at *
      clear W
      obtain ⟨c0, c1, c2⟩ := cells_now K1.out.h1
      go_upto_region 8 with (fail)
      clear c0 c1 c2
      have GA := Lib.hid (setRow_heap W1 g15 _ #[.int .i64 0, .int .i64 4294967296, .int .i64 0] _ _ G1.out)
      have KA := Lib.hid (show Bn w ⟨n1, n2, n3⟩ (W1.setRow g15 #[.int .i64 0, .int .i64 4294967296, .int .i64 0]) from ⟨(setRow_other _ _ _ _ (by omega)).trans K1.out.h1, (setRow_other _ _ _ _ (by omega)).trans K1.out.h2, below_setRow K1.out.hb (by omega) _⟩)
      go_upto_region 9 with (with_reducible refine store_vec rfl (.tmp 14) (.tmp 39) rfl rfl g15 0 4294967296 0 rfl rfl _ _ _ G1.out ?_)
      generalize W1.setRow g15 _ = WA at *
      clear K1 G1 W1
      obtain ⟨b0, b1, b2⟩ := cells_now GA.out
      obtain ⟨c0, c1, c2⟩ := cells_now KA.out.h1
      go_wp2_with fail
      refine (HS1.out _).mono ?_
      rintro e W2 ⟨rfl, hb2⟩
      have K2 := Lib.hid (KA.out.step hb2)
      clear hb2 HS1 b0 b1 b2 c0 c1 c2 KA GA
      clear WA
      go_wp2_with fail
      refine (HS2.out _).mono ?_
      rintro e W3 ⟨rfl, hb3⟩
      have K3 := Lib.hid (K2.out.step hb3)
      clear hb3 HS2 K2 W2
      obtain ⟨W4, hW4⟩ : ∃ V, V = (W3.alloc (box3 ⟨0, 0, 0⟩)).setRow W3.heap.size #[.int .i64 u1, .int .i64 u2, .int .i64 u3] := ⟨_, rfl⟩
      have T4 := Lib.hid (show W4.heap[W3.heap.size]? = some (box3 ⟨u1, u2, u3⟩) by rw [hW4]; exact put3_row _ _ _ _)
      have K4 := Lib.hid (K3.out.step (show Below W3.heap.size W3 W4 by rw [hW4]; exact put3_ext _ _ _ _))
      go_upto_region 10 with (with_reducible refine store_vec rfl (.tmp 15) (.tmp 43) rfl rfl W3.heap.size u1 u2 u3 rfl rfl _ _ _ (heap_alloc_new _ _) ?_)
      rw [← hW4]
      clear hW4 K3
      generalize W3.heap.size = g16 at *
      clear W3
      obtain ⟨b0, b1, b2⟩ := cells_now T4.out
      obtain ⟨c0, c1, c2⟩ := cells_now K4.out.h1
      go_wp2_with fail
      refine (HS3.out _).mono ?_
      rintro e W5 ⟨rfl, hb5⟩
      have K5 := Lib.hid (K4.out.step hb5)
      have T5 := Lib.hid (vec_step T4.out hb5)
      clear hb5 HS3 b0 b1 b2 c0 c1 c2 K4 T4 W4
      obtain ⟨W6, hW6⟩ : ∃ V, V = (W5.alloc (box3 ⟨0, 0, 0⟩)).setRow W5.heap.size #[.int .i64 v1, .int .i64 v2, .int .i64 v3] := ⟨_, rfl⟩
      have V6 := Lib.hid (show W6.heap[W5.heap.size]? = some (box3 ⟨v1, v2, v3⟩) by rw [hW6]; exact put3_row _ _ _ _)
      have hb6 : Below W5.heap.size W5 W6 := by rw [hW6]; exact put3_ext _ _ _ _
      have K6 := Lib.hid (K5.out.step hb6)
      have T6 := Lib.hid (vec_step T5.out hb6)
      go_upto_region 11 with (with_reducible refine store_vec rfl (.tmp 16) (.tmp 46) rfl rfl W5.heap.size v1 v2 v3 rfl rfl _ _ _ (heap_alloc_new _ _) ?_)
      rw [← hW6]
      clear hW6 hb6 K5 T5
      generalize W5.heap.size = g17 at *
      clear W5
      refine wp_region_allocs 14 [0, 1, 2, 3, 4, 5, 6, 7, 8, 9, 10, 11, 12] [(13, 17, box3 ⟨0, 0, 0⟩)] (by kernel_rfl) (by kernel_rfl) (by
        intro x hx
        simp only [List.mem_cons, List.not_mem_nil, or_false] at hx
        rcases hx with rfl
        exact ⟨by decide, _, rfl, ⟨⟨_, rfl, alloc_vec⟩, rfl, rfl⟩⟩) (by decide) (by decide) ?_
      refine Walk.step (A := ?A666) (o := ?o666) ?e666 ?w666 47 ?d666 (by simp) ?h666 ?n666
      case e666 => simp only [List.getElem?_toArray, List.getElem?_cons_succ, List.getElem?_cons_zero]; exact rfl
      case w666 => exact rfl
      case d666 => exact rfl
      case h666 =>
        intro W9 hW9
        obtain ⟨e0, e1, e2⟩ := cells3 ((hW9.block _ (lt_of_heap T6.out)).trans T6.out)
        go_big_quiet_op
        exact rfl
      refine Walk.step (A := ?A667) (o := ?o667) ?e667 ?w667 48 ?d667 (by simp) ?h667 ?n667
      case e667 => simp only [List.getElem?_toArray, List.getElem?_cons_succ, List.getElem?_cons_zero]; exact rfl
      case w667 => exact rfl
      case d667 => exact rfl
      case h667 =>
        intro W9 hW9
        go_big_quiet_op
        exact rfl
      refine Walk.step (A := ?A668) (o := ?o668) ?e668 ?w668 49 ?d668 (by simp) ?h668 ?n668
      case e668 => simp only [List.getElem?_toArray, List.getElem?_cons_succ, List.getElem?_cons_zero]; exact rfl
      case w668 => exact rfl
      case d668 => exact rfl
      case h668 =>
        intro W9 hW9
        go_big_quiet_op
        exact rfl
      refine Walk.step (A := ?A669) (o := ?o669) ?e669 ?w669 50 ?d669 (by simp) ?h669 ?n669
      case e669 => simp only [List.getElem?_toArray, List.getElem?_cons_succ, List.getElem?_cons_zero]; exact rfl
      case w669 => exact rfl
      case d669 => exact rfl
      case h669 =>
        intro W9 hW9
        go_big_quiet_op
        apply Exists.intro
        refine ⟨fun _ => ?_, ?_⟩
        · with_reducible exact HE1.out _ _ _
        · exact rfl
      refine Walk.step (A := ?A670) (o := ?o670) ?e670 ?w670 51 ?d670 (by simp) ?h670 ?n670
      case e670 => simp only [List.getElem?_toArray, List.getElem?_cons_succ, List.getElem?_cons_zero]; exact rfl
      case w670 => exact rfl
      case d670 => exact rfl
      case h670 =>
        intro W9 hW9
        go_big_quiet_op
        apply Exists.intro
        refine ⟨fun _ => ?_, ?_⟩
        · with_reducible exact HE3.out _ _ _
        · exact rfl
      refine Walk.step (A := ?A671) (o := ?o671) ?e671 ?w671 52 ?d671 (by simp) ?h671 ?n671
      case e671 => simp only [List.getElem?_toArray, List.getElem?_cons_succ, List.getElem?_cons_zero]; exact rfl
      case w671 => exact rfl
      case d671 => exact rfl
      case h671 =>
        intro W9 hW9
        go_big_quiet_op
        apply Exists.intro
        refine ⟨fun _ => ?_, ?_⟩
        · with_reducible exact HT1.out _ _ _
        · exact rfl
      refine Walk.step (A := ?A672) (o := ?o672) ?e672 ?w672 53 ?d672 (by simp) ?h672 ?n672
      case e672 => simp only [List.getElem?_toArray, List.getElem?_cons_succ, List.getElem?_cons_zero]; exact rfl
      case w672 => exact rfl
      case d672 => exact rfl
      case h672 =>
        intro W9 hW9
        obtain ⟨e0, e1, e2⟩ := cells3 ((hW9.block _ (lt_of_heap V6.out)).trans V6.out)
        go_big_quiet_op
        exact rfl
      refine Walk.step (A := ?A673) (o := ?o673) ?e673 ?w673 54 ?d673 (by simp) ?h673 ?n673
      case e673 => simp only [List.getElem?_toArray, List.getElem?_cons_succ, List.getElem?_cons_zero]; exact rfl
      case w673 => exact rfl
      case d673 => exact rfl
      case h673 =>
        intro W9 hW9
        go_big_quiet_op
        exact rfl
      refine Walk.step (A := ?A674) (o := ?o674) ?e674 ?w674 55 ?d674 (by simp) ?h674 ?n674
      case e674 => simp only [List.getElem?_toArray, List.getElem?_cons_succ, List.getElem?_cons_zero]; exact rfl
      case w674 => exact rfl
      case d674 => exact rfl
      case h674 =>
        intro W9 hW9
        go_big_quiet_op
        exact rfl
      refine Walk.step (A := ?A675) (o := ?o675) ?e675 ?w675 56 ?d675 (by simp) ?h675 ?n675
      case e675 => simp only [List.getElem?_toArray, List.getElem?_cons_succ, List.getElem?_cons_zero]; exact rfl
      case w675 => exact rfl
      case d675 => exact rfl
      case h675 =>
        intro W9 hW9
        go_big_quiet_op
        apply Exists.intro
        refine ⟨fun _ => ?_, ?_⟩
        · with_reducible exact HE2.out _ _ _
        · exact rfl
      refine Walk.step (A := ?A676) (o := ?o676) ?e676 ?w676 57 ?d676 (by simp) ?h676 ?n676
      case e676 => simp only [List.getElem?_toArray, List.getElem?_cons_succ, List.getElem?_cons_zero]; exact rfl
      case w676 => exact rfl
      case d676 => exact rfl
      case h676 =>
        intro W9 hW9
        go_big_quiet_op
        apply Exists.intro
        refine ⟨fun _ => ?_, ?_⟩
        · with_reducible exact HE4.out _ _ _
        · exact rfl
      refine Walk.step (A := ?A677) (o := ?o677) ?e677 ?w677 58 ?d677 (by simp) ?h677 ?n677
      case e677 => simp only [List.getElem?_toArray, List.getElem?_cons_succ, List.getElem?_cons_zero]; exact rfl
      case w677 => exact rfl
      case d677 => exact rfl
      case h677 =>
        intro W9 hW9
        go_big_quiet_op
        apply Exists.intro
        refine ⟨fun _ => ?_, ?_⟩
        · with_reducible exact HT2.out _ _ _
        · exact rfl
      refine Walk.step (A := ?A678) (o := ?o678) ?e678 ?w678 59 ?d678 (by simp) ?h678 ?n678
      case e678 => simp only [List.getElem?_toArray, List.getElem?_cons_succ, List.getElem?_cons_zero]; exact rfl
      case w678 => exact rfl
      case d678 => exact rfl
      case h678 =>
        intro W9 hW9
        go_big_quiet_op
        apply Exists.intro
        refine ⟨fun _ => ?_, ?_⟩
        · with_reducible exact HT3.out _ _ _
        · exact rfl
      simp only [Walk, All]
      intro g18 hg hf w2 hD2
      have k18 : w2.heap[g18]? = some (box3 ⟨0, 0, 0⟩) := hD2.2 (g18, box3 ⟨0, 0, 0⟩) (by simp)
      have K7 := Lib.hid (K6.out.put hg hD2.1 #[.int .i64 f1, .int .i64 f2, .int .i64 f3])
      clear hf hD2 hg
      simp only [List.drop_succ_cons, List.drop_zero, Act.put, List.setIfInBounds_toArray, List.set_cons_succ, List.set_cons_zero, ptr]
      refine store_vec rfl (.tmp 17) (.tmp 59) rfl rfl g18 f1 f2 f3 rfl rfl _ _ _ k18 ?_
      have F7 := Lib.hid (setRow_heap w2 g18 _ #[.int .i64 f1, .int .i64 f2, .int .i64 f3] _ _ k18)
      clear k18 K6 T6 V6
      generalize w2.setRow g18 _ = W7 at *
      clear w2 W6 HE1 HE2 HE3 HE4 HT1 HT2 HT3
      go_upto_region 12 with (fail)
      obtain ⟨b0, b1, b2⟩ := cells3 F7.out
      obtain ⟨c0, c1, c2⟩ := cells3 K7.out.h1
      have HR := Lib.hid K7.out.h2
      have HB := Lib.hid K7.out.hb
      clear K7 F7
      refine wp_region_below_tail 6 (by kernel_rfl) (by kernel_rfl) ?_
      simp only [List.take_succ_cons, List.take_zero, List.drop_succ_cons, List.drop_zero]
      repeat (go_big_quiet_step (first | (with_reducible exact HT4.out _ _ _) | (with_reducible exact HT5.out _ _ _) | (with_reducible exact HT6.out _ _ _)))
      refine wpQuiet_nil ?_
      rintro _ ⟨⟨dq, osq⟩, rfl⟩
      clear b0 b1 b2 c0 c1 c2
      refine store_vec rfl (.tmp 10) (.tmp 65) rfl rfl (w.heap.size + 1 + 1) e1 e2 e3 rfl rfl _ _ _ (heap_regrown HR.out dq osq) ?_
      have hb2 : Below w.heap.size w (grow (redrawn W7 dq) osq) := HB.out.trans ((below_regrown W7 dq osq).mono HB.out.size)
      have H4 := Lib.hid (setRow_heap (grow (redrawn W7 dq) osq) (w.heap.size + 1 + 1) _ #[.int .i64 e1, .int .i64 e2, .int .i64 e3] _ _ (heap_regrown HR.out dq osq))
      have HB4 := Lib.hid (below_setRow hb2 (show w.heap.size ≤ w.heap.size + 1 + 1 by omega) #[.int .i64 e1, .int .i64 e2, .int .i64 e3])
      clear hb2
      generalize (grow (redrawn W7 dq) osq).setRow (w.heap.size + 1 + 1) #[.int .i64 e1, .int .i64 e2, .int .i64 e3] = w3 at *
      go_wp2_with fail
      refine bodyPost_ret (results_cell_row rfl _ _ (w.heap.size + 1 + 1) 23 _ _ _ rfl H4.out Try.underlying23 rfl vec_size) rfl ?_
      exact ⟨rfl, HB4.out⟩
    · have dd1 : decide (n1 > 2147483648) = false := decide_eq_false h1
      have dd2 : decide (2147483648 < n1) = false := decide_eq_false h1
      have hx := HY.out (fun h => h.elim h1 h2)
      have dd3 : decide (n1 < -2147483648) = false := decide_eq_false h2
      obtain ⟨rfl, rfl, rfl⟩ := V3.mk.inj hx
      clear hx HX HY h1 h2
      go_enter Try.func11, Try.ntmps11
      go_wp2_with fail
      rw [← HWW.out]
      clear HWW
      refine (HM1.out _).mono ?_
      rintro e w' ⟨rfl, rfl⟩
      go_wp2_with fail
      refine (HR1.out _).mono ?_
      rintro e w' ⟨rfl, rfl⟩
      go_wp2_with fail
      refine (HB1.out _).mono ?_
      rintro e w' ⟨rfl, rfl⟩
      go_wp2_with fail
      refine (HR2.out _).mono ?_
      rintro e w' ⟨rfl, rfl⟩
      clear HM1 HR1 HB1 HR2
      obtain ⟨W1, hv1⟩ : ∃ V, V = (W.alloc (box3 ⟨0, 0, 0⟩)).setRow W.heap.size #[.int .i64 4294967296, .int .i64 0, .int .i64 0] := ⟨_, rfl⟩
      have G1 := Lib.hid (show W1.heap[W.heap.size]? = some (box3 ⟨4294967296, 0, 0⟩) by rw [hv1]; exact put3_row _ _ _ _)
      have K1 := Lib.hid (K.out.step (show Below W.heap.size W W1 by rw [hv1]; exact put3_ext _ _ _ _))
      have hlt := lt_of_heap K.out.h2
      go_upto_region 7 with (with_reducible refine store_vec rfl (.tmp 14) (.tmp 30) rfl rfl W.heap.size 4294967296 0 0 rfl rfl _ _ _ (heap_alloc_new _ _) ?_)
      rw [← hv1]
      clear hv1 K c0 c1 c2
      generalize W.heap.size = g15 at *
      clear W
      obtain ⟨c0, c1, c2⟩ := cells_now K1.out.h1
      go_upto_region 9 with (fail)
      clear hlt c0 c1 c2
      obtain ⟨b0, b1, b2⟩ := cells_now G1.out
      obtain ⟨c0, c1, c2⟩ := cells_now K1.out.h1
      go_wp2_with fail
      refine (HS1.out _).mono ?_
      rintro e W2 ⟨rfl, hb2⟩
      have K2 := Lib.hid (K1.out.step hb2)
      clear hb2 HS1 b0 b1 b2 c0 c1 c2 K1 G1
      clear W1
      go_wp2_with fail
      refine (HS2.out _).mono ?_
      rintro e W3 ⟨rfl, hb3⟩
      have K3 := Lib.hid (K2.out.step hb3)
      clear hb3 HS2 K2 W2
      obtain ⟨W4, hW4⟩ : ∃ V, V = (W3.alloc (box3 ⟨0, 0, 0⟩)).setRow W3.heap.size #[.int .i64 u1, .int .i64 u2, .int .i64 u3] := ⟨_, rfl⟩
      have T4 := Lib.hid (show W4.heap[W3.heap.size]? = some (box3 ⟨u1, u2, u3⟩) by rw [hW4]; exact put3_row _ _ _ _)
      have K4 := Lib.hid (K3.out.step (show Below W3.heap.size W3 W4 by rw [hW4]; exact put3_ext _ _ _ _))
      go_upto_region 10 with (with_reducible refine store_vec rfl (.tmp 15) (.tmp 43) rfl rfl W3.heap.size u1 u2 u3 rfl rfl _ _ _ (heap_alloc_new _ _) ?_)
      rw [← hW4]
      clear hW4 K3
      generalize W3.heap.size = g16 at *
      clear W3
      obtain ⟨b0, b1, b2⟩ := cells_now T4.out
      obtain ⟨c0, c1, c2⟩ := cells_now K4.out.h1
      go_wp2_with fail
      refine (HS3.out _).mono ?_
      rintro e W5 ⟨rfl, hb5⟩
      have K5 := Lib.hid (K4.out.step hb5)
      have T5 := Lib.hid (vec_step T4.out hb5)
      clear hb5 HS3 b0 b1 b2 c0 c1 c2 K4 T4 W4
      obtain ⟨W6, hW6⟩ : ∃ V, V = (W5.alloc (box3 ⟨0, 0, 0⟩)).setRow W5.heap.size #[.int .i64 v1, .int .i64 v2, .int .i64 v3] := ⟨_, rfl⟩
      have V6 := Lib.hid (show W6.heap[W5.heap.size]? = some (box3 ⟨v1, v2, v3⟩) by rw [hW6]; exact put3_row _ _ _ _)
      have hb6 : Below W5.heap.size W5 W6 := by rw [hW6]; exact put3_ext _ _ _ _
      have K6 := Lib.hid (K5.out.step hb6)
      have T6 := Lib.hid (vec_step T5.out hb6)
      go_upto_region 11 with (with_reducible refine store_vec rfl (.tmp 16) (.tmp 46) rfl rfl W5.heap.size v1 v2 v3 rfl rfl _ _ _ (heap_alloc_new _ _) ?_)
      rw [← hW6]
      clear hW6 hb6 K5 T5
      generalize W5.heap.size = g17 at *
      clear W5
      refine wp_region_allocs 14 [0, 1, 2, 3, 4, 5, 6, 7, 8, 9, 10, 11, 12] [(13, 17, box3 ⟨0, 0, 0⟩)] (by kernel_rfl) (by kernel_rfl) (by
        intro x hx
        simp only [List.mem_cons, List.not_mem_nil, or_false] at hx
        rcases hx with rfl
        exact ⟨by decide, _, rfl, ⟨⟨_, rfl, alloc_vec⟩, rfl, rfl⟩⟩) (by decide) (by decide) ?_
      refine Walk.step (A := ?A779) (o := ?o779) ?e779 ?w779 47 ?d779 (by simp) ?h779 ?n779
      case e779 => simp only [List.getElem?_toArray, List.getElem?_cons_succ, List.getElem?_cons_zero]; exact rfl
      case w779 => exact rfl
      case d779 => exact rfl
      case h779 =>
        intro W9 hW9
        obtain ⟨e0, e1, e2⟩ := cells3 ((hW9.block _ (lt_of_heap T6.out)).trans T6.out)
        go_big_quiet_op
        exact rfl
      refine Walk.step (A := ?A780) (o := ?o780) ?e780 ?w780 48 ?d780 (by simp) ?h780 ?n780
      case e780 => simp only [List.getElem?_toArray, List.getElem?_cons_succ, List.getElem?_cons_zero]; exact rfl
      case w780 => exact rfl
      case d780 => exact rfl
      case h780 =>
        intro W9 hW9
        go_big_quiet_op
        exact rfl
      refine Walk.step (A := ?A781) (o := ?o781) ?e781 ?w781 49 ?d781 (by simp) ?h781 ?n781
      case e781 => simp only [List.getElem?_toArray, List.getElem?_cons_succ, List.getElem?_cons_zero]; exact rfl
      case w781 => exact rfl
      case d781 => exact rfl
      case h781 =>
        intro W9 hW9
        go_big_quiet_op
        exact rfl
      refine Walk.step (A := ?A782) (o := ?o782) ?e782 ?w782 50 ?d782 (by simp) ?h782 ?n782
      case e782 => simp only [List.getElem?_toArray, List.getElem?_cons_succ, List.getElem?_cons_zero]; exact rfl
      case w782 => exact rfl
      case d782 => exact rfl
      case h782 =>
        intro W9 hW9
        go_big_quiet_op
        apply Exists.intro
        refine ⟨fun _ => ?_, ?_⟩
        · with_reducible exact HE1.out _ _ _
        · exact rfl
      refine Walk.step (A := ?A783) (o := ?o783) ?e783 ?w783 51 ?d783 (by simp) ?h783 ?n783
      case e783 => simp only [List.getElem?_toArray, List.getElem?_cons_succ, List.getElem?_cons_zero]; exact rfl
      case w783 => exact rfl
      case d783 => exact rfl
      case h783 =>
        intro W9 hW9
        go_big_quiet_op
        apply Exists.intro
        refine ⟨fun _ => ?_, ?_⟩
        · with_reducible exact HE3.out _ _ _
        · exact rfl
      refine Walk.step (A := ?A784) (o := ?o784) ?e784 ?w784 52 ?d784 (by simp) ?h784 ?n784
      case e784 => simp only [List.getElem?_toArray, List.getElem?_cons_succ, List.getElem?_cons_zero]; exact rfl
      case w784 => exact rfl
      case d784 => exact rfl
      case h784 =>
        intro W9 hW9
        go_big_quiet_op
        apply Exists.intro
        refine ⟨fun _ => ?_, ?_⟩
        · with_reducible exact HT1.out _ _ _
        · exact rfl
      refine Walk.step (A := ?A785) (o := ?o785) ?e785 ?w785 53 ?d785 (by simp) ?h785 ?n785
      case e785 => simp only [List.getElem?_toArray, List.getElem?_cons_succ, List.getElem?_cons_zero]; exact rfl
      case w785 => exact rfl
      case d785 => exact rfl
      case h785 =>
        intro W9 hW9
        obtain ⟨e0, e1, e2⟩ := cells3 ((hW9.block _ (lt_of_heap V6.out)).trans V6.out)
        go_big_quiet_op
        exact rfl
      refine Walk.step (A := ?A786) (o := ?o786) ?e786 ?w786 54 ?d786 (by simp) ?h786 ?n786
      case e786 => simp only [List.getElem?_toArray, List.getElem?_cons_succ, List.getElem?_cons_zero]; exact rfl
      case w786 => exact rfl
      case d786 => exact rfl
      case h786 =>
        intro W9 hW9
        go_big_quiet_op
        exact rfl
      refine Walk.step (A := ?A787) (o := ?o787) ?e787 ?w787 55 ?d787 (by simp) ?h787 ?n787
      case e787 => simp only [List.getElem?_toArray, List.getElem?_cons_succ, List.getElem?_cons_zero]; exact rfl
      case w787 => exact rfl
      case d787 => exact rfl
      case h787 =>
        intro W9 hW9
        go_big_quiet_op
        exact rfl
      refine Walk.step (A := ?A788) (o := ?o788) ?e788 ?w788 56 ?d788 (by simp) ?h788 ?n788
      case e788 => simp only [List.getElem?_toArray, List.getElem?_cons_succ, List.getElem?_cons_zero]; exact rfl
      case w788 => exact rfl
      case d788 => exact rfl
      case h788 =>
        intro W9 hW9
        go_big_quiet_op
        apply Exists.intro
        refine ⟨fun _ => ?_, ?_⟩
        · with_reducible exact HE2.out _ _ _
        · exact rfl
      refine Walk.step (A := ?A789) (o := ?o789) ?e789 ?w789 57 ?d789 (by simp) ?h789 ?n789
      case e789 => simp only [List.getElem?_toArray, List.getElem?_cons_succ, List.getElem?_cons_zero]; exact rfl
      case w789 => exact rfl
      case d789 => exact rfl
      case h789 =>
        intro W9 hW9
        go_big_quiet_op
        apply Exists.intro
        refine ⟨fun _ => ?_, ?_⟩
        · with_reducible exact HE4.out _ _ _
        · exact rfl
      refine Walk.step (A := ?A790) (o := ?o790) ?e790 ?w790 58 ?d790 (by simp) ?h790 ?n790
      case e790 => simp only [List.getElem?_toArray, List.getElem?_cons_succ, List.getElem?_cons_zero]; exact rfl
      case w790 => exact rfl
      case d790 => exact rfl
      case h790 =>
        intro W9 hW9
        go_big_quiet_op
        apply Exists.intro
        refine ⟨fun _ => ?_, ?_⟩
        · with_reducible exact HT2.out _ _ _
        · exact rfl
      refine Walk.step (A := ?A791) (o := ?o791) ?e791 ?w791 59 ?d791 (by simp) ?h791 ?n791
      case e791 => simp only [List.getElem?_toArray, List.getElem?_cons_succ, List.getElem?_cons_zero]; exact rfl
      case w791 => exact rfl
      case d791 => exact rfl
      case h791 =>
        intro W9 hW9
        go_big_quiet_op
        apply Exists.intro
        refine ⟨fun _ => ?_, ?_⟩
        · with_reducible exact HT3.out _ _ _
        · exact rfl
      simp only [Walk, All]
      intro g18 hg hf w2 hD2
      have k18 : w2.heap[g18]? = some (box3 ⟨0, 0, 0⟩) := hD2.2 (g18, box3 ⟨0, 0, 0⟩) (by simp)
      have K7 := Lib.hid (K6.out.put hg hD2.1 #[.int .i64 f1, .int .i64 f2, .int .i64 f3])
      clear hf hD2 hg
      simp only [List.drop_succ_cons, List.drop_zero, Act.put, List.setIfInBounds_toArray, List.set_cons_succ, List.set_cons_zero, ptr]
      refine store_vec rfl (.tmp 17) (.tmp 59) rfl rfl g18 f1 f2 f3 rfl rfl _ _ _ k18 ?_
      have F7 := Lib.hid (setRow_heap w2 g18 _ #[.int .i64 f1, .int .i64 f2, .int .i64 f3] _ _ k18)
      clear k18 K6 T6 V6
      generalize w2.setRow g18 _ = W7 at *
      clear w2 W6 HE1 HE2 HE3 HE4 HT1 HT2 HT3
      go_upto_region 12 with (fail)
      obtain ⟨b0, b1, b2⟩ := cells3 F7.out
      obtain ⟨c0, c1, c2⟩ := cells3 K7.out.h1
      have HR := Lib.hid K7.out.h2
      have HB := Lib.hid K7.out.hb
      clear K7 F7
      refine wp_region_below_tail 6 (by kernel_rfl) (by kernel_rfl) ?_
      simp only [List.take_succ_cons, List.take_zero, List.drop_succ_cons, List.drop_zero]
      repeat (go_big_quiet_step (first | (with_reducible exact HT4.out _ _ _) | (with_reducible exact HT5.out _ _ _) | (with_reducible exact HT6.out _ _ _)))
      refine wpQuiet_nil ?_
      rintro _ ⟨⟨dq, osq⟩, rfl⟩
      clear b0 b1 b2 c0 c1 c2
      refine store_vec rfl (.tmp 10) (.tmp 65) rfl rfl (w.heap.size + 1 + 1) e1 e2 e3 rfl rfl _ _ _ (heap_regrown HR.out dq osq) ?_
      have hb2 : Below w.heap.size w (grow (redrawn W7 dq) osq) := HB.out.trans ((below_regrown W7 dq osq).mono HB.out.size)
      have H4 := Lib.hid (setRow_heap (grow (redrawn W7 dq) osq) (w.heap.size + 1 + 1) _ #[.int .i64 e1, .int .i64 e2, .int .i64 e3] _ _ (heap_regrown HR.out dq osq))
      have HB4 := Lib.hid (below_setRow hb2 (show w.heap.size ≤ w.heap.size + 1 + 1 by omega) #[.int .i64 e1, .int .i64 e2, .int .i64 e3])
      clear hb2
      generalize (grow (redrawn W7 dq) osq).setRow (w.heap.size + 1 + 1) #[.int .i64 e1, .int .i64 e2, .int .i64 e3] = w3 at *
      go_wp2_with fail
      refine bodyPost_ret (results_cell_row rfl _ _ (w.heap.size + 1 + 1) 23 _ _ _ rfl H4.out Try.underlying23 rfl vec_size) rfl ?_
      exact ⟨rfl, HB4.out⟩

end Go.Proofs.Ytnfbeldiideonaa.LightH
