/- The laws of chapter 04. -/
import Derived.Test.YtadnikpbmjflaaaSumsW
import Derived.Test.YtadnikpbmjflaaaLow
namespace Go.Proofs.Ytadnikpbmjflaaa.SumsL
open Go.RowKit SumsM SumsW Base Low

theorem refCrc_same (sum : Nat) (hs : sum ≤ 4294967295) (v : Value) (l : List Nat) (w : World) (hv : Nums .u8 256 w v l) :
    Calls Try.prog 18 #[.int .u32 (sum : Int), v] w fun e w' => e = .returned (.int .u32 (crc sum l : Nat)) ∧ w = w' := by
  rw [crc_eq sum hs]; exact refCrc_any sum hs v l w hv
theorem crc_ex1 (v : Value) (w : World) (hv : Nums .u8 256 w v [49, 50, 51, 52, 53, 54, 55, 56, 57]) :
    Calls Try.prog 17 #[.int .u32 0, v] w fun e w' => e = .returned (.int .u32 3421780262) ∧ Below w.heap.size w w' := by
  have h := crc_any 0 (by omega) v _ w hv
  rw [ex1] at h; exact h
theorem crc_ex0 (w : World) :
    Calls Try.prog 17 #[.int .u32 0, .slice none 0 0] w fun e w' => e = .returned (.int .u32 0) ∧ Below w.heap.size w w' := by
  have h := crc_any 0 (by omega) _ _ w (Nums.nil .u8 256 w)
  exact h
theorem adler_ex1 (v : Value) (w : World) (hv : Nums .u8 256 w v [87, 105, 107, 105, 112, 101, 100, 105, 97]) :
    Calls Try.prog 15 #[.int .u32 1, v] w fun e w' => e = .returned (.int .u32 300286872) ∧ w = w' := by
  have h := adler_any 1 (by omega) v _ w hv
  rw [ex2] at h; exact h
theorem adler_ex0 (w : World) :
    Calls Try.prog 15 #[.int .u32 1, .slice none 0 0] w fun e w' => e = .returned (.int .u32 1) ∧ w = w' := by
  have h := adler_any 1 (by omega) _ _ w (Nums.nil .u8 256 w)
  exact h

set_option maxRecDepth 100000 in
set_option maxHeartbeats 1000000 in
theorem awake_any (w : World) : Calls Try.prog 19 #[] w fun e w' => e = .returned (.bool true) ∧ Below w.heap.size w w' := by
  have kc := fun (w : World) (C : Array Value) (n c : Nat) => Lib.run_convert_bytes_const (P := Try.prog) w 22 5 C n c Try.underlying22 Try.underlying5
  go_enter Try.func19, Try.ntmps19
  go_wp2_with fail
  refine (crc_ex1 _ _ (nums_blk .u8 256 (heap_alloc_new _ _) _ (by decide) (by decide) rfl 9 rfl)).mono ?_
  rintro e w1 ⟨rfl, hb1⟩
  go_wp2_with fail
  refine (crc_ex0 _).mono ?_
  rintro e w2 ⟨rfl, hb2⟩
  go_wp2_with fail
  refine (adler_ex1 _ _ (nums_blk .u8 256 (heap_alloc_new _ _) _ (by decide) (by decide) rfl 9 rfl)).mono ?_
  rintro e w3 ⟨rfl, rfl⟩
  go_wp2_with fail
  refine (adler_ex0 _).mono ?_
  rintro e w3 ⟨rfl, rfl⟩
  go_wp2_with fail
  go_ret
  exact ⟨rfl, ext_trans (ext_trans (ext_alloc _ _) hb1) (ext_trans hb2 (ext_alloc _ _))⟩

set_option maxRecDepth 100000 in
set_option maxHeartbeats 1000000 in
theorem tells_any (sum : Nat) (hs : sum ≤ 4294967295) (v : Value) (l : List Nat) (w : World) (hv : Nums .u8 256 w v l) :
    Calls Try.prog 4 #[.int .u32 (sum : Int), v] w fun e w' => e = .returned (.bool true) ∧ Below w.heap.size w w' := by
  obtain ⟨a, cap, rfl, hlen, hbyte, hcell⟩ := hv.open_
  by_cases hbig : 4000 < l.length
  · go_enter Try.func4, Try.ntmps4
    go_wp2_with fail
    refine (awake_any _).mono ?_
    rintro e w1 ⟨rfl, hb1⟩
    go_wp2_with fail
    go_ret
    exact ⟨rfl, hb1⟩
  · go_enter Try.func4, Try.ntmps4
    go_wp2_with fail
    refine (copyBytes_any _ l _ hv (by omega)).mono ?_
    rintro e w1 ⟨v1, rfl, hown1, hb1⟩
    go_wp2_with fail
    refine (crc_any sum hs _ l _ hown1.nums).mono ?_
    rintro e w2 ⟨rfl, hb2⟩
    have hv2 := hv.below (ext_trans hb1 hb2) (Nat.le_refl _)
    go_wp2_with fail
    refine (refCrc_same sum hs _ l _ hv2).mono ?_
    rintro e w3 ⟨rfl, rfl⟩
    go_wp2_with fail
    have hv1 := hown1.nums.below hb2 (Nat.le_refl _)
    refine (adler_any sum hs _ l _ hv1).mono ?_
    rintro e w3 ⟨rfl, rfl⟩
    go_wp2_with fail
    refine (refAdler_any sum hs _ l _ hv2).mono ?_
    rintro e w3 ⟨rfl, rfl⟩
    go_wp2_with fail
    refine (sameBytes_any _ _ l l _ hv1 hv2).mono ?_
    rintro e w3 ⟨rfl, rfl⟩
    have hd : decide (l = l) = true := by simp
    go_wp2_with fail
    refine (awake_any _).mono ?_
    rintro e w3 ⟨rfl, hb3⟩
    go_wp2_with fail
    go_ret
    exact ⟨rfl, ext_trans (ext_trans hb1 hb2) hb3⟩

theorem crc_step2 (sum : Nat) (hs : sum ≤ 4294967295) (l m both : List Nat) (hboth : both = l ++ m) (hl : ∀ x ∈ l, x < 256) (v : Value) (w : World) (hv : Nums .u8 256 w v m) :
    Calls Try.prog 17 #[.int .u32 (crc sum l : Nat), v] w fun e w' => e = .returned (.int .u32 (crc sum both : Nat)) ∧ Below w.heap.size w w' := by
  subst hboth
  have hb : crc sum l ≤ 4294967295 := by unfold crc; split <;> omega
  have h := crc_any (crc sum l) hb v m w hv
  rw [crc_append sum hs l m hl] at h; exact h
theorem adler_step2 (sum : Nat) (l m both : List Nat) (hboth : both = l ++ m) (v : Value) (w : World) (hv : Nums .u8 256 w v m) :
    Calls Try.prog 15 #[.int .u32 (adler sum l : Nat), v] w fun e w' => e = .returned (.int .u32 (adler sum both : Nat)) ∧ w = w' := by
  subst hboth
  have hb := adler_lt sum l
  have h := adler_any (adler sum l) (by omega) v m w hv
  rw [adler_append sum l m] at h; exact h

set_option maxRecDepth 100000 in
set_option maxHeartbeats 1000000 in
theorem pieces_any (sum : Nat) (hs : sum ≤ 4294967295) (v u : Value) (l m : List Nat) (at_ : Int) (ha1 : -9223372036854775808 ≤ at_) (ha2 : at_ ≤ 9223372036854775807) (turn : Nat) (ht : turn < 256) (w : World) (hv : Nums .u8 256 w v l) (hu : Nums .u8 256 w u m) :
    Calls Try.prog 5 #[.int .u32 (sum : Int), v, u, .int .i64 at_, .int .u8 (turn : Int)] w fun e w' => e = .returned (.bool true) ∧ Below w.heap.size w w' := by
  obtain ⟨a, cap, rfl, hlen, hbyte, hcell⟩ := hv.open_
  obtain ⟨a2, cap2, rfl, hlen2, hbyte2, hcell2⟩ := hu.open_
  by_cases hbig : 4000 < l.length
  · have hd : decide ((4000 : Int) < (l.length : Int)) = true := by simp; omega
    go_enter Try.func5, Try.ntmps5
    go_wp2_with fail
    refine (awake_any _).mono ?_
    rintro e w1 ⟨rfl, hb1⟩
    go_wp2_with fail
    go_ret
    exact ⟨rfl, hb1⟩
  · have hd : decide ((4000 : Int) < (l.length : Int)) = false := by simp; omega
    by_cases hbig2 : 4000 < m.length
    · have hd2 : decide ((4000 : Int) < (m.length : Int)) = true := by simp; omega
      go_enter Try.func5, Try.ntmps5
      go_wp2_with fail
      refine (awake_any _).mono ?_
      rintro e w1 ⟨rfl, hb1⟩
      go_wp2_with fail
      go_ret
      exact ⟨rfl, hb1⟩
    · have hd2 : decide ((4000 : Int) < (m.length : Int)) = false := by simp; omega
      obtain ⟨both, hboth⟩ : ∃ b, b = l ++ m := ⟨_, rfl⟩
      have hB := Lib.hid hboth
      have hbl := Lib.hid (show both.length ≤ 8000 by rw [hboth, List.length_append]; omega)
      clear hboth
      have hbnd1 : (l.length + m.length) * 1 ≤ 140737488355328 := by omega
      have hbnd2 : l.length + m.length ≤ 140737488355328 := by omega
      go_enter Try.func5, Try.ntmps5
      go_wp2_with fail
      refine (copyBytes_any _ l _ hv (by omega)).mono ?_
      rintro e w1 ⟨v1, rfl, hown1, hb1⟩
      have hu1 := hu.below hb1 (Nat.le_refl _)
      have hU1 := Lib.hid hu1
      go_wp2_with (at_builtin; refine wpList_append_nums rfl (.tmp 23) (.tmp 24) 22 5 rfl .u8 256 1 w.heap.size u8s v1 l rfl hown1 _ m rfl hU1.out hbnd1 hbnd2 hb1.size ?_; intro v2 w2 hown2 hgr2)
      rw [← hB.out] at hown2
      have hb2 : Below w.heap.size w w2 := below_grown hb1 hown1 hgr2 (Nat.le_refl _) hb1.size
      have hv2 := hv.below hb2 (Nat.le_refl _)
      have hu2 := hu.below hb2 (Nat.le_refl _)
      clear hown1 hu1 hU1 hgr2 hb1
      refine (crc_any sum hs _ l _ hv2).mono ?_
      rintro e w3 ⟨rfl, hb3⟩
      go_wp2_with fail
      refine (crc_step2 sum hs l m both hB.out hbyte _ _ (hu2.below hb3 (Nat.le_refl _))).mono ?_
      rintro e w4 ⟨rfl, hb4⟩
      go_wp2_with fail
      have hb34 := ext_trans hb3 hb4
      clear hb3 hb4
      refine (crc_any sum hs _ both _ (hown2.nums.below hb34 (Nat.le_refl _))).mono ?_
      rintro e w5 ⟨rfl, hb5⟩
      go_wp2_with fail
      have hb35 := ext_trans hb34 hb5
      clear hb34 hb5
      refine (adler_any sum hs _ l _ (hv2.below hb35 (Nat.le_refl _))).mono ?_
      rintro e w6 ⟨rfl, rfl⟩
      go_wp2_with fail
      refine (adler_step2 sum l m both hB.out _ _ (hu2.below hb35 (Nat.le_refl _))).mono ?_
      rintro e w6 ⟨rfl, rfl⟩
      go_wp2_with fail
      have hown5 := hown2.below hb35 (Nat.le_refl _)
      have hb5 := hb2.trans (hb35.mono hb2.size)
      clear hb2 hv2 hu2 hown2 hb35
      refine (adler_any sum hs _ both _ hown5.nums).mono ?_
      rintro e w6 ⟨rfl, rfl⟩
      obtain ⟨a5, cap5, rfl, hlen5, hbyte5, _⟩ := hown5.nums.open_
      by_cases hemp : both.length = 0
      · have hd5 : decide ((0 : Int) < (both.length : Int)) = false := decide_eq_false (by omega)
        go_wp2_with fail
        refine (awake_any _).mono ?_
        rintro e w7 ⟨rfl, hb7⟩
        go_wp2_with fail
        go_ret
        exact ⟨rfl, hb5.trans (hb7.mono hb5.size)⟩
      · have hd5 : decide ((0 : Int) < (both.length : Int)) = true := decide_eq_true (by omega)
        by_cases ht0 : turn = 0
        · subst ht0
          have hd6 : (((0 : Nat) : Int) != 0) = false := by simp
          go_wp2_with fail
          refine (awake_any _).mono ?_
          rintro e w7 ⟨rfl, hb7⟩
          go_wp2_with fail
          go_ret
          exact ⟨rfl, hb5.trans (hb7.mono hb5.size)⟩
        · have hd6 : ((turn : Int) != 0) = true := by simp; omega
          go_wp2_with fail
          refine (copyBytes_any _ both _ hown5.nums (by have := hbl.out; omega)).mono ?_
          rintro e w7 ⟨v7, rfl, hown7, hb7⟩
          go_wp2_with fail
          refine (pick_any at_ both.length ha1 ha2 hlen5 _).mono ?_
          rintro e w8 ⟨rfl, rfl⟩
          obtain ⟨g, cap7, rfl, _, hbg, hgs, hc7, hf7, hset⟩ := hown7.at_ (by omega)
          have hj := pick_lt at_ both.length (by omega)
          generalize pick at_ both.length = j at *
          have c1 := hc7 j hj
          have c2 := hf7 j
          have hxb := hbyte5 both[j] (List.getElem_mem hj)
          have hx1 : bits BinOp.xor IntKind.u8 ((both[j] : Nat) : Int) (turn : Int) = ((both[j] ^^^ turn : Nat) : Int) := u8_xor_nat _ _ hxb ht
          have hy : both[j] ^^^ turn < 256 := Nat.xor_lt_two_pow (n := 8) hxb ht
          have hown8 := hset j (both[j] ^^^ turn) hy
          have hne : both[j] ≠ both[j] ^^^ turn := by
            intro h
            have : both[j] ^^^ both[j] = both[j] ^^^ (both[j] ^^^ turn) := by rw [← h]
            rw [Nat.xor_self, ← Nat.xor_assoc, Nat.xor_self, Nat.zero_xor] at this
            omega
          have hsplit : both = both.take j ++ both[j] :: both.drop (j + 1) := by simp
          have hsplit2 : both.set j (both[j] ^^^ turn) = both.take j ++ (both[j] ^^^ turn) :: both.drop (j + 1) := by rw [List.set_eq_take_append_cons_drop, if_pos hj]
          have n1 : crc sum (both.set j (both[j] ^^^ turn)) ≠ crc sum both := by
            rw [hsplit2]; conv => rhs; rw [hsplit]
            exact (crc_other sum hs _ _ _ _ (fun x hx => hbyte5 x (List.mem_of_mem_take hx)) (fun x hx => hbyte5 x (List.mem_of_mem_drop hx)) hxb hy hne).symm
          have n2 : adler sum (both.set j (both[j] ^^^ turn)) ≠ adler sum both := by
            rw [hsplit2]; conv => rhs; rw [hsplit]
            exact (adler_other sum _ _ _ _ hxb hy hne).symm
          clear hsplit hsplit2 hne hset hc7 hf7
          generalize both.set j (both[j] ^^^ turn) = other at *
          generalize both[j] ^^^ turn = y at *
          generalize both[j] = x at *
          have q1 : (((crc sum other : Nat) : Int) == ((crc sum both : Nat) : Int)) = false := by simp; omega
          have q2 : (((adler sum other : Nat) : Int) == ((adler sum both : Nat) : Int)) = false := by simp; omega
          clear hcell hcell2 n1 n2
          have hb8 : Below w5.heap.size w5 (w7.setCell ⟨g, j, none⟩ (.int .u8 (y : Int))) := setCell_below hb7 hbg _
          have hB8 := Lib.hid (hown5.below hb8 (Nat.le_refl _))
          have hO8 := Lib.hid hown8
          clear hown8 hb7 hown7
          go_wp2_with fail
          generalize w7.setCell ⟨g, j, none⟩ (.int .u8 (y : Int)) = w8 at *
          refine (crc_any sum hs _ other _ hO8.out.nums).mono ?_
          rintro e w9 ⟨rfl, hb9⟩
          go_wp2_with fail
          refine (crc_any sum hs _ both _ (hB8.out.nums.below hb9 (Nat.le_refl _))).mono ?_
          rintro e w10 ⟨rfl, hb10⟩
          go_wp2_with fail
          have hb11 := ext_trans hb9 hb10
          clear hb9 hb10
          refine (adler_any sum hs _ other _ (hO8.out.nums.below hb11 (Nat.le_refl _))).mono ?_
          rintro e w12 ⟨rfl, rfl⟩
          go_wp2_with fail
          refine (adler_any sum hs _ both _ (hB8.out.nums.below hb11 (Nat.le_refl _))).mono ?_
          rintro e w12 ⟨rfl, rfl⟩
          go_wp2_with fail
          refine (awake_any _).mono ?_
          rintro e w13 ⟨rfl, hb13⟩
          go_wp2_with fail
          go_ret
          exact ⟨rfl, (hb5.trans (hb8.mono hb5.size)).trans ((ext_trans hb11 hb13).mono (Nat.le_trans hb5.size hb8.size))⟩
end Go.Proofs.Ytadnikpbmjflaaa.SumsL
