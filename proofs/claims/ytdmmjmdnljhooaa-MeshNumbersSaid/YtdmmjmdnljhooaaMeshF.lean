/- The walks of mesh.Bytes's closures. -/
import Derived.Test.YtdmmjmdnljhooaaMeshE
import Derived.Test.YtdmmjmdnljhooaaArrD
set_option linter.unusedVariables false
set_option linter.unusedSimpArgs false
namespace Go.Proofs.Ytdmmjmdnljhooaa.MeshF
open Go.RowKit Go.Sort FixM Base Num Qb Qt VecW VecV VecU LightQ LightC MeshM Rec MeshA MeshB MeshC MeshD MeshE

/-- a number's bytes, the highest first -/
def beL (x : Nat) : Nat → List Nat
  | 0 => []
  | n + 1 => (x / 256 ^ n % 256) :: beL x n
theorem beL_len (x n : Nat) : (beL x n).length = n := by induction n with | zero => rfl | succ n ih => simp [beL, ih]
theorem beL_lt (x n : Nat) : ∀ y ∈ beL x n, y < 256 := by
  induction n with
  | zero => intro y hy; simp [beL] at hy
  | succ n ih =>
    intro y hy
    simp only [beL, List.mem_cons] at hy
    rcases hy with rfl | hy
    · exact Nat.mod_lt _ (by decide)
    · exact ih y hy
theorem u8s : NumSlice Try.prog 33 5 .u8 1 := numSlice Try.underlying33 (by kernel_rfl)
/-- the state of the writing closures: the slice's cell lies in block g, the blocks D are left alone -/
structure Pb (w0 w : World) (g : Nat) (v : Value) (L : List Nat) (D : Nat → Prop) : Prop where
  row : w.heap[g]? = some (.cells #[v] 33)
  own : Own .u8 256 5 w0.heap.size w v L
  ng : v.ownBlock ≠ some g
  free : ∀ b, D b → b < w.heap.size ∧ b ≠ g ∧ v.ownBlock ≠ some b
  below : Below w0.heap.size w0 w
  low : w0.heap.size ≤ g
def PTo (w0 w : World) (g : Nat) (L : List Nat) (D : Nat → Prop) (e : Ending) (w' : World) : Prop :=
  e = .returned (.tuple #[]) ∧ ∃ v, Pb w0 w' g v L D ∧ Keeps (fun k => ¬ D k) w w'

theorem Pb.put {w0 wr w2 : World} {g g2 n cap : Nat} {v' : Value} {L L' : List Nat} {D : Nat → Prop} {o : Obj} (h : Pb w0 wr g v' L D) (ho : Own .u8 256 5 w0.heap.size w2 (.slice (some ⟨g2, 0, none⟩) n cap) L')
    (hg : (wr.alloc o).drew.grownBy w2 v'.ownBlock) (hw : v'.ownBlock = some g2 ∨ g2 = wr.heap.size + 1) :
    Pb w0 (w2.setCell ⟨g, 0, none⟩ (.slice (some ⟨g2, 0, none⟩) n cap)) g (.slice (some ⟨g2, 0, none⟩) n cap) L' D ∧ Keeps (fun k => ¬ D k) wr (w2.setCell ⟨g, 0, none⟩ (.slice (some ⟨g2, 0, none⟩) n cap)) := by
  have hgl := lt_of_heap h.row
  have hs0 : (wr.alloc o).drew.heap.size = wr.heap.size + 1 := by simp
  have hs := hg.size
  rw [hs0] at hs
  have hne : g2 ≠ g := by
    rcases hw with e | e
    · rintro rfl; exact h.ng e
    · omega
  have hold : ∀ k, k < wr.heap.size → v'.ownBlock ≠ some k → w2.heap[k]? = wr.heap[k]? := fun k hk hn =>
    (hg.block k (by rw [hs0]; omega) (fun e => hn e.symm)).trans (heap_alloc_old wr o hk)
  have hK := (Keeps.refl (fun k => k = g) w2).setCell g 0 (.slice (some ⟨g2, 0, none⟩) n cap) (.inl rfl)
  have hsz := hK.size
  refine ⟨⟨?_, ?_, ?_, ?_, ?_, h.low⟩, ?_⟩
  · rw [heap_setCell_same _ _ _ _ _ _ ((hold g hgl h.ng).trans h.row)]; rfl
  · exact ho.frame hK (fun b hb => by simp only [Value.ownBlock, Option.some.injEq] at hb; omega)
  · intro e; simp only [Value.ownBlock, Option.some.injEq] at e; exact hne e
  · intro b hb
    obtain ⟨h1, h2, h3⟩ := h.free b hb
    refine ⟨by omega, h2, fun e => ?_⟩
    simp only [Value.ownBlock, Option.some.injEq] at e
    subst e
    rcases hw with e | e
    · exact h3 e
    · omega
  · have hb1 : Below w0.heap.size w0 (wr.alloc o).drew := below_drew (h.below.alloc h.below.size o)
    have ho1 : Own .u8 256 5 w0.heap.size (wr.alloc o).drew v' L := (h.own.alloc o).drew
    have hb2 : Below w0.heap.size w0 w2 := below_grown hb1 ho1 hg (Nat.le_refl _) (by rw [hs0]; have := h.below.size; omega)
    exact setCell_below hb2 h.low _
  · refine ⟨hg.os, hg.tape, hg.output, by omega, fun k hk hn => ?_⟩
    have hD : D k := Classical.not_not.1 hn
    obtain ⟨h1, h2, h3⟩ := h.free k hD
    rw [heap_setCell_other _ _ _ _ (fun e => h2 e)]
    exact hold k h1 h3

set_option maxRecDepth 100000 in
set_option maxHeartbeats 2000000 in
theorem put_any (w0 w : World) (g : Nat) (v : Value) (L : List Nat) (D : Nat → Prop) (h : Pb w0 w g v L D) (x : Nat) (hx : x < 18446744073709551616) (n : Nat) (hn : n ≤ 8) (hL : L.length ≤ 1000000000) :
    Calls Try.prog 24 #[.int .u64 (x : Int), .int .i64 (n : Int), .pointer (some ⟨g, 0, none⟩)] w (PTo w0 w g (L ++ beL x n) D) := by
  have H := Lib.hid h
  clear h
  go_enter Try.func24, Try.ntmps24
  go_wp2_with fail
  go_loopg [5] n (fun r n5 wr => ∃ pre v', pre ++ beL x r = beL x n ∧ r ≤ n ∧ n5 = .int .i64 ((r : Int) - 1) ∧ Pb w0 wr g v' (L ++ pre) D ∧ Keeps (fun k => ¬ D k) w wr)
  case atStart => exact ⟨[], v, by simp, by omega, by simp, by simpa using H.out, Keeps.refl _ _⟩
  case round =>
    obtain ⟨pre, v', hpre, hgn, rfl, hpb, hk⟩ := hrel
    have HP := Lib.hid hpb
    have HK := Lib.hid hk
    have HE := Lib.hid hpre
    clear hpb hk hpre
    cases gk with
    | zero =>
      go_wp2_with fail
      refine bodyPost_ret (v := .tuple #[]) (by simp [results, Try.results24, go_sem]) rfl ?_
      have he := HE.out
      simp only [beL, List.append_nil] at he
      exact ⟨rfl, v', by rw [← he]; exact HP.out, HK.out⟩
    | succ i =>
      have d1 : decide ((0 : Int) ≤ (i : Int)) = true := decide_eq_true (by omega)
      have m8 : IntKind.i64.wrap (8 * (i : Int)) = 8 * (i : Int) := wrap_in (by omega) (by omega)
      have n8 : decide ((8 * (i : Int)) < 0) = false := decide_eq_false (by omega)
      have c0 := cell_row HP.out.row 0 v' rfl
      have f0 := frozen_of_row _ _ 0 _ _ HP.out.row
      obtain ⟨y, hy⟩ : ∃ y, y = x / 256 ^ i % 256 := ⟨_, rfl⟩
      have hw : IntKind.u8.wrap ((x : Int) / 2 ^ (8 * (i : Int)).toNat) = (y : Int) := by
        rw [show (8 * (i : Int)).toNat = 8 * i by omega, show (x : Int) / 2 ^ (8 * i) = ((x / 2 ^ (8 * i) : Nat) : Int) by simp, IntKind.wrap_u8, hy, show (2 : Nat) ^ (8 * i) = 256 ^ i by rw [Nat.pow_mul]]
        omega
      have hy256 : y < 256 := by rw [hy]; exact Nat.mod_lt _ (by decide)
      have HY := Lib.hid hy
      obtain ⟨Lp, hLp⟩ : ∃ l, l = L ++ pre := ⟨_, rfl⟩
      rw [← hLp] at HP
      have HLP := Lib.hid hLp
      have hgl := lt_of_heap HP.out.row
      have HLEN := Lib.hid (show Lp.length + 1 ≤ 140737488355328 by
        rw [hLp]
        have := congrArg List.length HE.out
        rw [List.length_append, beL_len, beL_len] at this
        rw [List.length_append]; omega)
      have HBS := Lib.hid (show w0.heap.size ≤ (wr.drew.alloc (.cells #[.int .u8 (y : Int)] 5)).heap.size by have := HP.out.below.size; simp; omega)
      clear hy hLp
      rw [show (((i + 1 : Nat) : Int) - 1) = (i : Int) by omega]
      go_wp2_with fail
      go_region_law ((refine Num.step_append_at rfl (.tmp 12) (.tmp 18) 33 5 rfl .u8 256 1 w0.heap.size u8s v' Lp rfl (HP.out.own.drew.alloc _) ⟨wr.heap.size, 0, none⟩ 1 1 [y] rfl (nums_one .u8 256 5 wr.drew y hy256) (by omega) (by simpa using HLEN.out) HLEN.out HBS.out (wr.heap.size + 1) (by simp) ?_); (intro g2 cap w2 hown hgr hwh; have H2 := Lib.hid (And.intro hown (And.intro hgr hwh)); clear hown hgr hwh; have r2 : w2.heap[g]? = some (.cells #[v'] 33) := (H2.out.2.1.block g (by simp; omega) (fun e => HP.out.ng e.symm)).trans ((heap_alloc_old _ _ (by simpa using hgl)).trans HP.out.row); have c2 := cell_row r2 0 v' rfl; have f2 := frozen_of_row _ _ 0 _ _ r2; have R2 := Lib.hid r2; clear r2))
      all_goals
        have HZ := Lib.hid (HP.out.put H2.out.1 H2.out.2.1 H2.out.2.2)
        clear c0 c2 f0 f2 hw m8 n8 d1 R2 H2
        go_wp2_with fail
        go_roundg i
        case measure => omega
        case rel =>
          refine ⟨pre ++ [y], .slice (some ⟨g2, 0, none⟩) (Lp.length + 1) cap, ?_, by omega, by go_num, ?_, HK.out.trans HZ.out.2 (fun _ h => .inl h)⟩
          · rw [List.append_assoc, ← HE.out, HY.out]; rfl
          · rw [← List.append_assoc, ← HLP.out]; exact HZ.out.1
/-- as a 64-bit number without sign -/
def u64N (x : Int) : Nat := (x % 18446744073709551616).toNat
theorem u64N_lt (x : Int) : u64N x < 18446744073709551616 := by unfold u64N; omega
theorem u64N_wrap (x : Int) : IntKind.u64.wrap x = ((u64N x : Nat) : Int) := by
  unfold u64N
  show (if IntKind.u64.signed && decide (x % 18446744073709551616 ≥ 9223372036854775808) then x % 18446744073709551616 - 18446744073709551616 else x % 18446744073709551616) = _
  simp [IntKind.signed]; omega
/-- more blocks are left alone -/
theorem Pb.ext {w0 w w' : World} {g : Nat} {v : Value} {L : List Nat} {D : Nat → Prop} (h : Pb w0 w g v L D) (hb : Below w.heap.size w w') : Pb w0 w' g v L (fun b => D b ∨ (w.heap.size ≤ b ∧ b < w'.heap.size)) where
  row := (hb.block g (lt_of_heap h.row)).trans h.row
  own := h.own.below hb (Nat.le_refl _)
  ng := h.ng
  free := fun b hb' => by
    rcases hb' with h1 | h1
    · obtain ⟨a1, a2, a3⟩ := h.free b h1; exact ⟨Nat.lt_of_lt_of_le a1 hb.size, a2, a3⟩
    · refine ⟨h1.2, fun e => by have := lt_of_heap h.row; omega, fun e => by have := (h.own.lt b e).2; omega⟩
  below := h.below.trans (hb.mono h.below.size)
  low := h.low
theorem Pb.mono {w0 w : World} {g : Nat} {v : Value} {L : List Nat} {D D' : Nat → Prop} (h : Pb w0 w g v L D) (hD : ∀ b, D' b → D b) : Pb w0 w g v L D' := ⟨h.row, h.own, h.ng, fun b hb => h.free b (hD b hb), h.below, h.low⟩
theorem PTo.less {w0 w w1 : World} {g : Nat} {L : List Nat} {D D' : Nat → Prop} {e : Ending} {w' : World} (h : PTo w0 w1 g L D e w') (hb : Below w.heap.size w w1) (hD : ∀ b, D' b → D b) (hl : ∀ b, D' b → b < w.heap.size) : PTo w0 w g L D' e w' := by
  obtain ⟨h1, v, h2, h3⟩ := h
  refine ⟨h1, v, h2.mono hD, ⟨h3.os.trans hb.os, h3.tape.trans hb.tape, h3.output.trans hb.output, Nat.le_trans hb.size h3.size, fun k hk hn => ?_⟩⟩
  have hDk : D' k := Classical.not_not.1 hn
  rw [h3.block k (Nat.lt_of_lt_of_le hk hb.size) (fun h => h (hD k hDk)), hb.block k hk]
def be3 (v : V3) : List Nat := beL (u64N v.x) 8 ++ beL (u64N v.y) 8 ++ beL (u64N v.z) 8
theorem keep_cell {S : Nat → Prop} {w w' : World} {g : Nat} {o : Obj} (hk : Keeps S w w') (h : w.heap[g]? = some o) (hn : ¬ S g) : w'.heap[g]? = some o := (hk.block g (lt_of_heap h) hn).trans h

set_option maxRecDepth 100000 in
set_option maxHeartbeats 2000000 in
theorem pvec_any (w0 w : World) (g g6 : Nat) (v : Value) (L : List Nat) (D : Nat → Prop) (h : Pb w0 w g v L D) (p : V3) (hL : L.length ≤ 999999000) (h6 : w.heap[g6]? = some (.cells #[.func (.func 24) #[] #[.pointer (some ⟨g, 0, none⟩)]] 55)) (hD : D g6) :
    Calls Try.prog 25 #[vecV p, .pointer (some ⟨g6, 0, none⟩)] w (PTo w0 w g (L ++ be3 p) D) := by
  obtain ⟨x, y, z⟩ := p
  have E := enters Try.func24 (by kernel_rfl) rfl
  have hlw : ∀ b, D b → b < w.heap.size := fun b hb => (h.free b hb).1
  obtain ⟨W, hW⟩ : ∃ W, W = w.alloc (box3 ⟨x, y, z⟩) := ⟨_, rfl⟩
  have hBW : Below w.heap.size w W := by rw [hW]; exact ext_alloc _ _
  have hP := (h.ext hBW)
  have hG : W.heap[w.heap.size]? = some (box3 ⟨x, y, z⟩) := by rw [hW]; exact heap_alloc_new _ _
  have hDn : (fun b => D b ∨ (w.heap.size ≤ b ∧ b < W.heap.size)) w.heap.size := .inr ⟨Nat.le_refl _, lt_of_heap hG⟩
  have hD6 : (fun b => D b ∨ (w.heap.size ≤ b ∧ b < W.heap.size)) g6 := .inl hD
  have H6 := (hBW.block g6 (lt_of_heap h6)).trans h6
  have HLESS := Lib.hid (fun (e : Ending) (w' : World) (h : PTo w0 W g (L ++ be3 ⟨x, y, z⟩) (fun b => D b ∨ (w.heap.size ≤ b ∧ b < W.heap.size)) e w') => h.less hBW (fun b hb => .inl hb) hlw)
  obtain ⟨D2, hD2⟩ : ∃ D2, D2 = (fun b => D b ∨ (w.heap.size ≤ b ∧ b < W.heap.size)) := ⟨_, rfl⟩
  rw [← hD2] at hP hDn hD6 HLESS
  have G1 := Lib.hid hP
  have G2 := Lib.hid hG
  have G3 := Lib.hid H6
  have K1 := Lib.hid hDn
  have K2 := Lib.hid hD6
  have ux := u64N_wrap x
  have uy := u64N_wrap y
  have uz := u64N_wrap z
  obtain ⟨X, hX⟩ : ∃ X, X = u64N x := ⟨_, rfl⟩
  obtain ⟨Y, hY⟩ : ∃ X, X = u64N y := ⟨_, rfl⟩
  obtain ⟨Z, hZ⟩ : ∃ X, X = u64N z := ⟨_, rfl⟩
  have HX := Lib.hid (show X < 18446744073709551616 by rw [hX]; exact u64N_lt _)
  have HY := Lib.hid (show Y < 18446744073709551616 by rw [hY]; exact u64N_lt _)
  have HZ := Lib.hid (show Z < 18446744073709551616 by rw [hZ]; exact u64N_lt _)
  have HE := Lib.hid (show be3 ⟨x, y, z⟩ = beL X 8 ++ beL Y 8 ++ beL Z 8 by rw [hX, hY, hZ]; rfl)
  rw [← hX] at ux
  rw [← hY] at uy
  rw [← hZ] at uz
  have c0 := cell_row hG 0 (.int .i64 x) rfl
  have c1 := cell_row H6 0 _ rfl
  have HWW := Lib.hid hW
  clear hX hY hZ hD2 h hP hG H6 hDn hD6 hW hBW hlw h6 hD
  rw [HWW.out] at c0 c1
  go_enter Try.func25, Try.ntmps25
  go_wp2_with fail
  rw [← HWW.out]
  clear c0 c1 HWW
  refine (put_any w0 W g v L D2 G1.out X HX.out 8 (by decide) (by omega)).mono ?_
  rintro e w1 ⟨rfl, v1, hp1, hk1⟩
  have P1 := Lib.hid hp1
  have Q1 := Lib.hid hk1
  have c0 := cell_row (keep_cell hk1 G2.out (fun h => h K1.out)) 1 (.int .i64 y) rfl
  have c1 := cell_row (keep_cell hk1 G3.out (fun h => h K2.out)) 0 _ rfl
  clear hp1 hk1
  go_wp2_with fail
  clear c0 c1
  refine (put_any w0 w1 g v1 (L ++ beL X 8) D2 P1.out Y HY.out 8 (by decide) (by rw [List.length_append, beL_len]; omega)).mono ?_
  rintro e w2 ⟨rfl, v2, hp2, hk2⟩
  have P2 := Lib.hid hp2
  have Q2 := Lib.hid (Q1.out.trans hk2 (fun _ h => .inl h))
  have c0 := cell_row (keep_cell Q2.out G2.out (fun h => h K1.out)) 2 (.int .i64 z) rfl
  have c1 := cell_row (keep_cell Q2.out G3.out (fun h => h K2.out)) 0 _ rfl
  clear hp2 hk2
  go_wp2_with fail
  clear c0 c1
  refine (put_any w0 w2 g v2 (L ++ beL X 8 ++ beL Y 8) D2 P2.out Z HZ.out 8 (by decide) (by rw [List.length_append, List.length_append, beL_len, beL_len]; omega)).mono ?_
  rintro e w3 ⟨rfl, v3, hp3, hk3⟩
  have P3 := Lib.hid hp3
  have Q3 := Lib.hid (Q2.out.trans hk3 (fun _ h => .inl h))
  clear hp3 hk3
  go_wp2_with fail
  refine bodyPost_ret (v := .tuple #[]) (by simp [results, Try.results25, go_sem]) rfl ?_
  refine HLESS.out _ _ ⟨rfl, v3, ?_, Q3.out⟩
  rw [HE.out, ← List.append_assoc, ← List.append_assoc]; exact P3.out
end Go.Proofs.Ytdmmjmdnljhooaa.MeshF
