/- The walks of the reference of chapter 11: a word, the padding, the numbers K. -/
import Derived.Test.YtmdhekpfkligiaaShaO
import Derived.Test.YtmdhekpfkligiaaArrC
import Derived.Test.YtmdhekpfkligiaaLowB
set_option linter.unusedVariables false
set_option linter.unusedSimpArgs false
namespace Go.Proofs.Ytmdhekpfkligiaa.ShaR
open Go.RowKit ShaM Base Num Low ShaW ShaP ShaK ShaB ShaO

set_option maxRecDepth 100000 in
set_option maxHeartbeats 1000000 in
theorem word_any (a : Option Addr) (n cap : Nat) (l : List Nat) (w : World) (hv : Nums .u8 256 w (.slice a n cap) l) (at_ : Nat) (hat : at_ + 4 ≤ l.length) :
    Calls Try.prog 19 #[.slice a n cap, .int .i64 (at_ : Int)] w fun e w' => e = .returned (.int .u32 (word l at_ : Int)) ∧ ∃ n, w' = w.drewN n := by
  obtain ⟨b, off, cap', e, -, hcell⟩ := hv.cells (by intro h0; subst h0; simp at hat)
  obtain ⟨a', cap2, e2, h1, h2, -⟩ := hv.shape
  simp only [Value.slice.injEq] at e e2
  obtain ⟨rfl, rfl, rfl⟩ := e
  unfold maxLen at h2
  obtain ⟨-, -, rfl⟩ := e2
  have hb0 : ∀ j, l.getD j 0 < 256 := fun j => by
    rw [List.getD_eq_getElem?_getD]
    by_cases hj : j < l.length
    · rw [List.getElem?_eq_getElem hj]; exact hv.bound _ (List.getElem_mem hj)
    · rw [List.getElem?_eq_none (by omega)]; simp
  have hc : ∀ j, j < l.length → w.cell? ⟨b, off + j, none⟩ = some (.int .u8 (l.getD j 0 : Int)) := fun j hj => by
    rw [hcell j hj, List.getD_eq_getElem?_getD, List.getElem?_eq_getElem hj]; rfl
  have g0 := hc at_ (by omega)
  have g1 := hc (at_ + 1) (by omega)
  have g2 := hc (at_ + 2) (by omega)
  have g3 := hc (at_ + 3) (by omega)
  have b0 := hb0 at_
  have b1 := hb0 (at_ + 1)
  have b2 := hb0 (at_ + 2)
  have b3 := hb0 (at_ + 3)
  have hw : word l at_ = ((l.getD at_ 0 * 256 + l.getD (at_ + 1) 0) * 256 + l.getD (at_ + 2) 0) * 256 + l.getD (at_ + 3) 0 := rfl
  generalize l.getD at_ 0 = x0 at *
  generalize l.getD (at_ + 1) 0 = x1 at *
  generalize l.getD (at_ + 2) 0 = x2 at *
  generalize l.getD (at_ + 3) 0 = x3 at *
  have HW := Lib.hid hw
  have HH := Lib.hid hv
  clear hv hcell hc hb0 hw
  have i0 : (at_ : Int) < (l.length : Int) := by omega
  have i1 : (at_ : Int) + 1 < (l.length : Int) := by omega
  have i2 : (at_ : Int) + 2 < (l.length : Int) := by omega
  have i3 : (at_ : Int) + 3 < (l.length : Int) := by omega
  have j1 : (0 : Int) ≤ (at_ : Int) + 1 := by omega
  have j2 : (0 : Int) ≤ (at_ : Int) + 2 := by omega
  have j3 : (0 : Int) ≤ (at_ : Int) + 3 := by omega
  have w1 : IntKind.i64.wrap ((at_ : Int) + 1) = (at_ : Int) + 1 := IntWalk.i64_in _ (by omega)
  have w2 : IntKind.i64.wrap ((at_ : Int) + 2) = (at_ : Int) + 2 := IntWalk.i64_in _ (by omega)
  have w3 : IntKind.i64.wrap ((at_ : Int) + 3) = (at_ : Int) + 3 := IntWalk.i64_in _ (by omega)
  have t1 : ((at_ : Int) + 1).toNat = at_ + 1 := by omega
  have t2 : ((at_ : Int) + 2).toNat = at_ + 2 := by omega
  have t3 : ((at_ : Int) + 3).toNat = at_ + 3 := by omega
  go_enter Try.func19, Try.ntmps19
  go_wp2_with fail
  go_quiet (fail)
  clear w1 w2 w3 t1 t2 t3
  go_wp2_with fail
  go_ret
  refine ⟨ret_int ?_, _, rfl⟩
  rw [HW.out]
  omega

def PadTo (w : World) (l : List Nat) (e : Ending) (w' : World) : Prop := ∃ v', e = .returned v' ∧ Own .u8 256 5 w.heap.size w' v' (padded l) ∧ Below w.heap.size w w'
theorem own_len {k : IntKind} {N E base : Nat} {w : World} {a : Option Addr} {n cap : Nat} {l : List Nat} (h : Own k N E base w (.slice a n cap) l) : n = l.length := by
  obtain ⟨_, _, e, _⟩ := h.nums.shape
  simp only [Value.slice.injEq] at e; exact e.2.1
set_option maxRecDepth 100000 in
set_option maxHeartbeats 2000000 in
theorem padded_any (v : Value) (l : List Nat) (w : World) (hv : Nums .u8 256 w v l) (hl : l.length ≤ 100000000000000) :
    Calls Try.prog 17 #[v] w (PadTo w l) := by
  obtain ⟨a0, cap0, rfl, hl1, hl2, hl3⟩ := hv.shape
  have hV := Lib.hid hv
  have hlen := Lib.hid (show (([] : List Nat).length + l.length) * 1 ≤ 140737488355328 by simp; omega)
  have hlen2 := Lib.hid (show ([] : List Nat).length + l.length ≤ 140737488355328 by simp; omega)
  have hO0 := Lib.hid (Own.nil .u8 256 5 w.heap.size w)
  clear hv hl1 hl2 hl3
  go_enter Try.func17, Try.ntmps17
  go_wp2_with (first
    | ((with_reducible refine wpList_append_nums rfl (.tmp 6) (.tmp 7) 25 5 rfl .u8 256 1 w.heap.size u8s (.slice none 0 0) [] rfl hO0.out (.slice a0 l.length cap0) l rfl hV.out hlen.out hlen2.out (Nat.le_refl _) ?_); (intro v1 w1 hown1 hgr1; have hb1 := below_grown (Below.refl _ _) hO0.out hgr1 (Nat.le_refl _) (Nat.le_refl _); obtain ⟨a1, n1, c1, rfl⟩ := hown1.slice_; have H1 := Lib.hid (And.intro hown1 hb1); clear hown1 hgr1 hb1))
    | ((with_reducible refine wpList_append_nums rfl (.tmp 9) (.tmp 10) 25 5 rfl .u8 256 1 w.heap.size u8s _ ([] ++ l) rfl (H1.out.1.alloc _) (.slice (some ⟨w1.heap.size, 0, none⟩) 1 1) [128] rfl ?gn ?ga ?gb ?gc ?_); (case gn => exact nums_one .u8 256 5 w1 128 (by omega)); (case ga => simp; omega); (case gb => simp; omega); (case gc => have := H1.out.2.size; simp; omega); (intro v2 w2 hown2 hgr2; have hb2 := below_grown (H1.out.2.alloc H1.out.2.size _) (H1.out.1.alloc _) hgr2 (Nat.le_refl _) (by have := H1.out.2.size; simp; omega); obtain ⟨a2, n2, c2, rfl⟩ := hown2.slice_; have H2 := Lib.hid (And.intro hown2 hb2); clear hown2 hgr2 hb2)))
  go_loopg [3] (zerosOf l.length) (fun r v3 wr => ∃ z : Nat, z + r = zerosOf l.length ∧ Own .u8 256 5 w.heap.size wr v3 (l ++ [128] ++ List.replicate z 0) ∧ Below w.heap.size w wr)
  case atStart => exact ⟨0, by omega, by simpa using H2.out.1, H2.out.2⟩
  case round =>
    obtain ⟨z, hz, ho, hb⟩ := hrel
    obtain ⟨a3, n3, c3, rfl⟩ := ho.slice_
    have hn3 := own_len ho
    have hzz : zerosOf l.length < 64 := by unfold zerosOf; omega
    have hL : (l ++ [128] ++ List.replicate z 0).length = l.length + 1 + z := by simp; omega
    have hn4 : n3 = l.length + 1 + z := by rw [hn3, hL]
    have GA := Lib.hid (show ((l ++ [128] ++ List.replicate z 0).length + ([0] : List Nat).length) * 1 ≤ 140737488355328 by rw [hL]; simp; omega)
    have GB := Lib.hid (show (l ++ [128] ++ List.replicate z 0).length + ([0] : List Nat).length ≤ 140737488355328 by rw [hL]; simp; omega)
    have GC := Lib.hid (show w.heap.size ≤ (wr.alloc (.cells #[.int .u8 0] 5)).heap.size by have := hb.size; simp; omega)
    clear hL
    have HO := Lib.hid ho
    have HB := Lib.hid hb
    have HN := Lib.hid hn4
    have hzo : n3 % 64 = 56 ↔ z = zerosOf l.length := by rw [hn4]; unfold zerosOf at *; omega
    have hn5 : n3 ≤ 200000000000000 := by omega
    have HZ := Lib.hid hzo
    clear ho hb hn3 hn4 hzo H1 H2
    by_cases hlt : z < zerosOf l.length
    · have hne : ((n3 : Int) % 64 != 56) = true := by
        rw [bne_iff_ne]; intro e
        have : n3 % 64 = 56 := by omega
        have := HZ.out.1 this; omega
      go_wp2_with (((with_reducible refine wpList_append_nums rfl (.tmp 16) (.tmp 17) 25 5 rfl .u8 256 1 w.heap.size u8s _ (l ++ [128] ++ List.replicate z 0) rfl (HO.out.alloc _) (.slice (some ⟨wr.heap.size, 0, none⟩) 1 1) [0] rfl ?gn2 ?ga2 ?gb2 ?gc2 ?_); (case gn2 => exact nums_one .u8 256 5 wr 0 (by omega)); (case ga2 => exact GA.out); (case gb2 => exact GB.out); (case gc2 => exact GC.out); (intro v2 w2 hown2 hgr2; have hb2 := below_grown (HB.out.alloc HB.out.size _) (HO.out.alloc _) hgr2 (Nat.le_refl _) GC.out; obtain ⟨a2, n2, c2, rfl⟩ := hown2.slice_; have H2 := Lib.hid (And.intro hown2 hb2); clear hown2 hgr2 hb2)))
      go_roundg (zerosOf l.length - (z + 1))
      case measure => omega
      case rel => exact ⟨z + 1, by omega, by rw [List.replicate_succ', ← List.append_assoc]; exact H2.out.1, H2.out.2⟩
    · have hze : z = zerosOf l.length := by omega
      have hO := HO.out
      rw [hze] at hO
      have hne : ((n3 : Int) % 64 != 56) = false := by
        have := HZ.out.2 hze
        rw [bne_eq_false_iff_eq]; omega
      have HO2 := Lib.hid hO
      clear hO HO hze hz hlt
      go_wp2_with fail
      go_loopw [3, 5] (fun v3 v wr => ∃ i : Nat, i ≤ 8 ∧ v = .int .i64 (i : Int) ∧ Own .u8 256 5 w.heap.size wr v3 (l ++ [128] ++ List.replicate (zerosOf l.length) 0 ++ (sizeBytes l.length).take i) ∧ Below w.heap.size w wr) (fun _ v _ => 8 - (intOf v).toNat)
      case atStart => exact ⟨0, by omega, rfl, by simpa using HO2.out, HB.out⟩
      case round =>
        obtain ⟨i, hi, rfl, ho, hb⟩ := hrel
        obtain ⟨a4, n4, c4, rfl⟩ := ho.slice_
        have hn4 := own_len ho
        have hsl : (sizeBytes l.length).length = 8 := by simp [sizeBytes]
        have hn5 : n4 ≤ 200000000000100 := by rw [hn4]; simp; omega
        have HO := Lib.hid ho
        clear HB
        have HB := Lib.hid hb
        clear ho hb hn4
        by_cases hlt : i < 8
        · have d1 : decide ((i : Int) < 8) = true := decide_eq_true (by omega)
          have htk : (sizeBytes l.length).take (i + 1) = (sizeBytes l.length).take i ++ [8 * l.length % 18446744073709551616 / 2 ^ (56 - 8 * i) % 256] := by
            rw [List.take_succ_eq_append_getElem (by omega)]
            congr 2
            simp [sizeBytes]
          obtain ⟨y, hy⟩ : ∃ y, y = 8 * l.length % 18446744073709551616 / 2 ^ (56 - 8 * i) % 256 := ⟨_, rfl⟩
          rw [← hy] at htk
          have hy2 : (l.length : Int) * 8 / 2 ^ (56 - 8 * i) % 256 = (y : Int) := by
            rw [hy, Nat.mod_eq_of_lt (a := 8 * l.length) (by omega), Nat.mul_comm 8 l.length, show (l.length : Int) * 8 / 2 ^ (56 - 8 * i) = ((l.length * 8 / 2 ^ (56 - 8 * i) : Nat) : Int) from by simp]; omega
          have hyl : y < 256 := by rw [hy]; exact Nat.mod_lt _ (by omega)
          have HT := Lib.hid htk
          clear htk hy
          have hL : (l ++ [128] ++ List.replicate (zerosOf l.length) 0 ++ (sizeBytes l.length).take i).length ≤ 200000000000100 := by rw [← own_len HO.out]; exact hn5
          have GA := Lib.hid (show ((l ++ [128] ++ List.replicate (zerosOf l.length) 0 ++ (sizeBytes l.length).take i).length + ([y] : List Nat).length) * 1 ≤ 140737488355328 by
            have : (l ++ [128] ++ List.replicate (zerosOf l.length) 0 ++ (sizeBytes l.length).take i).length ≤ l.length + 1 + zerosOf l.length + 8 := by simp; omega
            have : ([y] : List Nat).length = 1 := rfl
            omega)
          have GB := Lib.hid (show (l ++ [128] ++ List.replicate (zerosOf l.length) 0 ++ (sizeBytes l.length).take i).length + ([y] : List Nat).length ≤ 140737488355328 by have := GA.out; omega)
          have GC := Lib.hid (show w.heap.size ≤ (wr.alloc (.cells #[.int .u8 (y : Int)] 5)).heap.size by have := HB.out.size; simp; omega)
          clear hL
          go_wp2_with (((with_reducible refine wpList_append_nums rfl (.tmp 27) (.tmp 35) 25 5 rfl .u8 256 1 w.heap.size u8s _ (l ++ [128] ++ List.replicate (zerosOf l.length) 0 ++ (sizeBytes l.length).take i) rfl (HO.out.alloc _) (.slice (some ⟨wr.heap.size, 0, none⟩) 1 1) [y] rfl ?gn3 GA.out GB.out GC.out ?_); (case gn3 => exact nums_one .u8 256 5 wr y hyl); (intro v2 w2 hown2 hgr2; have hb2 := below_grown (HB.out.alloc HB.out.size _) (HO.out.alloc _) hgr2 (Nat.le_refl _) GC.out; obtain ⟨a2, n2, c2, rfl⟩ := hown2.slice_; have H2 := Lib.hid (And.intro hown2 hb2); clear hown2 hgr2 hb2)))
          go_roundw
          case rel => exact ⟨i + 1, by omega, by go_num, by rw [HT.out, ← List.append_assoc]; exact H2.out.1, H2.out.2⟩
          case measure => simp [intOf]; omega
        · have hi8 : 8 ≤ i := by omega
          have hO := HO.out
          rw [List.take_of_length_le (by omega)] at hO
          have HP := Lib.hid (show Own .u8 256 5 w.heap.size wr (.slice a4 n4 c4) (padded l) from hO)
          clear hO HO hlt
          go_wp2_with fail
          go_ret
          exact ⟨_, rfl, HP.out, HB.out⟩

/-! the numbers K as the reference has them -/
def rk (i : Nat) : Nat := [1116352408, 1899447441, 3049323471, 3921009573, 961987163, 1508970993, 2453635748, 2870763221, 3624381080, 310598401, 607225278, 1426881987, 1925078388, 2162078206, 2614888103, 3248222580, 3835390401, 4022224774, 264347078, 604807628, 770255983, 1249150122, 1555081692, 1996064986, 2554220882, 2821834349, 2952996808, 3210313671, 3336571891, 3584528711, 113926993, 338241895, 666307205, 773529912, 1294757372, 1396182291, 1695183700, 1986661051, 2177026350, 2456956037, 2730485921, 2820302411, 3259730800, 3345764771, 3516065817, 3600352804, 4094571909, 275423344, 430227734, 506948616, 659060556, 883997877, 958139571, 1322822218, 1537002063, 1747873779, 1955562222, 2024104815, 2227730452, 2361852424, 2428436474, 2756734187, 3204031479, 3329325298].getD i 0
theorem rk_eq : ∀ i, i < 64 → rk i = kT i := by decide +kernel
theorem hT_eq : hT 0 = 1779033703 ∧ hT 1 = 3144134277 ∧ hT 2 = 1013904242 ∧ hT 3 = 2773480762 ∧ hT 4 = 1359893119 ∧ hT 5 = 2600822924 ∧ hT 6 = 528734635 ∧ hT 7 = 1541459225 := by decide +kernel
end Go.Proofs.Ytmdhekpfkligiaa.ShaR
