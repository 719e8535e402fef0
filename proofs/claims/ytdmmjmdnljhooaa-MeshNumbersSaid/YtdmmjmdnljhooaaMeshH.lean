/- The walk of ref12's put. -/
import Derived.Test.YtdmmjmdnljhooaaMeshG
import Derived.Test.YtdmmjmdnljhooaaQw
set_option linter.unusedVariables false
set_option linter.unusedSimpArgs false
namespace Go.Proofs.Ytdmmjmdnljhooaa.MeshH
open Go.RowKit Go.Sort FixM Base Num Qb Qt VecW VecV VecU LightQ LightC MeshM Rec MeshA MeshB MeshC MeshD MeshE MeshF MeshG

/-- the state of the reference's writing: the slice v is one's own and reads as L; the blocks X stand as in wx -/
structure Ro (w0 wx : World) (X : Nat → Prop) (v : Value) (L : List Nat) (w : World) : Prop where
  own : Own .u8 256 5 w0.heap.size w v L
  below : Below w0.heap.size w0 w
  free : ∀ b, X b → b < w.heap.size ∧ v.ownBlock ≠ some b
  kept : ∀ b, X b → w.heap[b]? = wx.heap[b]?
theorem Ro.step {w0 wx w w' : World} {X : Nat → Prop} {v : Value} {L : List Nat} (h : Ro w0 wx X v L w) (hb : Below w.heap.size w w') : Ro w0 wx X v L w' :=
  ⟨h.own.below hb (Nat.le_refl _), h.below.trans (hb.mono h.below.size), fun b hx => ⟨Nat.lt_of_lt_of_le (h.free b hx).1 hb.size, (h.free b hx).2⟩, fun b hx => (hb.block b (h.free b hx).1).trans (h.kept b hx)⟩
theorem Ro.grown {w0 wx w w' : World} {X : Nat → Prop} {v v' : Value} {L L' : List Nat} (h : Ro w0 wx X v L w) (ho : Own .u8 256 5 w0.heap.size w' v' L') (hg : w.grownBy w' v.ownBlock) (hw : v'.ownBlock = v.ownBlock ∨ ∀ b, v'.ownBlock = some b → w.heap.size ≤ b) : Ro w0 wx X v' L' w' := by
  refine ⟨ho, below_grown h.below h.own hg (Nat.le_refl _) h.below.size, fun b hx => ?_, fun b hx => ?_⟩
  · obtain ⟨h1, h2⟩ := h.free b hx
    refine ⟨Nat.lt_of_lt_of_le h1 hg.size, fun e => ?_⟩
    rcases hw with e2 | e2
    · rw [e2] at e; exact h2 e
    · have := e2 b e; omega
  · obtain ⟨h1, h2⟩ := h.free b hx
    exact (hg.block b h1 (fun e => h2 e.symm)).trans (h.kept b hx)
def RTo (w0 wx : World) (X : Nat → Prop) (L : List Nat) (e : Ending) (w' : World) : Prop := ∃ v', e = .returned v' ∧ Ro w0 wx X v' L w'

set_option maxRecDepth 100000 in
set_option maxHeartbeats 2000000 in
theorem rput_any (w0 wx w : World) (X : Nat → Prop) (v : Value) (L : List Nat) (h : Ro w0 wx X v L w) (x : Nat) (hx : x < 18446744073709551616) (n : Nat) (hn : n ≤ 8) (hL : L.length ≤ 1000000000) :
    Calls Try.prog 38 #[v, .int .u64 (x : Int), .int .i64 (n : Int)] w (RTo w0 wx X (L ++ beL x n)) := by
  have H := Lib.hid h
  clear h
  go_enter Try.func38, Try.ntmps38
  go_wp2_with fail
  go_loopg [0, 7] n (fun r n0 n7 wr => ∃ pre v', pre ++ beL x r = beL x n ∧ r ≤ n ∧ n0 = v' ∧ n7 = .int .i64 ((r : Int) - 1) ∧ Ro w0 wx X v' (L ++ pre) wr)
  case atStart => exact ⟨[], v, by simp, by omega, rfl, by simp, by simpa using H.out⟩
  case round =>
    obtain ⟨pre, v', hpre, hgn, rfl, rfl, hpb⟩ := hrel
    have HP := Lib.hid hpb
    have HE := Lib.hid hpre
    clear hpb hpre
    cases gk with
    | zero =>
      go_wp2_with fail
      go_ret
      have he := HE.out
      simp only [beL, List.append_nil] at he
      exact ⟨_, rfl, by rw [← he]; exact HP.out⟩
    | succ i =>
      have d1 : decide ((0 : Int) ≤ (i : Int)) = true := decide_eq_true (by omega)
      have m8 : IntKind.i64.wrap (8 * (i : Int)) = 8 * (i : Int) := wrap_in (by omega) (by omega)
      have u8w : IntKind.u64.wrap (8 * (i : Int)) = 8 * (i : Int) := by rw [u64N_wrap]; unfold u64N; omega
      have n8 : decide ((8 * (i : Int)) < 0) = false := decide_eq_false (by omega)
      obtain ⟨y, hy⟩ : ∃ y, y = x / 256 ^ i % 256 := ⟨_, rfl⟩
      have hw : IntKind.u8.wrap ((x : Int) / 2 ^ (8 * (i : Int)).toNat) = (y : Int) := by
        rw [show (8 * (i : Int)).toNat = 8 * i by omega, show (x : Int) / 2 ^ (8 * i) = ((x / 2 ^ (8 * i) : Nat) : Int) by simp, IntKind.wrap_u8, hy, show (2 : Nat) ^ (8 * i) = 256 ^ i by rw [Nat.pow_mul]]
        omega
      have hw2 : (x : Int) / 2 ^ (8 * i) % 256 = (y : Int) := by
        rw [show (x : Int) / 2 ^ (8 * i) = ((x / 2 ^ (8 * i) : Nat) : Int) by simp, hy, show (2 : Nat) ^ (8 * i) = 256 ^ i by rw [Nat.pow_mul]]
        omega
      have hy256 : y < 256 := by rw [hy]; exact Nat.mod_lt _ (by decide)
      have HY := Lib.hid hy
      obtain ⟨Lp, hLp⟩ : ∃ l, l = L ++ pre := ⟨_, rfl⟩
      rw [← hLp] at HP
      have HLP := Lib.hid hLp
      have HLEN := Lib.hid (show Lp.length + 1 ≤ 140737488355328 by
        rw [hLp]
        have := congrArg List.length HE.out
        rw [List.length_append, beL_len, beL_len] at this
        rw [List.length_append]; omega)
      have HP1 := Lib.hid (HP.out.step (ext_alloc wr (.cells #[.int .u8 (y : Int)] 5)))
      have N1 := Lib.hid (nums_one .u8 256 5 wr y hy256)
      clear hy hLp
      rw [show (((i + 1 : Nat) : Int) - 1) = (i : Int) by omega]
      go_wp2_with (at_builtin; refine wpList_append_nums_at rfl (.tmp 14) (.tmp 21) 33 5 rfl .u8 256 1 w0.heap.size u8s _ Lp rfl HP1.out.own _ [y] rfl N1.out (by simpa using HLEN.out) (by simpa using HLEN.out) HP1.out.below.size ?_; intro v2 w2 hown hgr hwh)
      have HZ := Lib.hid (HP1.out.grown hown hgr hwh)
      clear hown hgr hwh hw hw2 u8w m8 n8 d1
      go_roundg i
      case measure => omega
      case rel =>
        refine ⟨pre ++ [y], v2, ?_, by omega, rfl, by go_num, ?_⟩
        · rw [List.append_assoc, ← HE.out, HY.out]; rfl
        · rw [← List.append_assoc, ← HLP.out]; exact HZ.out
end Go.Proofs.Ytdmmjmdnljhooaa.MeshH
