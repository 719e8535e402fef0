/- slices.Clone at a mesh's three rows. -/
import Derived.Test.YtdaokkgenfpmhaaBvhX
set_option linter.unusedVariables false
set_option linter.unusedSimpArgs false
namespace Go.Proofs.Ytdaokkgenfpmhaa.BvhC
open Go Go.RowKit Go.Sort Go.Lib FixM Base Num FixW Qb Qt Qa Qf VecW VecV VecU LightQ LightC MeshM Rec MeshA MeshD MeshP HitM HitX BvhM BvhA BvhB
theorem vecs_slice : RecSlice Try.prog 27 23 3 enc3 (.agg #[.int .i64 0, .int .i64 0, .int .i64 0]) 24 := recSlice Try.underlying27 (by kernel_rfl) rfl one3 len3 (by decide)
theorem tris_slice : RecSlice Try.prog 28 68 3 enc3 (.agg #[.int .i64 0, .int .i64 0, .int .i64 0]) 24 := recSlice Try.underlying28 (by kernel_rfl) rfl one3 len3 (by decide)
theorem balls_slice : RecSlice Try.prog 29 71 4 enc4 (.agg #[.int .i64 0, .int .i64 0, .int .i64 0, .int .i64 0]) 32 := recSlice Try.underlying29 (by kernel_rfl) rfl one4 len4 (by decide)
/-- a clone -/
def ClTo {α : Type} (c : Nat) (enc : α → List Value) (w : World) (l : List α) (e : Ending) (w' : World) : Prop := ∃ a n cap, e = .returned (.slice a n cap) ∧ Recs c enc w' (.slice a n cap) l ∧ Below w.heap.size w w'
theorem own_empty {α : Type} (c : Nat) (enc : α → List Value) (w : World) (E : Nat) : RecsOwn c enc E w.heap.size (w.alloc (.cells #[] E)) (.slice (some ⟨w.heap.size, 0, none⟩) 0 0) ([] : List α) :=
  ⟨⟨by simp, .inr ⟨w.heap.size, 0, #[], rfl, Nat.le_refl _, heap_alloc_new _ _, by simp, by simp, by simp, by simp⟩⟩⟩
theorem eqn_vec (w : World) : (binOp .eql 27 (.slice none 0 0) (.slice none 0 0)).run Try.prog w = .ok (.bool true) w := by kernel_rfl
theorem eqs_vec (a : Addr) (n cap : Nat) (w : World) : (binOp .eql 27 (.slice (some a) n cap) (.slice none 0 0)).run Try.prog w = .ok (.bool false) w := by kernel_rfl
set_option maxRecDepth 100000 in
set_option maxHeartbeats 4000000 in
theorem clone_vec (w : World) (v : Value) (l : List V3) (hv : Recs 3 enc3 w v l) (hl : l.length ≤ 1000000) : Calls Try.prog 19 #[v] w (ClTo 3 enc3 w l) := by
  obtain ⟨a, cap, rfl, h1, h2, h3⟩ := hv.shape
  have HV := Lib.hid hv
  cases a with
  | none =>
    obtain ⟨h4, rfl⟩ := h3 rfl
    obtain rfl : l = [] := List.eq_nil_of_length_eq_zero h4
    clear hv h1 h2 h3 h4 hl
    have e0 := eqn_vec w
    go_enter Try.func19, Try.ntmps19
    go_wp2_with fail
    first | go_ret | go_end0
    exact ⟨none, 0, 0, rfl, Recs.nil _, Below.refl _ _⟩
  | some a =>
    have HC := Lib.hid (show (([] : List V3).length + l.length) * 24 ≤ 140737488355328 by simp; omega)
    have HC2 := Lib.hid (show ([] : List V3).length + l.length ≤ 140737488355328 by simp; omega)
    have HU := Lib.hid (hv.below (ext_alloc w (.cells #[] 23)) (Nat.le_refl _))
    have HO := Lib.hid (own_empty 3 enc3 w 23)
    have HB0 := Lib.hid (ext_alloc w (.cells #[] 23))
    have HS := Lib.hid (show w.heap.size ≤ (w.alloc (.cells #[] 23)).heap.size by simp)
    obtain ⟨n, hn⟩ : ∃ n, n = l.length := ⟨_, rfl⟩
    rw [← hn] at HU ⊢
    have HNL := Lib.hid hn
    clear hv h1 h2 h3 hl hn HV
    have e0 := eqs_vec a n cap w
    go_enter Try.func19, Try.ntmps19
    go_wp2_with (at_builtin; refine wpList_append_recs rfl (.tmp 5) (.tmp 6) 27 23 rfl (.agg #[.int .i64 0, .int .i64 0, .int .i64 0]) 24 w.heap.size vecs_slice (.slice (some ⟨w.heap.size, 0, none⟩) 0 0) [] rfl HO.out (.slice (some a) n cap) l rfl HU.out HC.out HC2.out HS.out ?_; intro v9 w9 ho9 hg9 _; have HO9 := Lib.hid ho9; have HB9 := Lib.hid hg9; clear ho9 hg9)
    first | go_ret | go_end0
    obtain ⟨a9, c9, rfl⟩ := HO9.out.slice_
    refine ⟨_, _, _, rfl, HO9.out.recs len3, ?_⟩
    have hk := (Keeps.of_below HB0.out (fun k => w.heap.size ≤ k) (fun k h _ => h)).grown HB9.out (fun k e => .inr (by simp [Value.ownBlock] at e; omega))
    exact hk.ext (fun k h => h)
theorem eqn_tri (w : World) : (binOp .eql 28 (.slice none 0 0) (.slice none 0 0)).run Try.prog w = .ok (.bool true) w := by kernel_rfl
theorem eqs_tri (a : Addr) (n cap : Nat) (w : World) : (binOp .eql 28 (.slice (some a) n cap) (.slice none 0 0)).run Try.prog w = .ok (.bool false) w := by kernel_rfl
set_option maxRecDepth 100000 in
set_option maxHeartbeats 4000000 in
theorem clone_tri (w : World) (v : Value) (l : List V3) (hv : Recs 3 enc3 w v l) (hl : l.length ≤ 1000000) : Calls Try.prog 20 #[v] w (ClTo 3 enc3 w l) := by
  obtain ⟨a, cap, rfl, h1, h2, h3⟩ := hv.shape
  have HV := Lib.hid hv
  cases a with
  | none =>
    obtain ⟨h4, rfl⟩ := h3 rfl
    obtain rfl : l = [] := List.eq_nil_of_length_eq_zero h4
    clear hv h1 h2 h3 h4 hl
    have e0 := eqn_tri w
    go_enter Try.func20, Try.ntmps20
    go_wp2_with fail
    first | go_ret | go_end0
    exact ⟨none, 0, 0, rfl, Recs.nil _, Below.refl _ _⟩
  | some a =>
    have HC := Lib.hid (show (([] : List V3).length + l.length) * 24 ≤ 140737488355328 by simp; omega)
    have HC2 := Lib.hid (show ([] : List V3).length + l.length ≤ 140737488355328 by simp; omega)
    have HU := Lib.hid (hv.below (ext_alloc w (.cells #[] 68)) (Nat.le_refl _))
    have HO := Lib.hid (own_empty 3 enc3 w 68)
    have HB0 := Lib.hid (ext_alloc w (.cells #[] 68))
    have HS := Lib.hid (show w.heap.size ≤ (w.alloc (.cells #[] 68)).heap.size by simp)
    obtain ⟨n, hn⟩ : ∃ n, n = l.length := ⟨_, rfl⟩
    rw [← hn] at HU ⊢
    have HNL := Lib.hid hn
    clear hv h1 h2 h3 hl hn HV
    have e0 := eqs_tri a n cap w
    go_enter Try.func20, Try.ntmps20
    go_wp2_with (at_builtin; refine wpList_append_recs rfl (.tmp 5) (.tmp 6) 28 68 rfl (.agg #[.int .i64 0, .int .i64 0, .int .i64 0]) 24 w.heap.size tris_slice (.slice (some ⟨w.heap.size, 0, none⟩) 0 0) [] rfl HO.out (.slice (some a) n cap) l rfl HU.out HC.out HC2.out HS.out ?_; intro v9 w9 ho9 hg9 _; have HO9 := Lib.hid ho9; have HB9 := Lib.hid hg9; clear ho9 hg9)
    first | go_ret | go_end0
    obtain ⟨a9, c9, rfl⟩ := HO9.out.slice_
    refine ⟨_, _, _, rfl, HO9.out.recs len3, ?_⟩
    have hk := (Keeps.of_below HB0.out (fun k => w.heap.size ≤ k) (fun k h _ => h)).grown HB9.out (fun k e => .inr (by simp [Value.ownBlock] at e; omega))
    exact hk.ext (fun k h => h)
theorem eqn_ball (w : World) : (binOp .eql 29 (.slice none 0 0) (.slice none 0 0)).run Try.prog w = .ok (.bool true) w := by kernel_rfl
theorem eqs_ball (a : Addr) (n cap : Nat) (w : World) : (binOp .eql 29 (.slice (some a) n cap) (.slice none 0 0)).run Try.prog w = .ok (.bool false) w := by kernel_rfl
set_option maxRecDepth 100000 in
set_option maxHeartbeats 4000000 in
theorem clone_ball (w : World) (v : Value) (l : List B4) (hv : Recs 4 enc4 w v l) (hl : l.length ≤ 1000000) : Calls Try.prog 21 #[v] w (ClTo 4 enc4 w l) := by
  obtain ⟨a, cap, rfl, h1, h2, h3⟩ := hv.shape
  have HV := Lib.hid hv
  cases a with
  | none =>
    obtain ⟨h4, rfl⟩ := h3 rfl
    obtain rfl : l = [] := List.eq_nil_of_length_eq_zero h4
    clear hv h1 h2 h3 h4 hl
    have e0 := eqn_ball w
    go_enter Try.func21, Try.ntmps21
    go_wp2_with fail
    first | go_ret | go_end0
    exact ⟨none, 0, 0, rfl, Recs.nil _, Below.refl _ _⟩
  | some a =>
    have HC := Lib.hid (show (([] : List B4).length + l.length) * 32 ≤ 140737488355328 by simp; omega)
    have HC2 := Lib.hid (show ([] : List B4).length + l.length ≤ 140737488355328 by simp; omega)
    have HU := Lib.hid (hv.below (ext_alloc w (.cells #[] 71)) (Nat.le_refl _))
    have HO := Lib.hid (own_empty 4 enc4 w 71)
    have HB0 := Lib.hid (ext_alloc w (.cells #[] 71))
    have HS := Lib.hid (show w.heap.size ≤ (w.alloc (.cells #[] 71)).heap.size by simp)
    obtain ⟨n, hn⟩ : ∃ n, n = l.length := ⟨_, rfl⟩
    rw [← hn] at HU ⊢
    have HNL := Lib.hid hn
    clear hv h1 h2 h3 hl hn HV
    have e0 := eqs_ball a n cap w
    go_enter Try.func21, Try.ntmps21
    go_wp2_with (at_builtin; refine wpList_append_recs rfl (.tmp 5) (.tmp 6) 29 71 rfl (.agg #[.int .i64 0, .int .i64 0, .int .i64 0, .int .i64 0]) 32 w.heap.size balls_slice (.slice (some ⟨w.heap.size, 0, none⟩) 0 0) [] rfl HO.out (.slice (some a) n cap) l rfl HU.out HC.out HC2.out HS.out ?_; intro v9 w9 ho9 hg9 _; have HO9 := Lib.hid ho9; have HB9 := Lib.hid hg9; clear ho9 hg9)
    first | go_ret | go_end0
    obtain ⟨a9, c9, rfl⟩ := HO9.out.slice_
    refine ⟨_, _, _, rfl, HO9.out.recs len4, ?_⟩
    have hk := (Keeps.of_below HB0.out (fun k => w.heap.size ≤ k) (fun k h _ => h)).grown HB9.out (fun k e => .inr (by simp [Value.ownBlock] at e; omega))
    exact hk.ext (fun k h => h)
end Go.Proofs.Ytdaokkgenfpmhaa.BvhC
