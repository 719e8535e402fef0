/- The law DeflateTells. -/
import Derived.Test.YtcchekkedgajpaaDefEh
import Derived.Test.YtcchekkedgajpaaDefDb
set_option linter.unusedVariables false
set_option linter.unusedSimpArgs false
namespace Go.Proofs.Ytcchekkedgajpaa.DefEi
open Go.RowKit Go.Sort BitsM Base Low Bits5 DefM DefN DefO DefP Rec DefS DefBa DefCa DefCb DefDa DefDb DefEa DefEg DefEh NumSl Qb Qt Qa Qf Qr Qs Qz Qv Qk
/-- a writer and the document's, side by side -/
structure Tl (w wr : World) (g g4 : Nat) (s : Dg) (Bw Br : List Nat) (row : Array Value) : Prop where
  ws : Ws w.heap.size wr s Bw
  g : s.gW = g
  r4 : wr.heap[g4]? = some (.cells row 30)
  rv : Rv wr (.agg row) Br
  d1 : ∀ k, own2 (.agg row) k → ¬ s.own k ∧ ¬ k = g4 ∧ w.heap.size ≤ k
  d2 : ¬ s.own g4
  lo : w.heap.size ≤ g4
  below : Below w.heap.size w wr
section
variable {w wr : World} {g g4 : Nat} {s : Dg} {Bw Br : List Nat} {row : Array Value}
theorem Tl.lt (h : Tl w wr g g4 s Bw Br row) : g4 < wr.heap.size := Base.lt_of_heap h.r4
theorem Tl.ext (h : Tl w wr g g4 s Bw Br row) {w' : World} (hb : Below wr.heap.size wr w') : Tl w w' g g4 s Bw Br row where
  ws := h.ws.frame (Keeps.of_ext hb (fun _ => False)) (fun _ _ => id)
  g := h.g
  r4 := (hb.block g4 h.lt).trans h.r4
  rv := h.rv.below hb
  d1 := h.d1
  d2 := h.d2
  lo := h.lo
  below := h.below.trans (hb.mono h.below.size)
theorem Tl.write (h : Tl w wr g g4 s Bw Br row) {w' : World} {s' : Dg} {B' : List Nat} (hw : Ws w.heap.size w' s' B') (he : Evo wr s w' s') : Tl w w' g g4 s' B' Br row where
  ws := hw
  g := he.gW.trans h.g
  r4 := (he.keeps.block g4 h.lt h.d2).trans h.r4
  rv := h.rv.frame he.keeps (fun k hk => (h.d1 k hk).1)
  d1 := fun k hk => ⟨fun h2 => by
    rcases he.fresh k h2 with h3 | h3
    · exact (h.d1 k hk).1 h3
    · have := h.rv.lt k hk; omega, (h.d1 k hk).2⟩
  d2 := fun h2 => by
    rcases he.fresh g4 h2 with h3 | h3
    · exact h.d2 h3
    · have := h.lt; omega
  lo := h.lo
  below := h.below.trans (he.keeps.below _ h.below.size (fun k hk => (h.ws.low k hk).1))
theorem Tl.set (h : Tl w wr g g4 s Bw Br row) {w' : World} (hb : Below wr.heap.size wr w') {row' : Array Value} {Br' : List Nat} (hr : Rv w' (.agg row') Br') (ho : ∀ k, own2 (.agg row') k → own2 (.agg row) k ∨ wr.heap.size ≤ k) : Tl w (w'.setRow g4 row') g g4 s Bw Br' row' := by
  have h1 := h.ext hb
  have hk : Keeps (fun k => k = g4) w' (w'.setRow g4 row') := (Keeps.refl (fun k => k = g4) w').setRow g4 row' (.inl rfl)
  have hd : ∀ k, own2 (.agg row') k → ¬ s.own k ∧ ¬ k = g4 ∧ w.heap.size ≤ k := fun k h2 => by
    rcases ho k h2 with h3 | h3
    · exact h.d1 k h3
    · refine ⟨fun h4 => ?_, by have := h.lt; omega, Nat.le_trans h.below.size h3⟩
      have := (h.ws.low k h4).2; omega
  exact ⟨h1.ws.frame hk (fun k h2 e => h.d2 (e ▸ h2)), h.g, setRow_heap _ _ _ _ _ _ h1.r4, hr.frame hk (fun k h2 => (hd k h2).2.1), hd, h.d2, h.lo, h1.below.trans (hk.below _ h1.below.size (fun k e => by rw [e]; exact h.lo))⟩
theorem Tl.other (h : Tl w wr g g4 s Bw Br row) {w' : World} {D : Nat → Prop} (hk : Keeps D wr w') (h1 : ∀ k, D k → ¬ s.own k ∧ ¬ own2 (.agg row) k ∧ ¬ k = g4 ∧ w.heap.size ≤ k) : Tl w w' g g4 s Bw Br row :=
  ⟨h.ws.frame hk (fun k h2 h3 => (h1 k h3).1 h2), h.g, (hk.block g4 h.lt (fun h3 => (h1 g4 h3).2.2.1 rfl)).trans h.r4, h.rv.frame hk (fun k h2 h3 => (h1 k h3).2.1 h2), h.d1, h.d2, h.lo, h.below.trans (hk.below _ h.below.size (fun k h3 => (h1 k h3).2.2.2))⟩
end
/-- behind the end -/
theorem over_write (g : Nat) (u : Value) (w : World) (h : RowE w g) : Calls Try.prog 9 #[.pointer (some ⟨g, 0, none⟩), u] w fun e w' => e = .returned (.tuple #[.slice none 0 0, .int .i64 23]) ∧ w = w' := by
  obtain ⟨cs, hg, ht⟩ := h
  have h0 : cs[0]? = some (.bool true) := by
    have := congrArg (fun l => l[0]?) ht
    simpa using this
  have h1 : cs[1]? = some (.bool true) := by
    have := congrArg (fun l => l[1]?) ht
    simpa using this
  have c0 := (cell_of_row _ _ 0 _ _ _ hg).trans h0
  have c1 := (cell_of_row _ _ 1 _ _ _ hg).trans h1
  clear ht h0 h1 hg
  go_enter Try.func9, Try.ntmps9
  go_wp2
  go_ret2
  exact ⟨rfl, rfl⟩
theorem over_end (g : Nat) (w : World) (h : RowE w g) : Calls Try.prog 12 #[.pointer (some ⟨g, 0, none⟩)] w fun e w' => e = .returned (.tuple #[.slice none 0 0, .int .i64 23]) ∧ w = w' := by
  obtain ⟨cs, hg, ht⟩ := h
  have h0 : cs[0]? = some (.bool true) := by
    have := congrArg (fun l => l[0]?) ht
    simpa using this
  have h1 : cs[1]? = some (.bool true) := by
    have := congrArg (fun l => l[1]?) ht
    simpa using this
  have c0 := (cell_of_row _ _ 0 _ _ _ hg).trans h0
  have c1 := (cell_of_row _ _ 1 _ _ _ hg).trans h1
  clear ht h0 h1 hg
  go_enter Try.func12, Try.ntmps12
  go_wp2
  go_ret2
  exact ⟨rfl, rfl⟩
theorem rowE_ext {w w' : World} {g : Nat} (h : RowE w g) (hb : Below w.heap.size w w') : RowE w' g := by
  obtain ⟨cs, hg, ht⟩ := h
  exact ⟨cs, (hb.block g (Base.lt_of_heap hg)).trans hg, ht⟩
/-! the region that asks the document's writer -/
def pV (n : Nat) (row : Array Value) (BB : List Nat) (w : World) (v : Value) : Prop := Rv w v BB ∧ ∀ k, own2 v k → own2 (.agg row) k ∨ n ≤ k
def pY (n : Nat) (Y : List Nat) (w : World) (v : Value) : Prop := Own .u8 256 5 n w v Y
def p3 (n : Nat) (row : Array Value) (BB Y : List Nat) (w : World) (v : Value) : Prop := ∃ v' y, v = .tuple #[v', y, .int .i64 0] ∧ pV n row BB w v' ∧ pY n Y w y
theorem pV_mono {n : Nat} {row : Array Value} {BB : List Nat} {v : Value} {w1 w2 : World} (h : pV n row BB w1 v) (hb : Below w1.heap.size w1 w2) : pV n row BB w2 v := ⟨h.1.below hb, h.2⟩
theorem pY_mono {n : Nat} {Y : List Nat} {v : Value} {w1 w2 : World} (h : pY n Y w1 v) (hb : Below w1.heap.size w1 w2) : pY n Y w2 v := Own.below h hb (Nat.le_refl _)
theorem setRow_keeps (w : World) (g : Nat) (row : Array Value) : Keeps (fun k => k = g) w (w.setRow g row) := (Keeps.refl (fun k => k = g) w).setRow g row (.inl rfl)
theorem ty_ne {E T : TypeId} {w : World} {b g : Nat} {cur : Array Value} (h : TyB E w b) (hg : w.heap[g]? = some (.cells cur T)) (hne : E ≠ T) : ¬ b = g := by
  rintro rfl
  obtain ⟨cs, fr, h1⟩ := h
  rw [h1] at hg
  simp only [Option.some.injEq, Obj.cells.injEq] at hg
  exact hne hg.2.1
theorem rv_ty {w : World} {v : Value} {B : List Nat} (h : Rv w v B) : ∀ k, own2 v k → TyB 5 w k ∨ TyB 4 w k := by
  obtain ⟨va, vl, rfl, h1, h2, h3⟩ := h
  intro k hk
  rcases own2_of hk with h | h
  · exact .inl (h3 k h)
  · exact .inr (h2.ty k h)
theorem pV_stab {n : Nat} {row : Array Value} {BB : List Nat} {v : Value} {w : World} {g : Nat} {cur r2 : Array Value} (h : pV n row BB w v) (hg : w.heap[g]? = some (.cells cur 30)) : pV n row BB (w.setRow g r2) v :=
  ⟨h.1.frame (setRow_keeps w g r2) (fun k hk => by
    rcases rv_ty h.1 k hk with h2 | h2
    · exact ty_ne h2 hg (by decide)
    · exact ty_ne h2 hg (by decide)), h.2⟩
theorem pY_stab {n : Nat} {Y : List Nat} {v : Value} {w : World} {g : Nat} {cur r2 : Array Value} (h : pY n Y w v) (hg : w.heap[g]? = some (.cells cur 30)) : pY n Y (w.setRow g r2) v :=
  Own.frame h (setRow_keeps w g r2) (fun k hk => ty_ne (ty_num h k hk) hg (by decide))
def kT (n : Nat) (row : Array Value) (BB Y : List Nat) (q0 q1 q2 q3 q4 : Value) : List K3 := [.val q0, .val q1, .val q2, .val q3, .val q4, .pr (p3 n row BB Y), .pr (p3 n row BB Y), .pr (pV n row BB), .pr (pY n Y), .val (.int .i64 0), .pr (alK 30 5 n), .val undef, .pr (pY n Y), .val (.int .i64 0)]
theorem kT_mono (n : Nat) (row : Array Value) (BB Y : List Nat) (q0 q1 q2 q3 q4 : Value) : All3 K3.mono (kT n row BB Y q0 q1 q2 q3 q4) :=
  ⟨trivial, trivial, trivial, trivial, trivial, fun v w1 w2 ⟨v', y, e, h1, h2⟩ hb => ⟨v', y, e, pV_mono h1 hb, pY_mono h2 hb⟩, fun v w1 w2 ⟨v', y, e, h1, h2⟩ hb => ⟨v', y, e, pV_mono h1 hb, pY_mono h2 hb⟩, fun v w1 w2 h hb => pV_mono h hb, fun v w1 w2 h hb => pY_mono h hb, trivial, alK_mono _ _ _, trivial, fun v w1 w2 h hb => pY_mono h hb, trivial, trivial⟩
theorem kT_stab (n B : Nat) (row : Array Value) (BB Y : List Nat) (q0 q1 q2 q3 q4 : Value) : All3 (K3.stab 30 B 5) (kT n row BB Y q0 q1 q2 q3 q4) :=
  ⟨trivial, trivial, trivial, trivial, trivial, fun v w g cur r2 ⟨v', y, e, h1, h2⟩ _ hg _ _ => ⟨v', y, e, pV_stab h1 hg, pY_stab h2 hg⟩, fun v w g cur r2 ⟨v', y, e, h1, h2⟩ _ hg _ _ => ⟨v', y, e, pV_stab h1 hg, pY_stab h2 hg⟩, fun v w g cur r2 h _ hg _ _ => pV_stab h hg, fun v w g cur r2 h _ hg _ _ => pY_stab h hg, trivial, alK_stab _ _ _ _, trivial, fun v w g cur r2 h _ hg _ _ => pY_stab h hg, trivial, trivial⟩
theorem kT_row (n : Nat) (row : Array Value) (BB : List Nat) (w : World) (v : Value) (h : pV n row BB w v) : ∃ r, v = .agg r ∧ r.size = 5 ∧ r.all (·.oneCell') = true := by
  obtain ⟨a1, n1, c1, a2, n2, c2, rfl⟩ := h.1.shape
  exact ⟨_, rfl, rfl, by simp [Value.oneCell']⟩
theorem alloc_w6 (w : World) : (Instr.alloc 30 true (.tuple #[])).run Try.prog w = .ok (.pointer (some ⟨w.heap.size, 0, none⟩)) (w.alloc (.cells #[.slice none 0 0, .int .i64 0, .slice none 0 0, .int .i64 0, .bool false] 30)) := by kernel_rfl
theorem list_cell {w : World} {b o n cap : Nat} {l : List (Value × List Nat)} (h : Recs 1 (fun e => [e.1]) w (.slice (some ⟨b, o, none⟩) n cap) l) (i : Nat) (hi : i < l.length) : w.cell? ⟨b, o + i, none⟩ = some l[i].1 := by
  obtain ⟨b', o', c', e, -, h2⟩ := h.cells (by intro e; rw [e] at hi; simp at hi)
  simp only [Value.slice.injEq, Option.some.injEq, Addr.mk.injEq, and_true] at e
  obtain ⟨⟨rfl, rfl⟩, -, -⟩ := e
  have := h2 i hi 0 _ rfl
  simpa using this
set_option maxRecDepth 100000 in
set_option maxHeartbeats 4000000 in
theorem tells_any (v : Value) (l : List (Value × List Nat)) (w : World) (hl : Recs 1 (fun e => [e.1]) w v l) (hn : ∀ e ∈ l, Nums .u8 256 w e.1 e.2) :
    Calls Try.prog 3 #[v] w fun e w' => e = .returned (.bool true) ∧ Below w.heap.size w w' := by
  obtain ⟨a0, c0, rfl, hm1, -⟩ := hl.open_
  obtain ⟨m, hm⟩ : ∃ m, m = l.length := ⟨_, rfl⟩
  rw [← hm] at hl hm1 ⊢
  have HL := Lib.hid hl
  have HNE := Lib.hid hn
  have HM := Lib.hid hm
  clear hl hn hm
  go_enter Try.func3, Try.ntmps3
  go_wp2_with fail
  refine (new_any w.heap.size w (Nat.le_refl _)).mono ?_
  rintro e w1 ⟨s, rfl, hs, hb1, hown⟩
  obtain ⟨g, hg⟩ : ∃ g, g = s.gW := ⟨_, rfl⟩
  have hr4 := heap_alloc_new w1 (.cells #[.slice none 0 0, .int .i64 0, .slice none 0 0, .int .i64 0, .bool false] 30)
  have hba := ext_alloc w1 (.cells #[.slice none 0 0, .int .i64 0, .slice none 0 0, .int .i64 0, .bool false] 30)
  have HS := Lib.hid hs
  have HB1 := Lib.hid hb1
  have HOW := Lib.hid hown
  have HGG := Lib.hid hg
  rw [← hg]
  clear hs hb1 hown hg
  go_upto_region 4 with (fail)
  obtain ⟨w2, hw2⟩ : ∃ ww, ww = w1.alloc (.cells #[.slice none 0 0, .int .i64 0, .slice none 0 0, .int .i64 0, .bool false] 30) := ⟨_, rfl⟩
  obtain ⟨g4, hg4⟩ : ∃ x, x = w1.heap.size := ⟨_, rfl⟩
  rw [← hw2] at hr4 hba ⊢
  have ht : Tl w w2 g g4 s [] [] #[.slice none 0 0, .int .i64 0, .slice none 0 0, .int .i64 0, .bool false] := by
    refine ⟨HS.out.frame (Keeps.of_ext hba (fun _ => False)) (fun _ _ => id), HGG.out.symm, by rw [hg4]; exact hr4, Rv.nil w2, fun k hk => ?_, fun h => ?_, by rw [hg4]; exact HB1.out.size, HB1.out.trans (hba.mono HB1.out.size)⟩
    · rcases own2_of hk with h | h <;> cases h
    · have := (HS.out.low g4 h).2; omega
  have HT := Lib.hid ht
  rw [← hg4]
  clear hw2 hg4 hr4 hba ht HS HB1 HOW HGG
  go_wp2_with fail
  go_loopw [5, 6] (fun v5 v6 wr => ∃ (i n : Nat) (s1 : Dg) (B : List Nat) (row : Array Value), i ≤ m ∧ i ≤ 12 ∧ v5 = .int .i64 (n : Int) ∧ v6 = .int .i64 (i : Int) ∧ n = B.length ∧ n ≤ 600 ∧ Tl w wr g g4 s1 B B row) (fun _ v6 _ => 12 - (intOf v6).toNat)
  case atStart => exact ⟨0, 0, s, [], _, Nat.zero_le _, Nat.zero_le _, rfl, rfl, rfl, Nat.zero_le _, HT.out⟩
  case round =>
    obtain ⟨i, n, s1, B, row, him, hi12, rfl, rfl, hnB, hn6, htl⟩ := hrel
    have HTL := Lib.hid htl
    have HNB := Lib.hid hnB
    clear htl hnB HT
    -- what is read of the element, if there is one
    have helt : i < m → ∃ (bl ol : Nat) (av : Option Addr) (nv cv : Nat) (b : List Nat), a0 = some ⟨bl, ol, none⟩ ∧ (∀ w', Below w.heap.size w w' → w'.cell? ⟨bl, ol + i, none⟩ = some (.slice av nv cv)) ∧ Nums .u8 256 w (.slice av nv cv) b ∧ nv = b.length := by
      intro hi
      have hil : i < l.length := by rw [← HM.out]; exact hi
      obtain ⟨bl, ol, cl, e, hbl, -⟩ := HL.out.cells (by intro e; rw [e] at hil; simp at hil)
      simp only [Value.slice.injEq] at e
      obtain ⟨e1, -, e3⟩ := e
      have hnx := HNE.out _ (List.getElem_mem hil)
      obtain ⟨av, cv, ev, -, -, -⟩ := hnx.shape
      refine ⟨bl, ol, av, _, cv, l[i].2, e1, fun w' hb => ?_, by rw [← ev]; exact hnx, rfl⟩
      have hl2 : Recs 1 (fun e => [e.1]) w (.slice (some ⟨bl, ol, none⟩) m c0) l := by rw [← e1]; exact HL.out
      have hc := list_cell hl2 i hil
      rw [ev] at hc
      exact (hb.cell (p := ⟨bl, ol + i, none⟩) hbl).trans hc
    by_cases hgo : i < m ∧ i < 12
    rotate_left
    · have hways : (¬ i < m ∧ decide (i < m) = false) ∨ (i = 12 ∧ 12 < m ∧ decide ((12 : Int) < (m : Int)) = true) := by
        by_cases h : i < m
        · exact .inr ⟨by omega, by omega, decide_eq_true (by omega)⟩
        · exact .inl ⟨h, decide_eq_false h⟩
      clear helt hgo
      rcases hways with ⟨p1, d1⟩ | ⟨rfl, p1, d1⟩
      all_goals
        have hen := DefCb.end_any w.heap.size wr s1 B 0 HTL.out.ws (by rw [← HNB.out]; omega) (fun w4 N h4 => prune_ds h4 (Nat.zero_le _) (by have := HNB.out; unfold nb; omega) (by have := HNB.out; unfold nb; omega))
        rw [HTL.out.g] at hen
        have HEN := Lib.hid hen
        clear hen
        go_wp2_with fail
        refine HEN.out.mono ?_
        rintro e w3 ⟨x, rfl, hx, hE, hk3, hxb⟩
        have HX := Lib.hid hx
        have HE := Lib.hid hE
        have hrv := HTL.out.rv.frame hk3 (fun k hk => (HTL.out.d1 k hk).1)
        obtain ⟨a1, m1, q1, a2, m2, q2, erow⟩ := hrv.shape
        simp only [Value.agg.injEq] at erow
        obtain ⟨r1, hr1⟩ : ∃ r, r = (4096 * nb B.length) := ⟨_, rfl⟩
        obtain ⟨r3, hr3⟩ : ∃ r, r = (bitsW B).length / 8 := ⟨_, rfl⟩
        rw [← hr1, ← hr3] at erow
        subst erow
        have HR3 := Lib.hid hr3
        have HR := Lib.hid ((hk3.block g4 HTL.out.lt HTL.out.d2).trans HTL.out.r4)
        have HB3 := Lib.hid (HTL.out.below.trans (hk3.below _ HTL.out.below.size (fun k hk => (HTL.out.ws.low k hk).1)))
        have HRE := Lib.hid (DefEh.end_any _ B w3 hrv (by rw [← HNB.out]; omega))
        clear hx hE hk3 hxb hrv hr1 hr3 HEN
        go_wp2_with (with_reducible refine load_w6 rfl (.tmp 4) rfl g4 rfl _ HR.out rfl ?_)
        refine HRE.out.mono ?_
        rintro e w4 ⟨v4, y, rfl, ⟨a4, n4, c4, t4, a5, n5, c5, k4, rfl⟩, hoy, hb4⟩
        have ha4 := ext_alloc w4 (.cells #[.slice a4 n4 c4, .int .i64 t4, .slice a5 n5 c5, .int .i64 k4, .bool true] 30)
        have HX4 := Lib.hid ((HX.out.below hb4 (Nat.le_refl _)).below ha4 (Nat.le_refl _))
        have HE4 := Lib.hid (rowE_ext (rowE_ext HE.out hb4) ha4)
        have HY4 := Lib.hid (hoy.nums.below ha4 (Nat.le_refl _))
        have hbb := HB3.out.trans (hb4.mono HB3.out.size)
        have HB4 := Lib.hid (hbb.trans (ha4.mono hbb.size))
        clear hoy hb4 ha4 HRE HX HE hbb
        go_wp2_with fail
        refine (over_end g _ HE4.out).mono ?_
        rintro e w5 ⟨rfl, rfl⟩
        go_wp2_with fail
        refine (over_write g _ _ HE4.out).mono ?_
        rintro e w5 ⟨rfl, rfl⟩
        go_wp2_with fail
        refine (sameBytes_any _ _ _ _ _ HX4.out HY4.out).mono ?_
        rintro e w5 ⟨rfl, rfl⟩
        go_wp2_with fail
        refine (awake_any _).mono ?_
        rintro e w6 ⟨rfl, hb6⟩
        go_wp2_with fail
        go_ret
        exact ⟨rfl, HB4.out.trans (hb6.mono HB4.out.size)⟩
    · obtain ⟨hi1, hi2⟩ := hgo
      obtain ⟨bl, ol, av, nv, cv, b, rfl, hcell, hnums, hnv⟩ := helt hi1
      have HCE := Lib.hid hcell
      have HNU := Lib.hid hnums
      have HNV := Lib.hid hnv
      have hcw := hcell wr HTL.out.below
      have d1 : decide (i < m) = true := decide_eq_true hi1
      have d2 : decide ((i : Int) < 12) = true := decide_eq_true (by omega)
      have hnv9 := (nums_len hnums).2
      obtain ⟨n1, hn1⟩ : ∃ x, x = n + nv := ⟨_, rfl⟩
      have hn1b : nv ≤ n1 := by omega
      clear helt hcell hnums hnv
      by_cases hbreak : 600 < nv ∨ 600 < n1
      · have hw2 : ∃ z : Int, IntKind.i64.wrap ((n : Int) + (nv : Int)) = z ∧ ((600 < nv ∧ decide ((600 : Int) < (nv : Int)) = true) ∨ (¬ 600 < nv ∧ decide ((600 : Int) < (nv : Int)) = false ∧ decide ((600 : Int) < z) = true)) := by
          by_cases h : 600 < nv
          · exact ⟨_, rfl, .inl ⟨h, decide_eq_true (by omega)⟩⟩
          · exact ⟨(n1 : Int), by rw [IntKind.wrap_i64]; omega, .inr ⟨h, decide_eq_false (by omega), decide_eq_true (by omega)⟩⟩
        obtain ⟨z, e1, hw2⟩ := hw2
        clear hbreak hn1 hn1b
        rcases hw2 with ⟨p3, d3⟩ | ⟨p3, d3, d4⟩
        all_goals
          have hen := DefCb.end_any w.heap.size wr s1 B 0 HTL.out.ws (by rw [← HNB.out]; omega) (fun w4 N h4 => prune_ds h4 (Nat.zero_le _) (by have := HNB.out; unfold nb; omega) (by have := HNB.out; unfold nb; omega))
          rw [HTL.out.g] at hen
          have HEN := Lib.hid hen
          clear hen
          go_wp2_with fail
          refine HEN.out.mono ?_
          rintro e w3 ⟨x, rfl, hx, hE, hk3, hxb⟩
          have HX := Lib.hid hx
          have HE := Lib.hid hE
          have hrv := HTL.out.rv.frame hk3 (fun k hk => (HTL.out.d1 k hk).1)
          obtain ⟨a1, m1, q1, a2, m2, q2, erow⟩ := hrv.shape
          simp only [Value.agg.injEq] at erow
          obtain ⟨r1, hr1⟩ : ∃ r, r = (4096 * nb B.length) := ⟨_, rfl⟩
          obtain ⟨r3, hr3⟩ : ∃ r, r = (bitsW B).length / 8 := ⟨_, rfl⟩
          rw [← hr1, ← hr3] at erow
          subst erow
          have HR3 := Lib.hid hr3
          have HR := Lib.hid ((hk3.block g4 HTL.out.lt HTL.out.d2).trans HTL.out.r4)
          have HB3 := Lib.hid (HTL.out.below.trans (hk3.below _ HTL.out.below.size (fun k hk => (HTL.out.ws.low k hk).1)))
          have HRE := Lib.hid (DefEh.end_any _ B w3 hrv (by rw [← HNB.out]; omega))
          clear hx hE hk3 hxb hrv hr1 hr3 HEN
          go_wp2_with (with_reducible refine load_w6 rfl (.tmp 4) rfl g4 rfl _ HR.out rfl ?_)
          refine HRE.out.mono ?_
          rintro e w4 ⟨v4, y, rfl, ⟨a4, n4, c4, t4, a5, n5, c5, k4, rfl⟩, hoy, hb4⟩
          have ha4 := ext_alloc w4 (.cells #[.slice a4 n4 c4, .int .i64 t4, .slice a5 n5 c5, .int .i64 k4, .bool true] 30)
          have HX4 := Lib.hid ((HX.out.below hb4 (Nat.le_refl _)).below ha4 (Nat.le_refl _))
          have HE4 := Lib.hid (rowE_ext (rowE_ext HE.out hb4) ha4)
          have HY4 := Lib.hid (hoy.nums.below ha4 (Nat.le_refl _))
          have hbb := HB3.out.trans (hb4.mono HB3.out.size)
          have HB4 := Lib.hid (hbb.trans (ha4.mono hbb.size))
          clear hoy hb4 ha4 HRE HX HE hbb
          go_wp2_with fail
          refine (over_end g _ HE4.out).mono ?_
          rintro e w5 ⟨rfl, rfl⟩
          go_wp2_with fail
          refine (over_write g _ _ HE4.out).mono ?_
          rintro e w5 ⟨rfl, rfl⟩
          go_wp2_with fail
          refine (sameBytes_any _ _ _ _ _ HX4.out HY4.out).mono ?_
          rintro e w5 ⟨rfl, rfl⟩
          go_wp2_with fail
          refine (awake_any _).mono ?_
          rintro e w6 ⟨rfl, hb6⟩
          go_wp2_with fail
          go_ret
          exact ⟨rfl, HB4.out.trans (hb6.mono HB4.out.size)⟩
      · have e1 : IntKind.i64.wrap ((n : Int) + (nv : Int)) = (n1 : Int) := by rw [IntKind.wrap_i64]; omega
        have d3 : decide ((600 : Int) < (nv : Int)) = false := decide_eq_false (by omega)
        have d4 : decide ((600 : Int) < (n1 : Int)) = false := decide_eq_false (by omega)
        have hnv6 : nv ≤ 600 := by omega
        have hn16 : n1 ≤ 600 := by omega
        have HN1 := Lib.hid hn1
        clear hbreak hn1 hn1b
        go_wp2_with fail
        refine (copyBytes_any _ b wr (HNU.out.below HTL.out.below (Nat.le_refl _)) (by rw [← HNV.out]; omega)).mono ?_
        rintro e w3 ⟨vi, rfl, hoi, hb3⟩
        obtain ⟨ai, ni, ci, rfl⟩ := hoi.slice_
        have hni := (nums_len hoi.nums).1
        rw [← HNV.out] at hni
        subst hni
        have HOI := Lib.hid hoi
        have HT3 := Lib.hid (HTL.out.ext hb3)
        have hs3 := hb3.size
        have HOO := Lib.hid (show ∀ k, (Value.slice ai ni ci).ownBlock = some k → ¬ s1.own k ∧ ¬ own2 (.agg row) k ∧ ¬ k = g4 ∧ w.heap.size ≤ k from fun k hk => by
          have h1 := (hoi.lt k hk).1
          refine ⟨fun h => ?_, fun h => ?_, ?_, Nat.le_trans HTL.out.below.size h1⟩
          · have := (HTL.out.ws.low k h).2; omega
          · have := HTL.out.rv.lt k h; omega
          · have := HTL.out.lt; omega)
        have hwr := DefCb.write_any w.heap.size w3 s1 B b HT3.out.ws _ hoi.nums (by rw [List.length_append, ← HNB.out, ← HNV.out]; omega)
        rw [HT3.out.g] at hwr
        have HW := Lib.hid hwr
        clear hoi hb3 hwr hcw
        go_wp2_with fail
        refine HW.out.mono ?_
        rintro e w4 ⟨x, s2, rfl, ⟨hx, ax, nx, rfl⟩, hs4, he4, hf4⟩
        have HX := Lib.hid hx
        have HT4 := Lib.hid (HT3.out.write hs4 he4)
        have HOI4 := Lib.hid (HOI.out.frame he4.keeps (fun k hk h => (HOO.out k hk).1 h))
        have HXF := Lib.hid (show ∀ k, (Value.slice ax nx nx).ownBlock = some k → ¬ k = g4 from fun k hk e => by
          rcases (hf4 k hk).2 with h | h
          · exact HT3.out.d2 (e ▸ h)
          · have := HT3.out.lt; omega)
        have HOO4 := Lib.hid (show ∀ k, (Value.slice ai ni ci).ownBlock = some k → ¬ s2.own k from fun k hk h => by
          rcases he4.fresh k h with h2 | h2
          · exact (HOO.out k hk).1 h2
          · have := (HOI.out.lt k hk).2; omega)
        clear hx hs4 he4 hf4 HW
        obtain ⟨a1, m1, q1, a2, m2, q2, erow⟩ := HT4.out.rv.shape
        simp only [Value.agg.injEq] at erow
        obtain ⟨r1, hr1⟩ : ∃ r, r = (4096 * nb B.length) := ⟨_, rfl⟩
        obtain ⟨r3, hr3⟩ : ∃ r, r = (bitsW B).length / 8 := ⟨_, rfl⟩
        rw [← hr1, ← hr3] at erow
        subst erow
        have HR3 := Lib.hid hr3
        clear hr1 hr3
        have HR := Lib.hid HT4.out.r4
        obtain ⟨BB, hBB⟩ : ∃ BB, BB = B ++ b := ⟨_, rfl⟩
        have hrw := DefEh.write_any (.agg #[.slice a1 m1 q1, .int .i64 (r1 : Int), .slice a2 m2 q2, .int .i64 (r3 : Int), .bool false]) B (.slice av ni cv) b
        have HRW := Lib.hid hrw
        have HBB := Lib.hid hBB
        clear hrw hBB
        obtain ⟨Y, hY⟩ : ∃ Y, Y = outN (bitsW (B ++ b)) ((bitsW B).length / 8) := ⟨_, rfl⟩
        have HY := Lib.hid hY
        rw [← hY] at HX
        have hb6 : (B ++ b).length ≤ 20000 := by rw [List.length_append, ← HNB.out, ← HNV.out]; omega
        clear hY
        go_upto_region 11 with (fail)
        refine wp_region_k3 (n := 5) 140 (kT w4.heap.size #[.slice a1 m1 q1, .int .i64 (r1 : Int), .slice a2 m2 q2, .int .i64 (r3 : Int), .bool false] (B ++ b) Y (.agg #[.slice a1 m1 q1, .int .i64 (r1 : Int), .slice a2 m2 q2, .int .i64 (r3 : Int), .bool false]) (.slice (some ⟨bl, ol, none⟩) m c0) (.int .i64 (i : Int)) (.pointer (some ⟨bl, ol + i, none⟩)) (.slice av ni cv)) ⟨11, 10, 10, 69, 7, 30, #[]⟩ (by kernel_rfl) rfl (by kernel_rfl) (kT_mono _ _ _ _ _ _ _ _ _) (kT_stab _ _ _ _ _ _ _ _ _ _) (fun _ _ h => h) (kT_row _ _ _) ?hsj ?hst ?_
        case hsj =>
          intro o ho
          simp only [List.getElem?_toArray, List.getElem?_cons_succ, List.getElem?_cons_zero, Option.some.injEq] at ho
          subst ho
          exact ⟨⟨30, rfl, by kernel_rfl⟩, rfl⟩
        case hst =>
          intro A hA F
          have HA_ := Lib.hid hA
          have HA2 := hA
          simp only [putsL, Act.put, List.setIfInBounds_toArray, List.set_cons_succ, List.set_cons_zero, Nat.reduceAdd, outs3, kT, List.getD_cons_succ, List.getD_cons_zero, K3.out] at HA2
          have HA3 := Lib.hid HA2
          clear hA HA2
          refine ⟨.inr ?s0, .inr ?s1, .inr ?s2, .inr ?s3, .inr ?s4, .inr ?s5, .inr ?s6, .inr ?s7, .inr ?s8, .inr ?s9, .inr ?s10, .inl rfl, .inr ?s12, .inr ?s13, trivial⟩
          case s0 =>
            refine st_valA HA_.out F rfl (d := 63) (v := (.agg #[.slice a1 m1 q1, .int .i64 (r1 : Int), .slice a2 m2 q2, .int .i64 (r3 : Int), .bool false])) rfl (by decide) (fun _ _ h => nomatch h) (look3 (by kernel_rfl)) (fun _ => rfl) ?_
            intro W1 hW1
            rw [← HA3.out]
            have z0 : ∀ d os, (grow (redrawn W1 d) os).cell? ⟨g4, 0, none⟩ = some (.slice a1 m1 q1) := fun d os => cell_regrown (cell_of_row _ _ 0 _ _ _ ((hW1.block g4 (Base.lt_of_heap HR.out)).trans HR.out)) d os
            have z1 : ∀ d os, (grow (redrawn W1 d) os).cell? ⟨g4, 1, none⟩ = some (.int .i64 (r1 : Int)) := fun d os => cell_regrown (cell_of_row _ _ 1 _ _ _ ((hW1.block g4 (Base.lt_of_heap HR.out)).trans HR.out)) d os
            have z2 : ∀ d os, (grow (redrawn W1 d) os).cell? ⟨g4, 2, none⟩ = some (.slice a2 m2 q2) := fun d os => cell_regrown (cell_of_row _ _ 2 _ _ _ ((hW1.block g4 (Base.lt_of_heap HR.out)).trans HR.out)) d os
            have z3 : ∀ d os, (grow (redrawn W1 d) os).cell? ⟨g4, 3, none⟩ = some (.int .i64 (r3 : Int)) := fun d os => cell_regrown (cell_of_row _ _ 3 _ _ _ ((hW1.block g4 (Base.lt_of_heap HR.out)).trans HR.out)) d os
            have z4 : ∀ d os, (grow (redrawn W1 d) os).cell? ⟨g4, 4, none⟩ = some (.bool false) := fun d os => cell_regrown (cell_of_row _ _ 4 _ _ _ ((hW1.block g4 (Base.lt_of_heap HR.out)).trans HR.out)) d os
            go_big_quiet_op
            exact rfl
          case s1 =>
            refine st_valA HA_.out F rfl (d := 64) (v := (.slice (some ⟨bl, ol, none⟩) m c0)) rfl (by decide) (fun _ _ h => nomatch h) (look3 (by kernel_rfl)) (fun _ => rfl) ?_
            intro W1 hW1
            rw [← HA3.out]
            go_big_quiet_op
            exact rfl
          case s2 =>
            refine st_valA HA_.out F rfl (d := 65) (v := (.int .i64 (i : Int))) rfl (by decide) (fun _ _ h => nomatch h) (look3 (by kernel_rfl)) (fun _ => rfl) ?_
            intro W1 hW1
            rw [← HA3.out]
            go_big_quiet_op
            exact rfl
          case s3 =>
            refine st_valA HA_.out F rfl (d := 66) (v := (.pointer (some ⟨bl, ol + i, none⟩))) rfl (by decide) (fun _ _ h => nomatch h) (look3 (by kernel_rfl)) (fun _ => rfl) ?_
            intro W1 hW1
            rw [← HA3.out]
            have hi3 := hi1
            go_big_quiet_op
            exact rfl
          case s4 =>
            refine st_valA HA_.out F rfl (d := 67) (v := (.slice av ni cv)) rfl (by decide) (fun _ _ h => nomatch h) (look3 (by kernel_rfl)) (fun _ => rfl) ?_
            intro W1 hW1
            rw [← HA3.out]
            have z0 : ∀ d os, (grow (redrawn W1 d) os).cell? ⟨bl, ol + i, none⟩ = some (.slice av ni cv) := fun d os => cell_regrown (HCE.out W1 (HT4.out.below.trans (hW1.mono HT4.out.below.size))) d os
            go_big_quiet_op
            exact rfl
          case s5 =>
            intro b9 w9 hb hd hk
            have e0 : b9.eval (.tmp 63) = (.agg #[.slice a1 m1 q1, .int .i64 (r1 : Int), .slice a2 m2 q2, .int .i64 (r3 : Int), .bool false]) := hd 63 (by decide) 0 rfl
            have e1 : b9.eval (.tmp 67) = (.slice av ni cv) := hd 67 (by decide) 4 rfl
            have hbb := HT4.out.below.trans (hb.mono HT4.out.below.size)
            rw [call_run (f := 10) (fn := Try.f10) rfl rfl Try.func10 rfl rfl w9]
            simp only [List.map_toArray, List.map_nil, List.map_cons, e0, e1]
            show Calls Try.prog 10 #[.agg #[.slice a1 m1 q1, .int .i64 (r1 : Int), .slice a2 m2 q2, .int .i64 (r3 : Int), .bool false], .slice av ni cv] w9 _
            refine (HRW.out w9 (HT4.out.rv.below hb) (HNU.out.below hbb (Nat.le_refl _)) hb6).mono ?_
            rintro e w8 ⟨v8, y8, rfl, ⟨q1, q2⟩, q3, q4⟩
            exact ⟨_, rfl, ⟨v8, y8, rfl, ⟨q1, fun k hk => (q2 k hk).imp id (fun h => Nat.le_trans hb.size h)⟩, by rw [HY.out]; exact Own.mono q3 hb.size⟩, q4⟩
          case s6 =>
            intro b9 w9 hb hd hk
            obtain ⟨v8, y8, e, h1, h2⟩ := hd 68 (by decide) 5 rfl
            rw [move_run rfl w9]
            exact ⟨⟨v8, y8, e, h1, h2⟩, Below.refl _ _⟩
          case s7 =>
            intro b9 w9 hb hd hk
            obtain ⟨v8, y8, e, h1, h2⟩ := hd 62 (by decide) 6 rfl
            rw [extract_run rfl e rfl w9]
            exact ⟨h1, Below.refl _ _⟩
          case s8 =>
            intro b9 w9 hb hd hk
            obtain ⟨v8, y8, e, h1, h2⟩ := hd 62 (by decide) 6 rfl
            rw [extract_run rfl e rfl w9]
            exact ⟨h2, Below.refl _ _⟩
          case s9 =>
            intro b9 w9 hb hd hk
            obtain ⟨v8, y8, e, h1, h2⟩ := hd 62 (by decide) 6 rfl
            rw [extract_run rfl e rfl w9]
            exact ⟨rfl, Below.refl _ _⟩
          case s10 =>
            intro b9 w9 hb hd hk
            rw [alloc_run rfl (alloc_w6 w9)]
            exact ⟨⟨w9.heap.size, _, rfl, hb.size, heap_alloc_new _ _, rfl⟩, ext_alloc _ _⟩
          case s12 =>
            intro b9 w9 hb hd hk
            have e0 : pY w4.heap.size Y w9 (b9.eval (.tmp 70)) := hd 70 (by decide) 8 rfl
            rw [Qk.assign_run rfl w9]
            exact ⟨e0, Below.refl _ _⟩
          case s13 =>
            intro b9 w9 hb hd hk
            have e0 : b9.eval (.tmp 71) = .int .i64 0 := hd 71 (by decide) 9 rfl
            rw [Qk.assign_run rfl w9]
            exact ⟨e0, Below.refl _ _⟩
        intro V w5 hb hV hs
        obtain ⟨g10, rw9, hg1, hg2, hg3⟩ := hs (by decide)
        have e7 : pV w4.heap.size #[.slice a1 m1 q1, .int .i64 (r1 : Int), .slice a2 m2 q2, .int .i64 (r3 : Int), .bool false] (B ++ b) w5 (V 7) := hV 7 (by decide) (by decide)
        have e12 : pY w4.heap.size Y w5 (V 12) := hV 12 (by decide) (by decide)
        dsimp only at hg1 hg2 hg3
        rw [hg2] at e7
        have e0 : V 0 = (.agg #[.slice a1 m1 q1, .int .i64 (r1 : Int), .slice a2 m2 q2, .int .i64 (r3 : Int), .bool false]) := hV 0 (by decide) (by decide)
        have e1 : V 1 = (.slice (some ⟨bl, ol, none⟩) m c0) := hV 1 (by decide) (by decide)
        have e2 : V 2 = (.int .i64 (i : Int)) := hV 2 (by decide) (by decide)
        have e3 : V 3 = (.pointer (some ⟨bl, ol + i, none⟩)) := hV 3 (by decide) (by decide)
        have e4 : V 4 = (.slice av ni cv) := hV 4 (by decide) (by decide)
        have e9 : V 9 = .int .i64 0 := hV 9 (by decide) (by decide)
        have e13 : V 13 = .int .i64 0 := hV 13 (by decide) (by decide)
        clear hV hs
        simp only [putsL, Act.put, List.setIfInBounds_toArray, List.set_cons_succ, List.set_cons_zero, Nat.reduceAdd, hg1, hg2, e0, e1, e2, e3, e4, e9, e13, ptr]
        clear hg1 hg2 e0 e1 e2 e3 e4 e9 e13
        generalize V 5 = q5
        generalize V 6 = q6
        generalize V 8 = q8
        generalize V 12 = y at e12 ⊢
        obtain ⟨e7a, e7b⟩ := e7
        obtain ⟨a5, m5, q5', a6, m6, q6', erow⟩ := e7a.shape
        simp only [Value.agg.injEq] at erow
        obtain ⟨r5, hr5⟩ : ∃ r, r = (4096 * nb (B ++ b).length) := ⟨_, rfl⟩
        obtain ⟨r7, hr7⟩ : ∃ r, r = (bitsW (B ++ b)).length / 8 := ⟨_, rfl⟩
        rw [← hr5, ← hr7] at erow
        subst erow
        have HG10 := Lib.hid hg3
        have ht6 := HT4.out.set hb e7a e7b
        have HR5 := Lib.hid ((hb.block g4 HT4.out.lt).trans HR.out)
        have hk6 := setRow_keeps w5 g4 #[.slice a5 m5 q5', .int .i64 (r5 : Int), .slice a6 m6 q6', .int .i64 (r7 : Int), .bool false]
        have hx6 := (HX.out.below hb (Nat.le_refl _)).frame hk6 (fun k hk => HXF.out k hk)
        have hy6 := Own.frame e12 hk6 (fun k hk e => by have := (Own.lt e12 k hk).1; have := HT4.out.lt; omega)
        have hoi6 := (HOI4.out.below hb (Nat.le_refl _)).frame hk6 (fun k hk => (HOO.out k hk).2.2.1)
        have HOW := Lib.hid e7b
        have HT6' := Lib.hid ht6
        have HX6' := Lib.hid hx6
        have HY6' := Lib.hid hy6
        have HI6' := Lib.hid hoi6
        have HLT4 := Lib.hid HT4.out.lt
        have HOIL := Lib.hid (fun k hk => (HOI4.out.lt k hk).2)
        clear hr5 hr7 hg3 ht6 hk6 hx6 hy6 hoi6 e7a e7b e12 hb HRW HY HBB
        go_upto_region 13 with (first
          | (with_reducible refine load_w6 rfl (.tmp 10) rfl g10 rfl _ HG10.out rfl ?_)
          | (with_reducible refine store_w6 rfl (.tmp 4) (.tmp 72) rfl rfl g4 _ _ _ _ _ _ _ _ _ rfl rfl _ HR5.out rfl ?_))
        obtain ⟨w6, hw6⟩ : ∃ ww, ww = w5.setRow g4 #[.slice a5 m5 q5', .int .i64 (r5 : Int), .slice a6 m6 q6', .int .i64 (r7 : Int), .bool false] := ⟨_, rfl⟩
        rw [← hw6] at HT6' HX6' HY6' HI6' ⊢
        clear hw6
        have hcw := HCE.out w6 HT6'.out.below
        have hn6' := HNU.out.below HT6'.out.below (Nat.le_refl _)
        have HNU6 := Lib.hid hn6'
        clear hn6'
        go_wp2_with fail
        refine (sameBytes_any _ _ _ _ _ HX6'.out HY6'.out.nums).mono ?_
        rintro e w7 ⟨rfl, rfl⟩
        go_wp2_with fail
        refine (sameBytes_any _ _ _ _ _ HI6'.out.nums HNU6.out).mono ?_
        rintro e w7 ⟨rfl, rfl⟩
        have hrow0 : ni = 0 ∨ ∃ gi cs, ai = some ⟨gi, 0, none⟩ ∧ w6.heap[gi]? = some (.cells cs 5) ∧ ni ≤ cs.size := by
          rcases HI6'.out.row.2 with ⟨e, h0⟩ | ⟨gi, cap, cur, e, hbg, hg, hcap, hcm, hcs, htk⟩
          · simp only [Value.slice.injEq] at e; exact .inl e.2.1
          · simp only [Value.slice.injEq] at e
            exact .inr ⟨gi, cur, e.1, hg, by omega⟩
        have HROW0 := Lib.hid hrow0
        clear hrow0 hcw
        go_wp2_with fail
        go_loopw [13] (fun v13 wr5 => ∃ k : Nat, k ≤ ni ∧ v13 = .int .i64 (k : Int) ∧ Keeps (fun j => (Value.slice ai ni ci).ownBlock = some j) w6 wr5 ∧ (ni = 0 ∨ ∃ gi cs, ai = some ⟨gi, 0, none⟩ ∧ wr5.heap[gi]? = some (.cells cs 5) ∧ ni ≤ cs.size)) (fun v13 _ => ni - (intOf v13).toNat)
        case atStart => exact ⟨0, Nat.zero_le _, rfl, Keeps.refl _ _, HROW0.out⟩
        case round =>
          obtain ⟨k, hk, rfl, hkp, hrow⟩ := hrel
          have HKP := Lib.hid hkp
          clear hkp
          by_cases hlt : k < ni
          · have d9 : decide (k < ni) = true := decide_eq_true hlt
            obtain ⟨gi, cs, rfl, hg, hcs⟩ := hrow.resolve_left (by omega)
            have HG := Lib.hid hg
            have hc0 : cs[k]? = some cs[k] := Array.getElem?_eq_getElem (by omega)
            have y0 := (cell_of_row _ _ k _ _ _ hg).trans hc0
            have f0 := frozen_of_row _ _ k _ _ hg
            clear hg hc0
            go_wp2_with fail
            have hst := heap_setCell_same _ gi k _ _ (.int .u8 0) HG.out
            refine ⟨⟨k + 1, by omega, rfl, HKP.out.setCell gi k (.int .u8 0) (.inl rfl), .inr ⟨gi, _, rfl, hst, by rw [Array.size_setIfInBounds]; exact hcs⟩⟩, by simp only [intOf]; omega⟩
          · have d9 : decide (k < ni) = false := decide_eq_false hlt
            go_wp2_with fail
            refine ⟨⟨i + 1, n1, s2, B ++ b, _, by omega, by omega, rfl, rfl, by rw [List.length_append, ← HNB.out, ← HNV.out, HN1.out], hn16, HT6'.out.other HKP.out (fun j hj => ?_)⟩, by simp only [intOf]; omega⟩
            refine ⟨HOO4.out j hj, fun h => ?_, (HOO.out j hj).2.2.1, (HOO.out j hj).2.2.2⟩
            have h9 := HOIL.out j hj
            rcases HOW.out j h with h2 | h2
            · exact (HOO.out j hj).2.1 h2
            · omega
end Go.Proofs.Ytcchekkedgajpaa.DefEi
