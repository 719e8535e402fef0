/- Joined texts of this claim, part 5: contracts and plain laws that its proof stands on. -/
import Derived.Test.YtdaokkgenfpmhaaGreatTb4
/- The document's trees, whose blocks are none of the fresh nodes' blocks: so a store into a fresh node leaves them. -/
set_option linter.unusedVariables false
set_option linter.unusedSimpArgs false
namespace Go.Proofs.YtdaokkgenfpmhaaGreat.BvhSa
open Go Go.RowKit Go.Sort Go.Lib FixM Base Num VecW VecV VecU LightQ MeshM Rec MeshA MeshD MeshP HitM HitN HitS BvhM BvhA BvhB BvhS BvhE BvhF BvhQ BvhO
/-- the block is there and is no block of one node -/
def Sb (B : Nat) (w : World) (b : Nat) : Prop := B ≤ b ∧ ∃ o, w.heap[b]? = some o ∧ ∀ cur, o = .cells cur 77 → cur.size ≠ 8
def Sf (B : Nat) (w : World) (v : Value) : Prop := ∀ b off n c, v = .slice (some ⟨b, off, none⟩) n c → Sb B w b
theorem Sb.lt {B : Nat} {w : World} {b : Nat} (h : Sb B w b) : b < w.heap.size := by
 obtain ⟨-, o, ho, -⟩ := h
 rcases Nat.lt_or_ge b w.heap.size with h | h
 ·
  exact h
 ·
  rw [Array.getElem?_eq_none h] at ho; cases ho
theorem Sb.below {B : Nat} {w w' : World} {b : Nat} (h : Sb B w b) (hb : Below w.heap.size w w') : Sb B w' b := by
 have hl := h.lt
 obtain ⟨hB, o, ho, hs⟩ := h
 exact ⟨hB, o, by rw [hb.block b hl]; exact ho, hs⟩
theorem Sf.below {B : Nat} {w w' : World} {v : Value} (h : Sf B w v) (hb : Below w.heap.size w w') : Sf B w' v := fun b off n c e => (h b off n c e).below hb
theorem Sb.ne {B : Nat} {w : World} {b g : Nat} {cur : Array Value} (h : Sb B w b) (hg : w.heap[g]? = some (.cells cur 77)) (hc : cur.size = 8) : b ≠ g := by
 rintro rfl
 obtain ⟨hB, o, ho, hs⟩ := h
 rw [hg] at ho
 exact hs cur (Option.some.inj ho).symm hc
theorem Sb.set {B : Nat} {w : World} {b g : Nat} {cur row : Array Value} (h : Sb B w b) (hg : w.heap[g]? = some (.cells cur 77)) (hc : cur.size = 8) : Sb B (w.setRow g row) b := by
 have hn := h.ne hg hc
 obtain ⟨hB, o, ho, hs⟩ := h
 exact ⟨hB, o, by rw [setRow_other _ _ _ _ hn]; exact ho, hs⟩
theorem Sb.cell {B : Nat} {w : World} {b g off : Nat} {cur row : Array Value} (h : Sb B w b) (hg : w.heap[g]? = some (.cells cur 77)) (hc : cur.size = 8) : (w.setRow g row).cell? ⟨b, off, none⟩ = w.cell? ⟨b, off, none⟩ := by
 have hn := h.ne hg hc
 have h1 := setRow_other w g b row hn
 unfold World.cell?
 rw [h1]
def NodeZ (B : Nat) (m : Msh) (w : World) : Tr → List Value → Prop
 | .leaf l, cs => ∃ a n c a2 c2, cs = ncells (.slice a n c) (boxL m l) (.slice a2 0 c2) ∧ Nums .i64 9223372036854775808 w (.slice a n c) l ∧ Sf B w (.slice a n c)
 | .node l x y, cs => ∃ a n c g off cp cx cy, cs = ncells (.slice a n c) (boxL m l) (.slice (some ⟨g, off, none⟩) 2 cp) ∧ (Nums .i64 9223372036854775808 w (.slice a n c) l ∧ Sf B w (.slice a n c)) ∧ Sb B w g ∧
   cx.length = 8 ∧ cy.length = 8 ∧ (∀ k v, cx[k]? = some v → w.cell? ⟨g, off + k, none⟩ = some v) ∧ (∀ k v, cy[k]? = some v → w.cell? ⟨g, off + 8 + k, none⟩ = some v) ∧ NodeZ B m w x cx ∧ NodeZ B m w y cy
theorem NodeZ.at {B : Nat} {m : Msh} {w : World} : ∀ (T : Tr) (cs : List Value), NodeZ B m w T cs → NodeAt m w T cs := by
 intro T
 induction T with
 | leaf l => rintro cs ⟨a, n, c, a2, c2, e, h, -⟩; exact ⟨a, n, c, a2, c2, e, h⟩
 | node l x y ihx ihy => rintro cs ⟨a, n, c, g, off, cp, cx, cy, e, h, hg, l1, l2, h1, h2, hx, hy⟩; exact ⟨a, n, c, g, off, cp, cx, cy, e, h.1, hg.lt, l1, l2, h1, h2, ihx _ hx, ihy _ hy⟩
theorem NodeZ.below {B : Nat} {m : Msh} {w w' : World} (hb : Below w.heap.size w w') : ∀ (T : Tr) (cs : List Value), NodeZ B m w T cs → NodeZ B m w' T cs := by
 intro T
 induction T with
 | leaf l =>
  rintro cs ⟨a, n, c, a2, c2, e, h, hs⟩
  exact ⟨a, n, c, a2, c2, e, h.below hb (Nat.le_refl _), hs.below hb⟩
 | node l x y ihx ihy =>
  rintro cs ⟨a, n, c, g, off, cp, cx, cy, e, h, hg, l1, l2, h1, h2, hx, hy⟩
  exact ⟨a, n, c, g, off, cp, cx, cy, e, ⟨h.1.below hb (Nat.le_refl _), h.2.below hb⟩, hg.below hb, l1, l2, fun k v hk => (hb.cell (p := ⟨g, off + k, none⟩) hg.lt).trans (h1 k v hk), fun k v hk => (hb.cell (p := ⟨g, off + 8 + k, none⟩) hg.lt).trans (h2 k v hk), ihx _ hx, ihy _ hy⟩
theorem nums_set {B : Nat} {w : World} {g : Nat} {cur row : Array Value} {v : Value} {l : List Nat} (h : Nums .i64 9223372036854775808 w v l) (hs : Sf B w v) (hg : w.heap[g]? = some (.cells cur 77)) (hc : cur.size = 8) : Nums .i64 9223372036854775808 (w.setRow g row) v l := by
 refine ⟨h.shape, h.bound, fun hne => ?_⟩
 obtain ⟨b, off, cap, e, hb, hcell⟩ := h.cells hne
 have hS := hs b off _ _ e
 exact ⟨b, off, cap, e, (hS.set hg hc).lt, fun i hi => (hS.cell hg hc).trans (hcell i hi)⟩
theorem NodeZ.set {B : Nat} {m : Msh} {w : World} {g : Nat} {cur row : Array Value} (hg : w.heap[g]? = some (.cells cur 77)) (hc : cur.size = 8) : ∀ (T : Tr) (cs : List Value), NodeZ B m w T cs → NodeZ B m (w.setRow g row) T cs := by
 intro T
 induction T with
 | leaf l =>
  rintro cs ⟨a, n, c, a2, c2, e, h, hs⟩
  exact ⟨a, n, c, a2, c2, e, nums_set h hs hg hc, fun b off n c e => (hs b off n c e).set hg hc⟩
 | node l x y ihx ihy =>
  rintro cs ⟨a, n, c, g', off, cp, cx, cy, e, h, hg', l1, l2, h1, h2, hx, hy⟩
  exact ⟨a, n, c, g', off, cp, cx, cy, e, ⟨nums_set h.1 h.2 hg hc, fun b off n c e => (h.2 b off n c e).set hg hc⟩, hg'.set hg hc, l1, l2, fun k v hk => (hg'.cell hg hc).trans (h1 k v hk), fun k v hk => (hg'.cell hg hc).trans (h2 k v hk), ihx _ hx, ihy _ hy⟩
/-- stores elsewhere: below B, or into blocks of one node -/
def Away (B : Nat) (S : Nat → Prop) (w : World) : Prop := ∀ k, S k → k < B ∨ ∃ cur, w.heap[k]? = some (.cells cur 77) ∧ cur.size = 8
theorem Sb.keep {B : Nat} {S : Nat → Prop} {w w' : World} {b : Nat} (h : Sb B w b) (hk : Keeps S w w') (hS : Away B S w) : Sb B w' b ∧ w'.heap[b]? = w.heap[b]? := by
 have hl := h.lt
 obtain ⟨hB, o, ho, hs⟩ := h
 have e := hk.block b hl (fun e => by
  rcases hS b e with h | ⟨cur, h1, h2⟩
  ·
   omega
  ·
   exact hs cur (Option.some.inj (ho.symm.trans h1)) h2)
 exact ⟨⟨hB, o, e.trans ho, hs⟩, e⟩
theorem NodeZ.keep {B : Nat} {m : Msh} {S : Nat → Prop} {w w' : World} (hk : Keeps S w w') (hS : Away B S w) : ∀ (T : Tr) (cs : List Value), NodeZ B m w T cs → NodeZ B m w' T cs := by
 have hc : ∀ {b off : Nat}, Sb B w b → w'.cell? ⟨b, off, none⟩ = w.cell? ⟨b, off, none⟩ := by
  intro b off h
  have h1 := (h.keep hk hS).2
  unfold World.cell?
  rw [h1]
 have hn : ∀ {v : Value} {l : List Nat}, Nums .i64 9223372036854775808 w v l → Sf B w v → Nums .i64 9223372036854775808 w' v l := by
  intro v l h hs
  refine ⟨h.shape, h.bound, fun hne => ?_⟩
  obtain ⟨b, off, cap, e, hb, hcell⟩ := h.cells hne
  have hS2 := hs b off _ _ e
  exact ⟨b, off, cap, e, (hS2.keep hk hS).1.lt, fun i hi => (hc hS2).trans (hcell i hi)⟩
 intro T
 induction T with
 | leaf l =>
  rintro cs ⟨a, n, c, a2, c2, e, h, hs⟩
  exact ⟨a, n, c, a2, c2, e, hn h hs, fun b off n c e => ((hs b off n c e).keep hk hS).1⟩
 | node l x y ihx ihy =>
  rintro cs ⟨a, n, c, g', off, cp, cx, cy, e, h, hg', l1, l2, h1, h2, hx, hy⟩
  exact ⟨a, n, c, g', off, cp, cx, cy, e, ⟨hn h.1 h.2, fun b off n c e => ((h.2 b off n c e).keep hk hS).1⟩, (hg'.keep hk hS).1, l1, l2, fun k v hk => (hc hg').trans (h1 k v hk), fun k v hk => (hc hg').trans (h2 k v hk), ihx _ hx, ihy _ hy⟩
theorem row_one8 (a : Option Addr) (n c : Nat) (b : Bx) (a2 : Option Addr) (n2 c2 : Nat) : (#[Value.slice a n c, .int .i64 b.lo.x, .int .i64 b.lo.y, .int .i64 b.lo.z, .int .i64 b.hi.x, .int .i64 b.hi.y, .int .i64 b.hi.z, .slice a2 n2 c2] : Array Value).all (·.oneCell') = true := by
 rw [Array.all_eq_true']; intro v hv; simp at hv; rcases hv with rfl | rfl | rfl | rfl | rfl | rfl | rfl | rfl <;> rfl
theorem NodeZ.form {B : Nat} {m : Msh} {w : World} {T : Tr} {cs : List Value} (h : NodeZ B m w T cs) : ∃ a n c a2 n2 c2, cs = ncells (.slice a n c) (boxL m T.l) (.slice a2 n2 c2) := by
 cases T with
 | leaf l => obtain ⟨a, n, c, a2, c2, rfl, -⟩ := h; exact ⟨_, _, _, _, _, _, rfl⟩
 | node l x y => obtain ⟨a, n, c, g, off, cp, cx, cy, rfl, -⟩ := h; exact ⟨_, _, _, _, _, _, rfl⟩
theorem NodeZ.row {B : Nat} {m : Msh} {w : World} {T : Tr} {cs : List Value} (h : NodeZ B m w T cs) : cs.toArray.size = 8 ∧ cs.toArray.all (·.oneCell') = true := by
 cases T with
 | leaf l => obtain ⟨a, n, c, a2, c2, rfl, -⟩ := h; exact ⟨rfl, row_one8 a n c _ a2 0 c2⟩
 | node l x y => obtain ⟨a, n, c, g, off, cp, cx, cy, rfl, -⟩ := h; exact ⟨rfl, row_one8 a n c _ _ 2 cp⟩
theorem kids_cells {w : World} {g : Nat} {c1 c2 : List Value} {T : TypeId} {row : Array Value} (hr : row = (c1 ++ c2).toArray) (h : w.heap[g]? = some (.cells row T)) (hl : c1.length = 8) : (∀ k v, c1[k]? = some v → w.cell? ⟨g, 0 + k, none⟩ = some v) ∧ (∀ k v, c2[k]? = some v → w.cell? ⟨g, 0 + 8 + k, none⟩ = some v) := by
 subst hr
 refine ⟨fun k v hk => ?_, fun k v hk => ?_⟩
 ·
  refine cell_row h (0 + k) v ?_
  rw [Nat.zero_add, List.getElem?_toArray]
  have hlt : k < c1.length := by
   rcases Nat.lt_or_ge k c1.length with h | h
   ·
    exact h
   ·
    rw [List.getElem?_eq_none h] at hk; cases hk
  rw [List.getElem?_append_left hlt]; exact hk
 ·
  refine cell_row h (0 + 8 + k) v ?_
  rw [Nat.zero_add, List.getElem?_toArray, List.getElem?_append_right (by omega), hl, Nat.add_sub_cancel_left]; exact hk
theorem sf_own {B base N : Nat} {w : World} {v : Value} {l : List Nat} (h : Own .i64 N 3 base w v l) (hB : B ≤ base) : ∀ b off n c, v = .slice (some ⟨b, off, none⟩) n c → Sb B w b := by
 rintro b off n c rfl
 rcases h.row.2 with ⟨e, -⟩ | ⟨g, cap, cur, e, h1, h2, -⟩
 ·
  simp at e
 ·
  simp only [Value.slice.injEq, Option.some.injEq, Addr.mk.injEq] at e
  obtain ⟨⟨rfl, -, -⟩, -, -⟩ := e
  exact ⟨Nat.le_trans hB h1, _, h2, fun cur' e => by simp at e⟩
end Go.Proofs.YtdaokkgenfpmhaaGreat.BvhSa

/- The walks of ref13: raised, Box. -/
set_option linter.unusedVariables false
set_option linter.unusedSimpArgs false
namespace Go.Proofs.YtdaokkgenfpmhaaGreat.HitR
open Go.RowKit Go.Sort FixM Base Num FixW Qb Qt Qa Qf VecW VecV VecU LightQ LightC MeshM Rec MeshA MeshB MeshC MeshD MeshE MeshP MeshR HitM HitT HitB HitX
set_option maxRecDepth 100000 in
theorem raised_any (a b : Int) (w : World) : Calls Tryz.prog 81 #[.int .i64 a, .int .i64 b] w (fun e w' => e = .returned (.int .i64 (maxI a b)) ∧ w = w') := by
 unfold maxI
 by_cases h : a < b
 ·
  have d0 : decide (a < b) = true := decide_eq_true h
  rw [if_pos h]
  clear h
  go_enter Tryz.func81, Tryz.ntmps81
  go_wp2_with fail
  go_ret
  exact ⟨rfl, rfl⟩
 ·
  have d0 : decide (a < b) = false := decide_eq_false h
  rw [if_neg h]
  clear h
  go_enter Tryz.func81, Tryz.ntmps81
  go_wp2_with fail
  go_ret
  exact ⟨rfl, rfl⟩
def ax (v : V3) : Nat → Int
 | 0 => v.x
 | 1 => v.y
 | _ => v.z
/-- what is still to be brought in: n sides -/
def restF (r : Ry) (b : Bx) : Nat → Int × Int → Option Int
 | 0, s => if s.1 ≤ s.2 then some s.1 else none
 | n + 1, s => (sideF (ax r.o (2 - n)) (ax r.d (2 - n)) (ax b.lo (2 - n)) (ax b.hi (2 - n)) s).bind (restF r b n)
theorem rest_all (r : Ry) (b : Bx) : restF r b 3 (0, MOST) = boxH r b := rfl
set_option maxRecDepth 100000 in
set_option maxHeartbeats 16000000 in
theorem rhbox_any (r : Ry) (b : Bx) (hr : r.ok) (hb : HitM.Bx.ok b) (w : World) : Calls Tryz.prog 56 #[rayV r, boxV b] w (VTo (boxR (boxH r b)) w) := by
 have HE := Lib.hid (rest_all r b)
 have HN0 := Lib.hid (show ∀ n f, restF r b 0 (n, f) = if n ≤ f then some n else none from fun _ _ => rfl)
 have HN1 := Lib.hid (show ∀ s, restF r b 1 s = (sideF r.o.z r.d.z b.lo.z b.hi.z s).bind (restF r b 0) from fun _ => rfl)
 have HN2 := Lib.hid (show ∀ s, restF r b 2 s = (sideF r.o.y r.d.y b.lo.y b.hi.y s).bind (restF r b 1) from fun _ => rfl)
 have HN3 := Lib.hid (show ∀ s, restF r b 3 s = (sideF r.o.x r.d.x b.lo.x b.hi.x s).bind (restF r b 2) from fun _ => rfl)
 generalize boxH r b = res at HE ⊢
 generalize restF r b = rest at HE HN0 HN1 HN2 HN3
 obtain ⟨⟨oX, oY, oZ⟩, ⟨dX, dY, dZ⟩⟩ := r
 obtain ⟨⟨lX, lY, lZ⟩, ⟨hX, hY, hZ⟩⟩ := b
 dsimp only [rayV, boxV] at *
 have HRK := Lib.hid hr
 have HBK := Lib.hid hb
 clear hr hb
 have HM : Hid (MOST = 9223372036854775807) := Lib.hid rfl
 rw [HM.out] at HE
 clear HM
 have hA := alloc2_0 w (.cells #[.int .i64 oX, .int .i64 oY, .int .i64 oZ, .int .i64 dX, .int .i64 dY, .int .i64 dZ] 48) (.cells #[.int .i64 lX, .int .i64 lY, .int .i64 lZ, .int .i64 hX, .int .i64 hY, .int .i64 hZ] 72)
 have hB_ := alloc2_1 w (.cells #[.int .i64 oX, .int .i64 oY, .int .i64 oZ, .int .i64 dX, .int .i64 dY, .int .i64 dZ] 48) (.cells #[.int .i64 lX, .int .i64 lY, .int .i64 lZ, .int .i64 hX, .int .i64 hY, .int .i64 hZ] 72)
 have hB0 := alloc2_below w (.cells #[.int .i64 oX, .int .i64 oY, .int .i64 oZ, .int .i64 dX, .int .i64 dY, .int .i64 dZ] 48) (.cells #[.int .i64 lX, .int .i64 lY, .int .i64 lZ, .int .i64 hX, .int .i64 hY, .int .i64 hZ] 72)
 obtain ⟨W, hW⟩ : ∃ ww, ww = (w.alloc (.cells #[.int .i64 oX, .int .i64 oY, .int .i64 oZ, .int .i64 dX, .int .i64 dY, .int .i64 dZ] 48)).alloc (.cells #[.int .i64 lX, .int .i64 lY, .int .i64 lZ, .int .i64 hX, .int .i64 hY, .int .i64 hZ] 72) := ⟨_, rfl⟩
 rw [← hW] at hA hB_ hB0
 have HR0 := Lib.hid hA
 have HX0 := Lib.hid hB_
 have HB0 := Lib.hid hB0
 have HWW := Lib.hid hW
 clear hA hB_ hB0 hW
 go_enter Tryz.func56, Tryz.ntmps56
 go_upto_region 1 with (fail)
 rw [← HWW.out]
 clear HWW
 have cHR0 := cell_row HR0.out 0 _ rfl
 have cHR1 := cell_row HR0.out 1 _ rfl
 have cHR2 := cell_row HR0.out 2 _ rfl
 go_upto_region 2 with (fail)
 clear cHR0 cHR1 cHR2
 have hx := ext_alloc W (.cells #[.int .i64 oX, .int .i64 oY, .int .i64 oZ] 127)
 have hn := heap_alloc_new W (.cells #[.int .i64 oX, .int .i64 oY, .int .i64 oZ] 127)
 obtain ⟨y1, hW⟩ : ∃ ww, ww = W.alloc (.cells #[.int .i64 oX, .int .i64 oY, .int .i64 oZ] 127) := ⟨_, rfl⟩
 rw [← hW] at hx hn ⊢
 clear hW
 have HR1 := Lib.hid (vec_step HR0.out hx)
 have HX1 := Lib.hid (vec_step HX0.out hx)
 have HB1 := Lib.hid (HB0.out.trans (hx.mono HB0.out.size))
 clear HR0 HX0 HB0 hx  
 have HGo1 := Lib.hid (hn)
 clear hn
 generalize W.heap.size = gHGo at HGo1 ⊢
 have cHR3 := cell_row HR1.out 3 _ rfl
 have cHR4 := cell_row HR1.out 4 _ rfl
 have cHR5 := cell_row HR1.out 5 _ rfl
 go_upto_region 3 with (fail)
 clear cHR3 cHR4 cHR5
 have hx := ext_alloc y1 (.cells #[.int .i64 dX, .int .i64 dY, .int .i64 dZ] 127)
 have hn := heap_alloc_new y1 (.cells #[.int .i64 dX, .int .i64 dY, .int .i64 dZ] 127)
 obtain ⟨y2, hW⟩ : ∃ ww, ww = y1.alloc (.cells #[.int .i64 dX, .int .i64 dY, .int .i64 dZ] 127) := ⟨_, rfl⟩
 rw [← hW] at hx hn ⊢
 clear hW
 have HR2 := Lib.hid (vec_step HR1.out hx)
 have HX2 := Lib.hid (vec_step HX1.out hx)
 have HB2 := Lib.hid (HB1.out.trans (hx.mono HB1.out.size))
 have HGo2 := Lib.hid (vec_step HGo1.out hx)
 clear HR1 HX1 HB1 HGo1 hx  
 have HGd2 := Lib.hid (hn)
 clear hn
 generalize y1.heap.size = gHGd at HGd2 ⊢
 have cHX0 := cell_row HX2.out 0 _ rfl
 have cHX1 := cell_row HX2.out 1 _ rfl
 have cHX2 := cell_row HX2.out 2 _ rfl
 go_upto_region 4 with (fail)
 clear cHX0 cHX1 cHX2
 have hx := ext_alloc y2 (.cells #[.int .i64 lX, .int .i64 lY, .int .i64 lZ] 127)
 have hn := heap_alloc_new y2 (.cells #[.int .i64 lX, .int .i64 lY, .int .i64 lZ] 127)
 obtain ⟨y3, hW⟩ : ∃ ww, ww = y2.alloc (.cells #[.int .i64 lX, .int .i64 lY, .int .i64 lZ] 127) := ⟨_, rfl⟩
 rw [← hW] at hx hn ⊢
 clear hW
 have HR3 := Lib.hid (vec_step HR2.out hx)
 have HX3 := Lib.hid (vec_step HX2.out hx)
 have HB3 := Lib.hid (HB2.out.trans (hx.mono HB2.out.size))
 have HGo3 := Lib.hid (vec_step HGo2.out hx)
 have HGd3 := Lib.hid (vec_step HGd2.out hx)
 clear HR2 HX2 HB2 HGo2 HGd2 hx  
 have HGl3 := Lib.hid (hn)
 clear hn
 generalize y2.heap.size = gHGl at HGl3 ⊢
 have cHX3 := cell_row HX3.out 3 _ rfl
 have cHX4 := cell_row HX3.out 4 _ rfl
 have cHX5 := cell_row HX3.out 5 _ rfl
 go_upto_region 5 with (fail)
 clear cHX3 cHX4 cHX5
 have hx := ext_alloc y3 (.cells #[.int .i64 hX, .int .i64 hY, .int .i64 hZ] 127)
 have hn := heap_alloc_new y3 (.cells #[.int .i64 hX, .int .i64 hY, .int .i64 hZ] 127)
 obtain ⟨y4, hW⟩ : ∃ ww, ww = y3.alloc (.cells #[.int .i64 hX, .int .i64 hY, .int .i64 hZ] 127) := ⟨_, rfl⟩
 rw [← hW] at hx hn ⊢
 clear hW
 have HR4 := Lib.hid (vec_step HR3.out hx)
 have HX4 := Lib.hid (vec_step HX3.out hx)
 have HB4 := Lib.hid (HB3.out.trans (hx.mono HB3.out.size))
 have HGo4 := Lib.hid (vec_step HGo3.out hx)
 have HGd4 := Lib.hid (vec_step HGd3.out hx)
 have HGl4 := Lib.hid (vec_step HGl3.out hx)
 clear HR3 HX3 HB3 HGo3 HGd3 HGl3 hx  
 have HGh4 := Lib.hid (hn)
 clear hn
 generalize y3.heap.size = gHGh at HGh4 ⊢
 clear HR4 HX4
 go_wp2_with fail
 go_loopg [10, 11, 12] 3 (fun r n10 n11 n12 wr => ∃ k n f : Int, 0 ≤ k ∧ k + (r : Int) = 3 ∧ n10 = .int .i64 n ∧ n11 = .int .i64 f ∧ n12 = .int .i64 k ∧ Hid (Below y4.heap.size y4 wr ∧ rest r (n, f) = res))
 case atStart => exact ⟨0, 0, 9223372036854775807, by omega, by omega, rfl, rfl, rfl, Lib.hid ⟨Below.refl _ _, HE.out⟩⟩
 case round =>
  obtain ⟨k, n, f, hk0, hkr, rfl, rfl, rfl, hin⟩ := hrel
  have hb := hin.out.1
  have HRS := Lib.hid hin.out.2
  clear hin
  have HW5 := Lib.hid hb
  have HB5 := Lib.hid (HB4.out.trans (hb.mono HB4.out.size))
  have HGo5 := Lib.hid (vec_step HGo4.out hb)
  have HGd5 := Lib.hid (vec_step HGd4.out hb)
  have HGl5 := Lib.hid (vec_step HGl4.out hb)
  have HGh5 := Lib.hid (vec_step HGh4.out hb)
  clear HB4 HGo4 HGd4 HGl4 HGh4 hb  
  rcases (show k = 0 ∨ k = 1 ∨ k = 2 ∨ k = 3 by omega) with rfl | rfl | rfl | rfl
  ·
   have hg : gk = 3 := by omega
   subst hg
   rw [HN3.out] at HRS
   unfold sideF at HRS
   dsimp only at HRS
   by_cases hd : dX = 0
   ·
    have dd : (dX == 0) = true := beq_iff_eq.mpr hd
    have HR2 := HRS.out
    rw [if_pos hd] at HR2
    have HRS2 := Lib.hid HR2
    clear HR2 HRS hd
    by_cases h1 : lX ≤ oX
    ·
     have d1 : decide (oX < lX) = false := decide_eq_false (by omega)
     by_cases h2 : oX ≤ hX
     ·
      have d2 : decide (hX < oX) = false := decide_eq_false (by omega)
      have hr2 := HRS2.out
      rw [if_pos ⟨h1, h2⟩, Option.bind_some] at hr2
      have HRS3 := Lib.hid hr2
      clear hr2 HRS2 h1 h2
      have cHGd0 := cell_row HGd5.out 0 _ rfl
      go_upto_region 10 with (fail)
      clear cHGd0
      have fHGo0 := fun d os => cell_regrown (cell_row HGo5.out 0 _ rfl) d os
      have fHGl0 := fun d os => cell_regrown (cell_row HGl5.out 0 _ rfl) d os
      have fHGh0 := fun d os => cell_regrown (cell_row HGh5.out 0 _ rfl) d os
      refine wp_region_quiet_below (by kernel_rfl) (by kernel_rfl) ?_
      repeat (go_big_quiet_step (first | fail))
      refine wpQuiet_nil ?_
      first | (rintro _ ⟨⟨dq, osq⟩, rfl⟩) | (rintro ⟨dq, osq⟩)
      have hb := below_regrown wr dq osq
      obtain ⟨y5, hW⟩ : ∃ ww, ww = grow (redrawn wr dq) osq := ⟨_, rfl⟩
      rw [← hW] at hb ⊢
      clear hW
      have HW6 := Lib.hid (HW5.out.trans (hb.mono HW5.out.size))
      have HB6 := Lib.hid (HB5.out.trans (hb.mono HB5.out.size))
      have HGo6 := Lib.hid (vec_step HGo5.out hb)
      have HGd6 := Lib.hid (vec_step HGd5.out hb)
      have HGl6 := Lib.hid (vec_step HGl5.out hb)
      have HGh6 := Lib.hid (vec_step HGh5.out hb)
      clear HB5 HGo5 HGd5 HGl5 HGh5 hb  HW5 fHGo0 fHGl0 fHGh0
      go_wp2_with fail
      go_roundg 2
      case measure => omega
      case rel => exact ⟨1, n, f, by omega, by omega, rfl, rfl, rfl, Lib.hid ⟨HW6.out, HRS3.out⟩⟩
     ·
      have d2 : decide (hX < oX) = true := decide_eq_true (by omega)
      have hr2 := HRS2.out
      rw [if_neg (by omega)] at hr2
      have HRS3 := Lib.hid hr2
      clear hr2 HRS2 h1 h2
      have hres : res = none := by have := HRS3.out; rw [← this]; rfl
      subst hres
      have cHGd0 := cell_row HGd5.out 0 _ rfl
      go_upto_region 10 with (fail)
      clear cHGd0
      have fHGo0 := fun d os => cell_regrown (cell_row HGo5.out 0 _ rfl) d os
      have fHGl0 := fun d os => cell_regrown (cell_row HGl5.out 0 _ rfl) d os
      have fHGh0 := fun d os => cell_regrown (cell_row HGh5.out 0 _ rfl) d os
      refine wp_region_quiet_below (by kernel_rfl) (by kernel_rfl) ?_
      repeat (go_big_quiet_step (first | fail))
      refine wpQuiet_nil ?_
      first | (rintro _ ⟨⟨dq, osq⟩, rfl⟩) | (rintro ⟨dq, osq⟩)
      have hb := below_regrown wr dq osq
      obtain ⟨y6, hW⟩ : ∃ ww, ww = grow (redrawn wr dq) osq := ⟨_, rfl⟩
      rw [← hW] at hb ⊢
      clear hW
      have HW6 := Lib.hid (HW5.out.trans (hb.mono HW5.out.size))
      have HB6 := Lib.hid (HB5.out.trans (hb.mono HB5.out.size))
      have HGo6 := Lib.hid (vec_step HGo5.out hb)
      have HGd6 := Lib.hid (vec_step HGd5.out hb)
      have HGl6 := Lib.hid (vec_step HGl5.out hb)
      have HGh6 := Lib.hid (vec_step HGh5.out hb)
      clear HB5 HGo5 HGd5 HGl5 HGh5 hb  HW5 fHGo0 fHGl0 fHGh0
      go_wp2_with fail
      go_ret2
      exact ⟨rfl, HB6.out⟩
    ·
     have d1 : decide (oX < lX) = true := decide_eq_true (by omega)
     have hr2 := HRS2.out
     rw [if_neg (by omega)] at hr2
     have HRS3 := Lib.hid hr2
     clear hr2 HRS2 h1
     have hres : res = none := by have := HRS3.out; rw [← this]; rfl
     subst hres
     have cHGd0 := cell_row HGd5.out 0 _ rfl
     go_upto_region 10 with (fail)
     clear cHGd0
     have fHGo0 := fun d os => cell_regrown (cell_row HGo5.out 0 _ rfl) d os
     have fHGl0 := fun d os => cell_regrown (cell_row HGl5.out 0 _ rfl) d os
     have fHGh0 := fun d os => cell_regrown (cell_row HGh5.out 0 _ rfl) d os
     refine wp_region_quiet_below (by kernel_rfl) (by kernel_rfl) ?_
     repeat (go_big_quiet_step (first | fail))
     refine wpQuiet_nil ?_
     first | (rintro _ ⟨⟨dq, osq⟩, rfl⟩) | (rintro ⟨dq, osq⟩)
     have hb := below_regrown wr dq osq
     obtain ⟨y7, hW⟩ : ∃ ww, ww = grow (redrawn wr dq) osq := ⟨_, rfl⟩
     rw [← hW] at hb ⊢
     clear hW
     have HW6 := Lib.hid (HW5.out.trans (hb.mono HW5.out.size))
     have HB6 := Lib.hid (HB5.out.trans (hb.mono HB5.out.size))
     have HGo6 := Lib.hid (vec_step HGo5.out hb)
     have HGd6 := Lib.hid (vec_step HGd5.out hb)
     have HGl6 := Lib.hid (vec_step HGl5.out hb)
     have HGh6 := Lib.hid (vec_step HGh5.out hb)
     clear HB5 HGo5 HGd5 HGl5 HGh5 hb  HW5 fHGo0 fHGl0 fHGh0
     go_wp2_with fail
     go_ret2
     exact ⟨rfl, HB6.out⟩
   ·
    have dd : (dX == 0) = false := beq_eq_false_iff_ne.mpr hd
    have HR2 := HRS.out
    rw [if_neg hd, Option.bind_some] at HR2
    clear HRS hd
    unfold loF hiF at HR2
    have io := HRK.out.1.1
    have id_ := HRK.out.2.1
    have il := HBK.out.1.1
    have ih := HBK.out.2.1
    obtain ⟨a1, ha1⟩ : ∃ zz, zz = subF lX oX := ⟨_, rfl⟩
    obtain ⟨a2, ha2⟩ : ∃ zz, zz = subF hX oX := ⟨_, rfl⟩
    have ia1 : In a1 := by rw [ha1]; exact in_sub _ _
    have ia2 : In a2 := by rw [ha2]; exact in_sub _ _
    rw [← ha1, ← ha2] at HR2
    obtain ⟨x0, hx0⟩ : ∃ zz, zz = divF a1 dX := ⟨_, rfl⟩
    obtain ⟨y0, hy0⟩ : ∃ zz, zz = divF a2 dX := ⟨_, rfl⟩
    rw [← hx0, ← hy0] at HR2
    have C1 : Hid (∀ w, Calls Tryz.prog 69 #[.int .i64 lX, .int .i64 oX] w (fun e w' => e = .returned (.int .i64 a1) ∧ w = w')) := Lib.hid (fun w => by have := rsub_any lX oX il.1 il.2 io.1 io.2 w; rw [← ha1] at this; exact this)
    have C2 : Hid (∀ w, Calls Tryz.prog 69 #[.int .i64 hX, .int .i64 oX] w (fun e w' => e = .returned (.int .i64 a2) ∧ w = w')) := Lib.hid (fun w => by have := rsub_any hX oX ih.1 ih.2 io.1 io.2 w; rw [← ha2] at this; exact this)
    have C3 : Hid (∀ w, Calls Tryz.prog 78 #[.int .i64 a1, .int .i64 dX] w (fun e w' => e = .returned (.int .i64 x0) ∧ w = w')) := Lib.hid (fun w => by have := FixK.rdiv_any a1 dX ia1.1 ia1.2 id_.1 id_.2 w; rw [← hx0] at this; exact this)
    have C4 : Hid (∀ w, Calls Tryz.prog 78 #[.int .i64 a2, .int .i64 dX] w (fun e w' => e = .returned (.int .i64 y0) ∧ w = w')) := Lib.hid (fun w => by have := FixK.rdiv_any a2 dX ia2.1 ia2.2 id_.1 id_.2 w; rw [← hy0] at this; exact this)
    have HRS2 := Lib.hid HR2
    clear HR2 io id_ il ih ha1 ha2 ia1 ia2 hx0 hy0
    have cHGd0 := cell_row HGd5.out 0 _ rfl
    go_upto_region 12 with (fail)
    clear cHGd0
    have Q1 := Lib.hid (qs (P := Tryz.prog) (W := wr) C1.out)
    have Q2 := Lib.hid (qs (P := Tryz.prog) (W := wr) C3.out)
    have fHGo0 := fun d os => cell_regrown (cell_row HGo5.out 0 _ rfl) d os
    have fHGd0 := fun d os => cell_regrown (cell_row HGd5.out 0 _ rfl) d os
    have fHGl0 := fun d os => cell_regrown (cell_row HGl5.out 0 _ rfl) d os
    refine wp_region_quiet_below (by kernel_rfl) (by kernel_rfl) ?_
    repeat (go_big_quiet_step (first | (with_reducible exact Q1.out _ _) | (with_reducible exact Q2.out _ _)))
    refine wpQuiet_nil ?_
    first | (rintro _ ⟨⟨dq, osq⟩, rfl⟩) | (rintro ⟨dq, osq⟩)
    have hb := below_regrown wr dq osq
    obtain ⟨y8, hW⟩ : ∃ ww, ww = grow (redrawn wr dq) osq := ⟨_, rfl⟩
    rw [← hW] at hb ⊢
    clear hW
    have HW6 := Lib.hid (HW5.out.trans (hb.mono HW5.out.size))
    have HB6 := Lib.hid (HB5.out.trans (hb.mono HB5.out.size))
    have HGo6 := Lib.hid (vec_step HGo5.out hb)
    have HGd6 := Lib.hid (vec_step HGd5.out hb)
    have HGl6 := Lib.hid (vec_step HGl5.out hb)
    have HGh6 := Lib.hid (vec_step HGh5.out hb)
    clear HB5 HGo5 HGd5 HGl5 HGh5 hb  HW5 fHGo0 fHGd0 fHGl0
    clear Q1 Q2 C1 C3
    go_upto_region 13 with (fail)
    have Q1 := Lib.hid (qs (P := Tryz.prog) (W := y8) C2.out)
    have Q2 := Lib.hid (qs (P := Tryz.prog) (W := y8) C4.out)
    have fHGo0 := fun d os => cell_regrown (cell_row HGo6.out 0 _ rfl) d os
    have fHGd0 := fun d os => cell_regrown (cell_row HGd6.out 0 _ rfl) d os
    have fHGh0 := fun d os => cell_regrown (cell_row HGh6.out 0 _ rfl) d os
    refine wp_region_quiet_below (by kernel_rfl) (by kernel_rfl) ?_
    repeat (go_big_quiet_step (first | (with_reducible exact Q1.out _ _) | (with_reducible exact Q2.out _ _)))
    refine wpQuiet_nil ?_
    first | (rintro _ ⟨⟨dq, osq⟩, rfl⟩) | (rintro ⟨dq, osq⟩)
    have hb := below_regrown y8 dq osq
    obtain ⟨y9, hW⟩ : ∃ ww, ww = grow (redrawn y8 dq) osq := ⟨_, rfl⟩
    rw [← hW] at hb ⊢
    clear hW
    have HW7 := Lib.hid (HW6.out.trans (hb.mono HW6.out.size))
    have HB7 := Lib.hid (HB6.out.trans (hb.mono HB6.out.size))
    have HGo7 := Lib.hid (vec_step HGo6.out hb)
    have HGd7 := Lib.hid (vec_step HGd6.out hb)
    have HGl7 := Lib.hid (vec_step HGl6.out hb)
    have HGh7 := Lib.hid (vec_step HGh6.out hb)
    clear HB6 HGo6 HGd6 HGl6 HGh6 hb  HW6 fHGo0 fHGd0 fHGh0
    clear Q1 Q2 C2 C4
    have cHGd0 := cell_row HGd7.out 0 _ rfl
    by_cases hn : dX < 0
    ·
     have dn : decide (dX < 0) = true := decide_eq_true hn
     have hr2 := HRS2.out
     rw [if_pos hn, if_pos hn] at hr2
     clear HRS2 hn
     unfold maxI minI at hr2
     by_cases h1 : n < y0
     ·
      have d1 : decide (n < y0) = true := decide_eq_true h1
      rw [if_pos h1] at hr2
      clear h1
      by_cases h2 : x0 < f
      ·
       have d2 : decide (x0 < f) = true := decide_eq_true h2
       rw [if_pos h2] at hr2
       have HRS3 := Lib.hid hr2
       clear h2 hr2
       go_wp2_with fail
       go_roundg 2
       case measure => omega
       case rel => exact ⟨1, y0, x0, by omega, by omega, rfl, rfl, rfl, Lib.hid ⟨HW7.out, HRS3.out⟩⟩
      ·
       have d2 : decide (x0 < f) = false := decide_eq_false h2
       rw [if_neg h2] at hr2
       have HRS3 := Lib.hid hr2
       clear h2 hr2
       go_wp2_with fail
       go_roundg 2
       case measure => omega
       case rel => exact ⟨1, y0, f, by omega, by omega, rfl, rfl, rfl, Lib.hid ⟨HW7.out, HRS3.out⟩⟩
     ·
      have d1 : decide (n < y0) = false := decide_eq_false h1
      rw [if_neg h1] at hr2
      clear h1
      by_cases h2 : x0 < f
      ·
       have d2 : decide (x0 < f) = true := decide_eq_true h2
       rw [if_pos h2] at hr2
       have HRS3 := Lib.hid hr2
       clear h2 hr2
       go_wp2_with fail
       go_roundg 2
       case measure => omega
       case rel => exact ⟨1, n, x0, by omega, by omega, rfl, rfl, rfl, Lib.hid ⟨HW7.out, HRS3.out⟩⟩
      ·
       have d2 : decide (x0 < f) = false := decide_eq_false h2
       rw [if_neg h2] at hr2
       have HRS3 := Lib.hid hr2
       clear h2 hr2
       go_wp2_with fail
       go_roundg 2
       case measure => omega
       case rel => exact ⟨1, n, f, by omega, by omega, rfl, rfl, rfl, Lib.hid ⟨HW7.out, HRS3.out⟩⟩
    ·
     have dn : decide (dX < 0) = false := decide_eq_false hn
     have hr2 := HRS2.out
     rw [if_neg hn, if_neg hn] at hr2
     clear HRS2 hn
     unfold maxI minI at hr2
     by_cases h1 : n < x0
     ·
      have d1 : decide (n < x0) = true := decide_eq_true h1
      rw [if_pos h1] at hr2
      clear h1
      by_cases h2 : y0 < f
      ·
       have d2 : decide (y0 < f) = true := decide_eq_true h2
       rw [if_pos h2] at hr2
       have HRS3 := Lib.hid hr2
       clear h2 hr2
       go_wp2_with fail
       go_roundg 2
       case measure => omega
       case rel => exact ⟨1, x0, y0, by omega, by omega, rfl, rfl, rfl, Lib.hid ⟨HW7.out, HRS3.out⟩⟩
      ·
       have d2 : decide (y0 < f) = false := decide_eq_false h2
       rw [if_neg h2] at hr2
       have HRS3 := Lib.hid hr2
       clear h2 hr2
       go_wp2_with fail
       go_roundg 2
       case measure => omega
       case rel => exact ⟨1, x0, f, by omega, by omega, rfl, rfl, rfl, Lib.hid ⟨HW7.out, HRS3.out⟩⟩
     ·
      have d1 : decide (n < x0) = false := decide_eq_false h1
      rw [if_neg h1] at hr2
      clear h1
      by_cases h2 : y0 < f
      ·
       have d2 : decide (y0 < f) = true := decide_eq_true h2
       rw [if_pos h2] at hr2
       have HRS3 := Lib.hid hr2
       clear h2 hr2
       go_wp2_with fail
       go_roundg 2
       case measure => omega
       case rel => exact ⟨1, n, y0, by omega, by omega, rfl, rfl, rfl, Lib.hid ⟨HW7.out, HRS3.out⟩⟩
      ·
       have d2 : decide (y0 < f) = false := decide_eq_false h2
       rw [if_neg h2] at hr2
       have HRS3 := Lib.hid hr2
       clear h2 hr2
       go_wp2_with fail
       go_roundg 2
       case measure => omega
       case rel => exact ⟨1, n, f, by omega, by omega, rfl, rfl, rfl, Lib.hid ⟨HW7.out, HRS3.out⟩⟩
  ·
   have hg : gk = 2 := by omega
   subst hg
   rw [HN2.out] at HRS
   unfold sideF at HRS
   dsimp only at HRS
   by_cases hd : dY = 0
   ·
    have dd : (dY == 0) = true := beq_iff_eq.mpr hd
    have HR2 := HRS.out
    rw [if_pos hd] at HR2
    have HRS2 := Lib.hid HR2
    clear HR2 HRS hd
    by_cases h1 : lY ≤ oY
    ·
     have d1 : decide (oY < lY) = false := decide_eq_false (by omega)
     by_cases h2 : oY ≤ hY
     ·
      have d2 : decide (hY < oY) = false := decide_eq_false (by omega)
      have hr2 := HRS2.out
      rw [if_pos ⟨h1, h2⟩, Option.bind_some] at hr2
      have HRS3 := Lib.hid hr2
      clear hr2 HRS2 h1 h2
      have cHGd1 := cell_row HGd5.out 1 _ rfl
      go_upto_region 10 with (fail)
      clear cHGd1
      have fHGo1 := fun d os => cell_regrown (cell_row HGo5.out 1 _ rfl) d os
      have fHGl1 := fun d os => cell_regrown (cell_row HGl5.out 1 _ rfl) d os
      have fHGh1 := fun d os => cell_regrown (cell_row HGh5.out 1 _ rfl) d os
      refine wp_region_quiet_below (by kernel_rfl) (by kernel_rfl) ?_
      repeat (go_big_quiet_step (first | fail))
      refine wpQuiet_nil ?_
      first | (rintro _ ⟨⟨dq, osq⟩, rfl⟩) | (rintro ⟨dq, osq⟩)
      have hb := below_regrown wr dq osq
      obtain ⟨y10, hW⟩ : ∃ ww, ww = grow (redrawn wr dq) osq := ⟨_, rfl⟩
      rw [← hW] at hb ⊢
      clear hW
      have HW6 := Lib.hid (HW5.out.trans (hb.mono HW5.out.size))
      have HB6 := Lib.hid (HB5.out.trans (hb.mono HB5.out.size))
      have HGo6 := Lib.hid (vec_step HGo5.out hb)
      have HGd6 := Lib.hid (vec_step HGd5.out hb)
      have HGl6 := Lib.hid (vec_step HGl5.out hb)
      have HGh6 := Lib.hid (vec_step HGh5.out hb)
      clear HB5 HGo5 HGd5 HGl5 HGh5 hb  HW5 fHGo1 fHGl1 fHGh1
      go_wp2_with fail
      go_roundg 1
      case measure => omega
      case rel => exact ⟨2, n, f, by omega, by omega, rfl, rfl, rfl, Lib.hid ⟨HW6.out, HRS3.out⟩⟩
     ·
      have d2 : decide (hY < oY) = true := decide_eq_true (by omega)
      have hr2 := HRS2.out
      rw [if_neg (by omega)] at hr2
      have HRS3 := Lib.hid hr2
      clear hr2 HRS2 h1 h2
      have hres : res = none := by have := HRS3.out; rw [← this]; rfl
      subst hres
      have cHGd1 := cell_row HGd5.out 1 _ rfl
      go_upto_region 10 with (fail)
      clear cHGd1
      have fHGo1 := fun d os => cell_regrown (cell_row HGo5.out 1 _ rfl) d os
      have fHGl1 := fun d os => cell_regrown (cell_row HGl5.out 1 _ rfl) d os
      have fHGh1 := fun d os => cell_regrown (cell_row HGh5.out 1 _ rfl) d os
      refine wp_region_quiet_below (by kernel_rfl) (by kernel_rfl) ?_
      repeat (go_big_quiet_step (first | fail))
      refine wpQuiet_nil ?_
      first | (rintro _ ⟨⟨dq, osq⟩, rfl⟩) | (rintro ⟨dq, osq⟩)
      have hb := below_regrown wr dq osq
      obtain ⟨y11, hW⟩ : ∃ ww, ww = grow (redrawn wr dq) osq := ⟨_, rfl⟩
      rw [← hW] at hb ⊢
      clear hW
      have HW6 := Lib.hid (HW5.out.trans (hb.mono HW5.out.size))
      have HB6 := Lib.hid (HB5.out.trans (hb.mono HB5.out.size))
      have HGo6 := Lib.hid (vec_step HGo5.out hb)
      have HGd6 := Lib.hid (vec_step HGd5.out hb)
      have HGl6 := Lib.hid (vec_step HGl5.out hb)
      have HGh6 := Lib.hid (vec_step HGh5.out hb)
      clear HB5 HGo5 HGd5 HGl5 HGh5 hb  HW5 fHGo1 fHGl1 fHGh1
      go_wp2_with fail
      go_ret2
      exact ⟨rfl, HB6.out⟩
    ·
     have d1 : decide (oY < lY) = true := decide_eq_true (by omega)
     have hr2 := HRS2.out
     rw [if_neg (by omega)] at hr2
     have HRS3 := Lib.hid hr2
     clear hr2 HRS2 h1
     have hres : res = none := by have := HRS3.out; rw [← this]; rfl
     subst hres
     have cHGd1 := cell_row HGd5.out 1 _ rfl
     go_upto_region 10 with (fail)
     clear cHGd1
     have fHGo1 := fun d os => cell_regrown (cell_row HGo5.out 1 _ rfl) d os
     have fHGl1 := fun d os => cell_regrown (cell_row HGl5.out 1 _ rfl) d os
     have fHGh1 := fun d os => cell_regrown (cell_row HGh5.out 1 _ rfl) d os
     refine wp_region_quiet_below (by kernel_rfl) (by kernel_rfl) ?_
     repeat (go_big_quiet_step (first | fail))
     refine wpQuiet_nil ?_
     first | (rintro _ ⟨⟨dq, osq⟩, rfl⟩) | (rintro ⟨dq, osq⟩)
     have hb := below_regrown wr dq osq
     obtain ⟨y12, hW⟩ : ∃ ww, ww = grow (redrawn wr dq) osq := ⟨_, rfl⟩
     rw [← hW] at hb ⊢
     clear hW
     have HW6 := Lib.hid (HW5.out.trans (hb.mono HW5.out.size))
     have HB6 := Lib.hid (HB5.out.trans (hb.mono HB5.out.size))
     have HGo6 := Lib.hid (vec_step HGo5.out hb)
     have HGd6 := Lib.hid (vec_step HGd5.out hb)
     have HGl6 := Lib.hid (vec_step HGl5.out hb)
     have HGh6 := Lib.hid (vec_step HGh5.out hb)
     clear HB5 HGo5 HGd5 HGl5 HGh5 hb  HW5 fHGo1 fHGl1 fHGh1
     go_wp2_with fail
     go_ret2
     exact ⟨rfl, HB6.out⟩
   ·
    have dd : (dY == 0) = false := beq_eq_false_iff_ne.mpr hd
    have HR2 := HRS.out
    rw [if_neg hd, Option.bind_some] at HR2
    clear HRS hd
    unfold loF hiF at HR2
    have io := HRK.out.1.2.1
    have id_ := HRK.out.2.2.1
    have il := HBK.out.1.2.1
    have ih := HBK.out.2.2.1
    obtain ⟨a1, ha1⟩ : ∃ zz, zz = subF lY oY := ⟨_, rfl⟩
    obtain ⟨a2, ha2⟩ : ∃ zz, zz = subF hY oY := ⟨_, rfl⟩
    have ia1 : In a1 := by rw [ha1]; exact in_sub _ _
    have ia2 : In a2 := by rw [ha2]; exact in_sub _ _
    rw [← ha1, ← ha2] at HR2
    obtain ⟨x0, hx0⟩ : ∃ zz, zz = divF a1 dY := ⟨_, rfl⟩
    obtain ⟨y0, hy0⟩ : ∃ zz, zz = divF a2 dY := ⟨_, rfl⟩
    rw [← hx0, ← hy0] at HR2
    have C1 : Hid (∀ w, Calls Tryz.prog 69 #[.int .i64 lY, .int .i64 oY] w (fun e w' => e = .returned (.int .i64 a1) ∧ w = w')) := Lib.hid (fun w => by have := rsub_any lY oY il.1 il.2 io.1 io.2 w; rw [← ha1] at this; exact this)
    have C2 : Hid (∀ w, Calls Tryz.prog 69 #[.int .i64 hY, .int .i64 oY] w (fun e w' => e = .returned (.int .i64 a2) ∧ w = w')) := Lib.hid (fun w => by have := rsub_any hY oY ih.1 ih.2 io.1 io.2 w; rw [← ha2] at this; exact this)
    have C3 : Hid (∀ w, Calls Tryz.prog 78 #[.int .i64 a1, .int .i64 dY] w (fun e w' => e = .returned (.int .i64 x0) ∧ w = w')) := Lib.hid (fun w => by have := FixK.rdiv_any a1 dY ia1.1 ia1.2 id_.1 id_.2 w; rw [← hx0] at this; exact this)
    have C4 : Hid (∀ w, Calls Tryz.prog 78 #[.int .i64 a2, .int .i64 dY] w (fun e w' => e = .returned (.int .i64 y0) ∧ w = w')) := Lib.hid (fun w => by have := FixK.rdiv_any a2 dY ia2.1 ia2.2 id_.1 id_.2 w; rw [← hy0] at this; exact this)
    have HRS2 := Lib.hid HR2
    clear HR2 io id_ il ih ha1 ha2 ia1 ia2 hx0 hy0
    have cHGd1 := cell_row HGd5.out 1 _ rfl
    go_upto_region 12 with (fail)
    clear cHGd1
    have Q1 := Lib.hid (qs (P := Tryz.prog) (W := wr) C1.out)
    have Q2 := Lib.hid (qs (P := Tryz.prog) (W := wr) C3.out)
    have fHGo1 := fun d os => cell_regrown (cell_row HGo5.out 1 _ rfl) d os
    have fHGd1 := fun d os => cell_regrown (cell_row HGd5.out 1 _ rfl) d os
    have fHGl1 := fun d os => cell_regrown (cell_row HGl5.out 1 _ rfl) d os
    refine wp_region_quiet_below (by kernel_rfl) (by kernel_rfl) ?_
    repeat (go_big_quiet_step (first | (with_reducible exact Q1.out _ _) | (with_reducible exact Q2.out _ _)))
    refine wpQuiet_nil ?_
    first | (rintro _ ⟨⟨dq, osq⟩, rfl⟩) | (rintro ⟨dq, osq⟩)
    have hb := below_regrown wr dq osq
    obtain ⟨y13, hW⟩ : ∃ ww, ww = grow (redrawn wr dq) osq := ⟨_, rfl⟩
    rw [← hW] at hb ⊢
    clear hW
    have HW6 := Lib.hid (HW5.out.trans (hb.mono HW5.out.size))
    have HB6 := Lib.hid (HB5.out.trans (hb.mono HB5.out.size))
    have HGo6 := Lib.hid (vec_step HGo5.out hb)
    have HGd6 := Lib.hid (vec_step HGd5.out hb)
    have HGl6 := Lib.hid (vec_step HGl5.out hb)
    have HGh6 := Lib.hid (vec_step HGh5.out hb)
    clear HB5 HGo5 HGd5 HGl5 HGh5 hb  HW5 fHGo1 fHGd1 fHGl1
    clear Q1 Q2 C1 C3
    go_upto_region 13 with (fail)
    have Q1 := Lib.hid (qs (P := Tryz.prog) (W := y13) C2.out)
    have Q2 := Lib.hid (qs (P := Tryz.prog) (W := y13) C4.out)
    have fHGo1 := fun d os => cell_regrown (cell_row HGo6.out 1 _ rfl) d os
    have fHGd1 := fun d os => cell_regrown (cell_row HGd6.out 1 _ rfl) d os
    have fHGh1 := fun d os => cell_regrown (cell_row HGh6.out 1 _ rfl) d os
    refine wp_region_quiet_below (by kernel_rfl) (by kernel_rfl) ?_
    repeat (go_big_quiet_step (first | (with_reducible exact Q1.out _ _) | (with_reducible exact Q2.out _ _)))
    refine wpQuiet_nil ?_
    first | (rintro _ ⟨⟨dq, osq⟩, rfl⟩) | (rintro ⟨dq, osq⟩)
    have hb := below_regrown y13 dq osq
    obtain ⟨y14, hW⟩ : ∃ ww, ww = grow (redrawn y13 dq) osq := ⟨_, rfl⟩
    rw [← hW] at hb ⊢
    clear hW
    have HW7 := Lib.hid (HW6.out.trans (hb.mono HW6.out.size))
    have HB7 := Lib.hid (HB6.out.trans (hb.mono HB6.out.size))
    have HGo7 := Lib.hid (vec_step HGo6.out hb)
    have HGd7 := Lib.hid (vec_step HGd6.out hb)
    have HGl7 := Lib.hid (vec_step HGl6.out hb)
    have HGh7 := Lib.hid (vec_step HGh6.out hb)
    clear HB6 HGo6 HGd6 HGl6 HGh6 hb  HW6 fHGo1 fHGd1 fHGh1
    clear Q1 Q2 C2 C4
    have cHGd1 := cell_row HGd7.out 1 _ rfl
    by_cases hn : dY < 0
    ·
     have dn : decide (dY < 0) = true := decide_eq_true hn
     have hr2 := HRS2.out
     rw [if_pos hn, if_pos hn] at hr2
     clear HRS2 hn
     unfold maxI minI at hr2
     by_cases h1 : n < y0
     ·
      have d1 : decide (n < y0) = true := decide_eq_true h1
      rw [if_pos h1] at hr2
      clear h1
      by_cases h2 : x0 < f
      ·
       have d2 : decide (x0 < f) = true := decide_eq_true h2
       rw [if_pos h2] at hr2
       have HRS3 := Lib.hid hr2
       clear h2 hr2
       go_wp2_with fail
       go_roundg 1
       case measure => omega
       case rel => exact ⟨2, y0, x0, by omega, by omega, rfl, rfl, rfl, Lib.hid ⟨HW7.out, HRS3.out⟩⟩
      ·
       have d2 : decide (x0 < f) = false := decide_eq_false h2
       rw [if_neg h2] at hr2
       have HRS3 := Lib.hid hr2
       clear h2 hr2
       go_wp2_with fail
       go_roundg 1
       case measure => omega
       case rel => exact ⟨2, y0, f, by omega, by omega, rfl, rfl, rfl, Lib.hid ⟨HW7.out, HRS3.out⟩⟩
     ·
      have d1 : decide (n < y0) = false := decide_eq_false h1
      rw [if_neg h1] at hr2
      clear h1
      by_cases h2 : x0 < f
      ·
       have d2 : decide (x0 < f) = true := decide_eq_true h2
       rw [if_pos h2] at hr2
       have HRS3 := Lib.hid hr2
       clear h2 hr2
       go_wp2_with fail
       go_roundg 1
       case measure => omega
       case rel => exact ⟨2, n, x0, by omega, by omega, rfl, rfl, rfl, Lib.hid ⟨HW7.out, HRS3.out⟩⟩
      ·
       have d2 : decide (x0 < f) = false := decide_eq_false h2
       rw [if_neg h2] at hr2
       have HRS3 := Lib.hid hr2
       clear h2 hr2
       go_wp2_with fail
       go_roundg 1
       case measure => omega
       case rel => exact ⟨2, n, f, by omega, by omega, rfl, rfl, rfl, Lib.hid ⟨HW7.out, HRS3.out⟩⟩
    ·
     have dn : decide (dY < 0) = false := decide_eq_false hn
     have hr2 := HRS2.out
     rw [if_neg hn, if_neg hn] at hr2
     clear HRS2 hn
     unfold maxI minI at hr2
     by_cases h1 : n < x0
     ·
      have d1 : decide (n < x0) = true := decide_eq_true h1
      rw [if_pos h1] at hr2
      clear h1
      by_cases h2 : y0 < f
      ·
       have d2 : decide (y0 < f) = true := decide_eq_true h2
       rw [if_pos h2] at hr2
       have HRS3 := Lib.hid hr2
       clear h2 hr2
       go_wp2_with fail
       go_roundg 1
       case measure => omega
       case rel => exact ⟨2, x0, y0, by omega, by omega, rfl, rfl, rfl, Lib.hid ⟨HW7.out, HRS3.out⟩⟩
      ·
       have d2 : decide (y0 < f) = false := decide_eq_false h2
       rw [if_neg h2] at hr2
       have HRS3 := Lib.hid hr2
       clear h2 hr2
       go_wp2_with fail
       go_roundg 1
       case measure => omega
       case rel => exact ⟨2, x0, f, by omega, by omega, rfl, rfl, rfl, Lib.hid ⟨HW7.out, HRS3.out⟩⟩
     ·
      have d1 : decide (n < x0) = false := decide_eq_false h1
      rw [if_neg h1] at hr2
      clear h1
      by_cases h2 : y0 < f
      ·
       have d2 : decide (y0 < f) = true := decide_eq_true h2
       rw [if_pos h2] at hr2
       have HRS3 := Lib.hid hr2
       clear h2 hr2
       go_wp2_with fail
       go_roundg 1
       case measure => omega
       case rel => exact ⟨2, n, y0, by omega, by omega, rfl, rfl, rfl, Lib.hid ⟨HW7.out, HRS3.out⟩⟩
      ·
       have d2 : decide (y0 < f) = false := decide_eq_false h2
       rw [if_neg h2] at hr2
       have HRS3 := Lib.hid hr2
       clear h2 hr2
       go_wp2_with fail
       go_roundg 1
       case measure => omega
       case rel => exact ⟨2, n, f, by omega, by omega, rfl, rfl, rfl, Lib.hid ⟨HW7.out, HRS3.out⟩⟩
  ·
   have hg : gk = 1 := by omega
   subst hg
   rw [HN1.out] at HRS
   unfold sideF at HRS
   dsimp only at HRS
   by_cases hd : dZ = 0
   ·
    have dd : (dZ == 0) = true := beq_iff_eq.mpr hd
    have HR2 := HRS.out
    rw [if_pos hd] at HR2
    have HRS2 := Lib.hid HR2
    clear HR2 HRS hd
    by_cases h1 : lZ ≤ oZ
    ·
     have d1 : decide (oZ < lZ) = false := decide_eq_false (by omega)
     by_cases h2 : oZ ≤ hZ
     ·
      have d2 : decide (hZ < oZ) = false := decide_eq_false (by omega)
      have hr2 := HRS2.out
      rw [if_pos ⟨h1, h2⟩, Option.bind_some] at hr2
      have HRS3 := Lib.hid hr2
      clear hr2 HRS2 h1 h2
      have cHGd2 := cell_row HGd5.out 2 _ rfl
      go_upto_region 10 with (fail)
      clear cHGd2
      have fHGo2 := fun d os => cell_regrown (cell_row HGo5.out 2 _ rfl) d os
      have fHGl2 := fun d os => cell_regrown (cell_row HGl5.out 2 _ rfl) d os
      have fHGh2 := fun d os => cell_regrown (cell_row HGh5.out 2 _ rfl) d os
      refine wp_region_quiet_below (by kernel_rfl) (by kernel_rfl) ?_
      repeat (go_big_quiet_step (first | fail))
      refine wpQuiet_nil ?_
      first | (rintro _ ⟨⟨dq, osq⟩, rfl⟩) | (rintro ⟨dq, osq⟩)
      have hb := below_regrown wr dq osq
      obtain ⟨y15, hW⟩ : ∃ ww, ww = grow (redrawn wr dq) osq := ⟨_, rfl⟩
      rw [← hW] at hb ⊢
      clear hW
      have HW6 := Lib.hid (HW5.out.trans (hb.mono HW5.out.size))
      have HB6 := Lib.hid (HB5.out.trans (hb.mono HB5.out.size))
      have HGo6 := Lib.hid (vec_step HGo5.out hb)
      have HGd6 := Lib.hid (vec_step HGd5.out hb)
      have HGl6 := Lib.hid (vec_step HGl5.out hb)
      have HGh6 := Lib.hid (vec_step HGh5.out hb)
      clear HB5 HGo5 HGd5 HGl5 HGh5 hb  HW5 fHGo2 fHGl2 fHGh2
      go_wp2_with fail
      go_roundg 0
      case measure => omega
      case rel => exact ⟨3, n, f, by omega, by omega, rfl, rfl, rfl, Lib.hid ⟨HW6.out, HRS3.out⟩⟩
     ·
      have d2 : decide (hZ < oZ) = true := decide_eq_true (by omega)
      have hr2 := HRS2.out
      rw [if_neg (by omega)] at hr2
      have HRS3 := Lib.hid hr2
      clear hr2 HRS2 h1 h2
      have hres : res = none := by have := HRS3.out; rw [← this]; rfl
      subst hres
      have cHGd2 := cell_row HGd5.out 2 _ rfl
      go_upto_region 10 with (fail)
      clear cHGd2
      have fHGo2 := fun d os => cell_regrown (cell_row HGo5.out 2 _ rfl) d os
      have fHGl2 := fun d os => cell_regrown (cell_row HGl5.out 2 _ rfl) d os
      have fHGh2 := fun d os => cell_regrown (cell_row HGh5.out 2 _ rfl) d os
      refine wp_region_quiet_below (by kernel_rfl) (by kernel_rfl) ?_
      repeat (go_big_quiet_step (first | fail))
      refine wpQuiet_nil ?_
      first | (rintro _ ⟨⟨dq, osq⟩, rfl⟩) | (rintro ⟨dq, osq⟩)
      have hb := below_regrown wr dq osq
      obtain ⟨y16, hW⟩ : ∃ ww, ww = grow (redrawn wr dq) osq := ⟨_, rfl⟩
      rw [← hW] at hb ⊢
      clear hW
      have HW6 := Lib.hid (HW5.out.trans (hb.mono HW5.out.size))
      have HB6 := Lib.hid (HB5.out.trans (hb.mono HB5.out.size))
      have HGo6 := Lib.hid (vec_step HGo5.out hb)
      have HGd6 := Lib.hid (vec_step HGd5.out hb)
      have HGl6 := Lib.hid (vec_step HGl5.out hb)
      have HGh6 := Lib.hid (vec_step HGh5.out hb)
      clear HB5 HGo5 HGd5 HGl5 HGh5 hb  HW5 fHGo2 fHGl2 fHGh2
      go_wp2_with fail
      go_ret2
      exact ⟨rfl, HB6.out⟩
    ·
     have d1 : decide (oZ < lZ) = true := decide_eq_true (by omega)
     have hr2 := HRS2.out
     rw [if_neg (by omega)] at hr2
     have HRS3 := Lib.hid hr2
     clear hr2 HRS2 h1
     have hres : res = none := by have := HRS3.out; rw [← this]; rfl
     subst hres
     have cHGd2 := cell_row HGd5.out 2 _ rfl
     go_upto_region 10 with (fail)
     clear cHGd2
     have fHGo2 := fun d os => cell_regrown (cell_row HGo5.out 2 _ rfl) d os
     have fHGl2 := fun d os => cell_regrown (cell_row HGl5.out 2 _ rfl) d os
     have fHGh2 := fun d os => cell_regrown (cell_row HGh5.out 2 _ rfl) d os
     refine wp_region_quiet_below (by kernel_rfl) (by kernel_rfl) ?_
     repeat (go_big_quiet_step (first | fail))
     refine wpQuiet_nil ?_
     first | (rintro _ ⟨⟨dq, osq⟩, rfl⟩) | (rintro ⟨dq, osq⟩)
     have hb := below_regrown wr dq osq
     obtain ⟨y17, hW⟩ : ∃ ww, ww = grow (redrawn wr dq) osq := ⟨_, rfl⟩
     rw [← hW] at hb ⊢
     clear hW
     have HW6 := Lib.hid (HW5.out.trans (hb.mono HW5.out.size))
     have HB6 := Lib.hid (HB5.out.trans (hb.mono HB5.out.size))
     have HGo6 := Lib.hid (vec_step HGo5.out hb)
     have HGd6 := Lib.hid (vec_step HGd5.out hb)
     have HGl6 := Lib.hid (vec_step HGl5.out hb)
     have HGh6 := Lib.hid (vec_step HGh5.out hb)
     clear HB5 HGo5 HGd5 HGl5 HGh5 hb  HW5 fHGo2 fHGl2 fHGh2
     go_wp2_with fail
     go_ret2
     exact ⟨rfl, HB6.out⟩
   ·
    have dd : (dZ == 0) = false := beq_eq_false_iff_ne.mpr hd
    have HR2 := HRS.out
    rw [if_neg hd, Option.bind_some] at HR2
    clear HRS hd
    unfold loF hiF at HR2
    have io := HRK.out.1.2.2
    have id_ := HRK.out.2.2.2
    have il := HBK.out.1.2.2
    have ih := HBK.out.2.2.2
    obtain ⟨a1, ha1⟩ : ∃ zz, zz = subF lZ oZ := ⟨_, rfl⟩
    obtain ⟨a2, ha2⟩ : ∃ zz, zz = subF hZ oZ := ⟨_, rfl⟩
    have ia1 : In a1 := by rw [ha1]; exact in_sub _ _
    have ia2 : In a2 := by rw [ha2]; exact in_sub _ _
    rw [← ha1, ← ha2] at HR2
    obtain ⟨x0, hx0⟩ : ∃ zz, zz = divF a1 dZ := ⟨_, rfl⟩
    obtain ⟨y0, hy0⟩ : ∃ zz, zz = divF a2 dZ := ⟨_, rfl⟩
    rw [← hx0, ← hy0] at HR2
    have C1 : Hid (∀ w, Calls Tryz.prog 69 #[.int .i64 lZ, .int .i64 oZ] w (fun e w' => e = .returned (.int .i64 a1) ∧ w = w')) := Lib.hid (fun w => by have := rsub_any lZ oZ il.1 il.2 io.1 io.2 w; rw [← ha1] at this; exact this)
    have C2 : Hid (∀ w, Calls Tryz.prog 69 #[.int .i64 hZ, .int .i64 oZ] w (fun e w' => e = .returned (.int .i64 a2) ∧ w = w')) := Lib.hid (fun w => by have := rsub_any hZ oZ ih.1 ih.2 io.1 io.2 w; rw [← ha2] at this; exact this)
    have C3 : Hid (∀ w, Calls Tryz.prog 78 #[.int .i64 a1, .int .i64 dZ] w (fun e w' => e = .returned (.int .i64 x0) ∧ w = w')) := Lib.hid (fun w => by have := FixK.rdiv_any a1 dZ ia1.1 ia1.2 id_.1 id_.2 w; rw [← hx0] at this; exact this)
    have C4 : Hid (∀ w, Calls Tryz.prog 78 #[.int .i64 a2, .int .i64 dZ] w (fun e w' => e = .returned (.int .i64 y0) ∧ w = w')) := Lib.hid (fun w => by have := FixK.rdiv_any a2 dZ ia2.1 ia2.2 id_.1 id_.2 w; rw [← hy0] at this; exact this)
    have HRS2 := Lib.hid HR2
    clear HR2 io id_ il ih ha1 ha2 ia1 ia2 hx0 hy0
    have cHGd2 := cell_row HGd5.out 2 _ rfl
    go_upto_region 12 with (fail)
    clear cHGd2
    have Q1 := Lib.hid (qs (P := Tryz.prog) (W := wr) C1.out)
    have Q2 := Lib.hid (qs (P := Tryz.prog) (W := wr) C3.out)
    have fHGo2 := fun d os => cell_regrown (cell_row HGo5.out 2 _ rfl) d os
    have fHGd2 := fun d os => cell_regrown (cell_row HGd5.out 2 _ rfl) d os
    have fHGl2 := fun d os => cell_regrown (cell_row HGl5.out 2 _ rfl) d os
    refine wp_region_quiet_below (by kernel_rfl) (by kernel_rfl) ?_
    repeat (go_big_quiet_step (first | (with_reducible exact Q1.out _ _) | (with_reducible exact Q2.out _ _)))
    refine wpQuiet_nil ?_
    first | (rintro _ ⟨⟨dq, osq⟩, rfl⟩) | (rintro ⟨dq, osq⟩)
    have hb := below_regrown wr dq osq
    obtain ⟨y18, hW⟩ : ∃ ww, ww = grow (redrawn wr dq) osq := ⟨_, rfl⟩
    rw [← hW] at hb ⊢
    clear hW
    have HW6 := Lib.hid (HW5.out.trans (hb.mono HW5.out.size))
    have HB6 := Lib.hid (HB5.out.trans (hb.mono HB5.out.size))
    have HGo6 := Lib.hid (vec_step HGo5.out hb)
    have HGd6 := Lib.hid (vec_step HGd5.out hb)
    have HGl6 := Lib.hid (vec_step HGl5.out hb)
    have HGh6 := Lib.hid (vec_step HGh5.out hb)
    clear HB5 HGo5 HGd5 HGl5 HGh5 hb  HW5 fHGo2 fHGd2 fHGl2
    clear Q1 Q2 C1 C3
    go_upto_region 13 with (fail)
    have Q1 := Lib.hid (qs (P := Tryz.prog) (W := y18) C2.out)
    have Q2 := Lib.hid (qs (P := Tryz.prog) (W := y18) C4.out)
    have fHGo2 := fun d os => cell_regrown (cell_row HGo6.out 2 _ rfl) d os
    have fHGd2 := fun d os => cell_regrown (cell_row HGd6.out 2 _ rfl) d os
    have fHGh2 := fun d os => cell_regrown (cell_row HGh6.out 2 _ rfl) d os
    refine wp_region_quiet_below (by kernel_rfl) (by kernel_rfl) ?_
    repeat (go_big_quiet_step (first | (with_reducible exact Q1.out _ _) | (with_reducible exact Q2.out _ _)))
    refine wpQuiet_nil ?_
    first | (rintro _ ⟨⟨dq, osq⟩, rfl⟩) | (rintro ⟨dq, osq⟩)
    have hb := below_regrown y18 dq osq
    obtain ⟨y19, hW⟩ : ∃ ww, ww = grow (redrawn y18 dq) osq := ⟨_, rfl⟩
    rw [← hW] at hb ⊢
    clear hW
    have HW7 := Lib.hid (HW6.out.trans (hb.mono HW6.out.size))
    have HB7 := Lib.hid (HB6.out.trans (hb.mono HB6.out.size))
    have HGo7 := Lib.hid (vec_step HGo6.out hb)
    have HGd7 := Lib.hid (vec_step HGd6.out hb)
    have HGl7 := Lib.hid (vec_step HGl6.out hb)
    have HGh7 := Lib.hid (vec_step HGh6.out hb)
    clear HB6 HGo6 HGd6 HGl6 HGh6 hb  HW6 fHGo2 fHGd2 fHGh2
    clear Q1 Q2 C2 C4
    have cHGd2 := cell_row HGd7.out 2 _ rfl
    by_cases hn : dZ < 0
    ·
     have dn : decide (dZ < 0) = true := decide_eq_true hn
     have hr2 := HRS2.out
     rw [if_pos hn, if_pos hn] at hr2
     clear HRS2 hn
     unfold maxI minI at hr2
     by_cases h1 : n < y0
     ·
      have d1 : decide (n < y0) = true := decide_eq_true h1
      rw [if_pos h1] at hr2
      clear h1
      by_cases h2 : x0 < f
      ·
       have d2 : decide (x0 < f) = true := decide_eq_true h2
       rw [if_pos h2] at hr2
       have HRS3 := Lib.hid hr2
       clear h2 hr2
       go_wp2_with fail
       go_roundg 0
       case measure => omega
       case rel => exact ⟨3, y0, x0, by omega, by omega, rfl, rfl, rfl, Lib.hid ⟨HW7.out, HRS3.out⟩⟩
      ·
       have d2 : decide (x0 < f) = false := decide_eq_false h2
       rw [if_neg h2] at hr2
       have HRS3 := Lib.hid hr2
       clear h2 hr2
       go_wp2_with fail
       go_roundg 0
       case measure => omega
       case rel => exact ⟨3, y0, f, by omega, by omega, rfl, rfl, rfl, Lib.hid ⟨HW7.out, HRS3.out⟩⟩
     ·
      have d1 : decide (n < y0) = false := decide_eq_false h1
      rw [if_neg h1] at hr2
      clear h1
      by_cases h2 : x0 < f
      ·
       have d2 : decide (x0 < f) = true := decide_eq_true h2
       rw [if_pos h2] at hr2
       have HRS3 := Lib.hid hr2
       clear h2 hr2
       go_wp2_with fail
       go_roundg 0
       case measure => omega
       case rel => exact ⟨3, n, x0, by omega, by omega, rfl, rfl, rfl, Lib.hid ⟨HW7.out, HRS3.out⟩⟩
      ·
       have d2 : decide (x0 < f) = false := decide_eq_false h2
       rw [if_neg h2] at hr2
       have HRS3 := Lib.hid hr2
       clear h2 hr2
       go_wp2_with fail
       go_roundg 0
       case measure => omega
       case rel => exact ⟨3, n, f, by omega, by omega, rfl, rfl, rfl, Lib.hid ⟨HW7.out, HRS3.out⟩⟩
    ·
     have dn : decide (dZ < 0) = false := decide_eq_false hn
     have hr2 := HRS2.out
     rw [if_neg hn, if_neg hn] at hr2
     clear HRS2 hn
     unfold maxI minI at hr2
     by_cases h1 : n < x0
     ·
      have d1 : decide (n < x0) = true := decide_eq_true h1
      rw [if_pos h1] at hr2
      clear h1
      by_cases h2 : y0 < f
      ·
       have d2 : decide (y0 < f) = true := decide_eq_true h2
       rw [if_pos h2] at hr2
       have HRS3 := Lib.hid hr2
       clear h2 hr2
       go_wp2_with fail
       go_roundg 0
       case measure => omega
       case rel => exact ⟨3, x0, y0, by omega, by omega, rfl, rfl, rfl, Lib.hid ⟨HW7.out, HRS3.out⟩⟩
      ·
       have d2 : decide (y0 < f) = false := decide_eq_false h2
       rw [if_neg h2] at hr2
       have HRS3 := Lib.hid hr2
       clear h2 hr2
       go_wp2_with fail
       go_roundg 0
       case measure => omega
       case rel => exact ⟨3, x0, f, by omega, by omega, rfl, rfl, rfl, Lib.hid ⟨HW7.out, HRS3.out⟩⟩
     ·
      have d1 : decide (n < x0) = false := decide_eq_false h1
      rw [if_neg h1] at hr2
      clear h1
      by_cases h2 : y0 < f
      ·
       have d2 : decide (y0 < f) = true := decide_eq_true h2
       rw [if_pos h2] at hr2
       have HRS3 := Lib.hid hr2
       clear h2 hr2
       go_wp2_with fail
       go_roundg 0
       case measure => omega
       case rel => exact ⟨3, n, y0, by omega, by omega, rfl, rfl, rfl, Lib.hid ⟨HW7.out, HRS3.out⟩⟩
      ·
       have d2 : decide (y0 < f) = false := decide_eq_false h2
       rw [if_neg h2] at hr2
       have HRS3 := Lib.hid hr2
       clear h2 hr2
       go_wp2_with fail
       go_roundg 0
       case measure => omega
       case rel => exact ⟨3, n, f, by omega, by omega, rfl, rfl, rfl, Lib.hid ⟨HW7.out, HRS3.out⟩⟩
  ·
   have hg : gk = 0 := by omega
   subst hg
   rw [HN0.out] at HRS
   by_cases hh : n ≤ f
   ·
    have hr2 := HRS.out
    rw [if_pos hh] at hr2
    subst hr2
    have d2 : decide (f < n) = false := decide_eq_false (by omega)
    clear HRS hh
    go_wp2_with fail
    go_ret2
    exact ⟨rfl, HB5.out⟩
   ·
    have hr2 := HRS.out
    rw [if_neg hh] at hr2
    subst hr2
    have d2 : decide (f < n) = true := decide_eq_true (by omega)
    clear HRS hh
    go_wp2_with fail
    go_ret2
    exact ⟨rfl, HB5.out⟩

end Go.Proofs.YtdaokkgenfpmhaaGreat.HitR

/- The walk of ref13 there. -/
set_option linter.unusedVariables false
set_option linter.unusedSimpArgs false
namespace Go.Proofs.YtdaokkgenfpmhaaGreat.HitR2
open Go.RowKit Go.Sort FixM Base Num FixW Qb Qt Qa Qf VecW VecV VecU LightQ LightC MeshM Rec MeshA MeshB MeshC MeshD MeshE MeshP MeshR HitM HitT HitB HitX HitN HitC HitS HitR
def thereF (m : Msh) (i : Int) : Bool :=
 if i < 0 ∨ (m.ts.length : Int) + (m.bs.length : Int) ≤ i then false
 else if i < (m.ts.length : Int) then hasF m.ps.length (m.ts.getD i.toNat v0) else true
set_option maxRecDepth 100000 in
set_option maxHeartbeats 16000000 in
theorem rthere_any (v : Value) (m : Msh) (w : World) (hm : IsMesh w v m) (hl : m.ts.length + m.bs.length ≤ 9223372036854775807) (i : Int) (hi : In i) : Calls Tryz.prog 79 #[v, .int .i64 i] w (VTo (.bool (thereF m i)) w) := by
 have CCN := Lib.hid (fun w2 (hb : Below w.heap.size w w2) => rcount_any v m w2 (hm.below hb) hl)
 obtain ⟨a0, c0, a1, c1, a2, c2, rfl, h0_, h1_, h2_, l0, l1, l2⟩ := hm.open_
 have HTS := Lib.hid h1_
 have L0 := Lib.hid l0
 obtain ⟨N, hN⟩ : ∃ zz : Int, zz = ((m.ts.length + m.bs.length : Nat) : Int) := ⟨_, rfl⟩
 rw [← hN] at CCN
 have HN : N = (m.ts.length : Int) + (m.bs.length : Int) := by rw [hN]; omega
 obtain ⟨res, hres⟩ : ∃ zz, zz = thereF m i := ⟨_, rfl⟩
 rw [← hres]
 unfold thereF at hres
 have hA := heap_alloc_new w (.cells #[.slice a0 m.ps.length c0, .slice a1 m.ts.length c1, .slice a2 m.bs.length c2] 31)
 have hB0 := ext_alloc w (.cells #[.slice a0 m.ps.length c0, .slice a1 m.ts.length c1, .slice a2 m.bs.length c2] 31)
 obtain ⟨W, hW⟩ : ∃ ww, ww = w.alloc (.cells #[.slice a0 m.ps.length c0, .slice a1 m.ts.length c1, .slice a2 m.bs.length c2] 31) := ⟨_, rfl⟩
 rw [← hW] at hA hB0
 have HR0 := Lib.hid hA
 have HB0 := Lib.hid hB0
 have HWW := Lib.hid hW
 clear hA hB0 hW hm h0_ h1_ h2_ l0 l1 l2 hN
 by_cases h0 : i < 0
 ·
  have d0 : decide (i < 0) = true := decide_eq_true h0
  have hr0 : res = false := by rw [hres, if_pos (.inl h0)]
  subst hr0
  clear hres h0
  go_enter Tryz.func79, Tryz.ntmps79
  go_upto_region 1 with (fail)
  rw [← HWW.out]
  clear HWW
  go_wp2_with fail
  go_ret
  exact ⟨rfl, HB0.out⟩
 have d0 : decide (i < 0) = false := decide_eq_false h0
 by_cases h1 : N ≤ i
 ·
  have d1 : decide (N ≤ i) = true := decide_eq_true h1
  have hr0 : res = false := by rw [hres, if_pos (.inr (by omega))]
  subst hr0
  clear hres h1 h0 HN
  go_enter Tryz.func79, Tryz.ntmps79
  go_upto_region 1 with (fail)
  rw [← HWW.out]
  clear HWW
  have cHR0 := cell_row HR0.out 0 _ rfl
  have cHR1 := cell_row HR0.out 1 _ rfl
  have cHR2 := cell_row HR0.out 2 _ rfl
  go_wp2_with fail
  refine (CCN.out _ HB0.out).mono ?_
  rintro e y1 ⟨rfl, hb⟩
  have HR1 := Lib.hid (vec_step HR0.out hb)
  have HB1 := Lib.hid (HB0.out.trans (hb.mono HB0.out.size))
  clear HR0 HB0 hb cHR0 cHR1 cHR2 
  go_wp2_with fail
  go_ret
  exact ⟨rfl, HB1.out⟩
 have d1 : decide (N ≤ i) = false := decide_eq_false h1
 rw [if_neg (by omega)] at hres
 by_cases h2 : i < (m.ts.length : Int)
 ·
  have d2 : decide (i < (m.ts.length : Int)) = true := decide_eq_true h2
  rw [if_pos h2] at hres
  obtain ⟨j, rfl⟩ := Int.eq_ofNat_of_zero_le (show 0 ≤ i by omega)
  have hj : j < m.ts.length := by omega
  have dj : decide (j < m.ts.length) = true := decide_eq_true hj
  obtain ⟨⟨x, y, z⟩, hT⟩ : ∃ zz, zz = m.ts[j] := ⟨_, rfl⟩
  have hgd : m.ts.getD ((j : Int)).toNat v0 = ⟨x, y, z⟩ := by rw [hT]; simp [hj]
  rw [hgd] at hres
  have HE : Hid (res = (placeI m.ps.length x && placeI m.ps.length y && placeI m.ps.length z)) := Lib.hid hres
  have HJ := Lib.hid (fun h : j < m.ts.length => (hT.symm : m.ts[j]'h = _))
  clear hres hgd h0 h1 h2 HN hT hi
  go_enter Tryz.func79, Tryz.ntmps79
  go_upto_region 1 with (fail)
  rw [← HWW.out]
  clear HWW
  have cHR0 := cell_row HR0.out 0 _ rfl
  have cHR1 := cell_row HR0.out 1 _ rfl
  have cHR2 := cell_row HR0.out 2 _ rfl
  go_wp2_with fail
  refine (CCN.out _ HB0.out).mono ?_
  rintro e y2 ⟨rfl, hb⟩
  have HR1 := Lib.hid (vec_step HR0.out hb)
  have HB1 := Lib.hid (HB0.out.trans (hb.mono HB0.out.size))
  clear HR0 HB0 hb cHR0 cHR1 cHR2 
  go_wp2_with fail
  go_loopg [5] 3 (fun r n5 wr => ∃ k : Int, 0 ≤ k ∧ k + (r : Int) = 3 ∧ n5 = .int .i64 k ∧ Hid (Below y2.heap.size y2 wr ∧ (0 < k → placeI m.ps.length x = true) ∧ (1 < k → placeI m.ps.length y = true) ∧ (2 < k → placeI m.ps.length z = true)))
  case atStart => exact ⟨0, by omega, by omega, rfl, Lib.hid ⟨Below.refl _ _, by omega, by omega, by omega⟩⟩
  case round =>
   obtain ⟨k, hk0, hkr, rfl, hin⟩ := hrel
   have hb := hin.out.1
   have HW0 := Lib.hid hb
   have HR2 := Lib.hid (vec_step HR1.out hb)
   have HB2 := Lib.hid (HB1.out.trans (hb.mono HB1.out.size))
   clear HR1 HB1 hb  
   rcases (show k = 0 ∨ k = 1 ∨ k = 2 ∨ k = 3 by omega) with rfl | rfl | rfl | rfl
   ·
    by_cases h1 : x < 0
    ·
     have e2 : decide (x < 0) = true := decide_eq_true h1
     have hh : res = false := by rw [HE.out]; unfold placeI; rw [decide_eq_false (show ¬ 0 ≤ x by omega)]; simp
     subst hh
     clear hin h1 hk0 hkr
     have cHR1 := cell_row HR2.out 1 _ rfl
     go_upto_region 6 with (fail)
     clear cHR1
     obtain ⟨b9, o9, e, -, u0, u1, u2⟩ := at3 (HTS.out.below HB2.out (Nat.le_refl _)) j hj
     subst e
     rw [HJ.out hj] at u0 u1 u2
     dsimp only at u0 u1 u2
     have fu0 := fun d os => cell_regrown u0 d os
     clear u0 u1 u2
     have fHR0 := fun d os => cell_regrown (cell_row HR2.out 0 _ rfl) d os
     have fHR1 := fun d os => cell_regrown (cell_row HR2.out 1 _ rfl) d os
     refine wp_region_quiet_below (by kernel_rfl) (by kernel_rfl) ?_
     repeat (go_big_quiet_step (first | fail))
     refine wpQuiet_nil ?_
     first | (rintro _ ⟨⟨dq, osq⟩, rfl⟩) | (rintro ⟨dq, osq⟩)
     have hb := below_regrown wr dq osq
     obtain ⟨y3, hW⟩ : ∃ ww, ww = grow (redrawn wr dq) osq := ⟨_, rfl⟩
     rw [← hW] at hb ⊢
     clear hW
     have HR3 := Lib.hid (vec_step HR2.out hb)
     have HB3 := Lib.hid (HB2.out.trans (hb.mono HB2.out.size))
     clear HR2 HB2 hb  fHR0 fHR1
     clear fu0
     go_wp2_with fail
     go_ret
     exact ⟨rfl, HB3.out⟩
    ·
     have e2 : decide (x < 0) = false := decide_eq_false h1
     by_cases h2 : (m.ps.length : Int) ≤ x
     ·
      have e3 : decide ((m.ps.length : Int) ≤ x) = true := decide_eq_true h2
      have hh : res = false := by rw [HE.out]; unfold placeI; rw [decide_eq_false (show ¬ x < (m.ps.length : Int) by omega)]; simp
      subst hh
      clear hin h1 h2 hk0 hkr
      have cHR1 := cell_row HR2.out 1 _ rfl
      go_upto_region 6 with (fail)
      clear cHR1
      obtain ⟨b9, o9, e, -, u0, u1, u2⟩ := at3 (HTS.out.below HB2.out (Nat.le_refl _)) j hj
      subst e
      rw [HJ.out hj] at u0 u1 u2
      dsimp only at u0 u1 u2
      have fu0 := fun d os => cell_regrown u0 d os
      clear u0 u1 u2
      have fHR0 := fun d os => cell_regrown (cell_row HR2.out 0 _ rfl) d os
      have fHR1 := fun d os => cell_regrown (cell_row HR2.out 1 _ rfl) d os
      refine wp_region_quiet_below (by kernel_rfl) (by kernel_rfl) ?_
      repeat (go_big_quiet_step (first | fail))
      refine wpQuiet_nil ?_
      first | (rintro _ ⟨⟨dq, osq⟩, rfl⟩) | (rintro ⟨dq, osq⟩)
      have hb := below_regrown wr dq osq
      obtain ⟨y4, hW⟩ : ∃ ww, ww = grow (redrawn wr dq) osq := ⟨_, rfl⟩
      rw [← hW] at hb ⊢
      clear hW
      have HR3 := Lib.hid (vec_step HR2.out hb)
      have HB3 := Lib.hid (HB2.out.trans (hb.mono HB2.out.size))
      clear HR2 HB2 hb  fHR0 fHR1
      clear fu0
      go_wp2_with fail
      go_ret
      exact ⟨rfl, HB3.out⟩
     ·
      have e3 : decide ((m.ps.length : Int) ≤ x) = false := decide_eq_false h2
      have hp0 : placeI m.ps.length x = true := by unfold placeI; rw [decide_eq_true (show 0 ≤ x by omega), decide_eq_true (show x < (m.ps.length : Int) by omega)]; rfl
      have HPP := Lib.hid (And.intro hp0 True.intro)
      clear hin h1 h2 hp0
      have cHR1 := cell_row HR2.out 1 _ rfl
      go_upto_region 6 with (fail)
      clear cHR1
      obtain ⟨b9, o9, e, -, u0, u1, u2⟩ := at3 (HTS.out.below HB2.out (Nat.le_refl _)) j hj
      subst e
      rw [HJ.out hj] at u0 u1 u2
      dsimp only at u0 u1 u2
      have fu0 := fun d os => cell_regrown u0 d os
      clear u0 u1 u2
      have fHR0 := fun d os => cell_regrown (cell_row HR2.out 0 _ rfl) d os
      have fHR1 := fun d os => cell_regrown (cell_row HR2.out 1 _ rfl) d os
      refine wp_region_quiet_below (by kernel_rfl) (by kernel_rfl) ?_
      repeat (go_big_quiet_step (first | fail))
      refine wpQuiet_nil ?_
      first | (rintro _ ⟨⟨dq, osq⟩, rfl⟩) | (rintro ⟨dq, osq⟩)
      have hb := below_regrown wr dq osq
      have HWK := Lib.hid (HW0.out.trans (hb.mono HW0.out.size))
      obtain ⟨y5, hW⟩ : ∃ ww, ww = grow (redrawn wr dq) osq := ⟨_, rfl⟩
      rw [← hW] at hb HWK ⊢
      clear hW
      have HR3 := Lib.hid (vec_step HR2.out hb)
      have HB3 := Lib.hid (HB2.out.trans (hb.mono HB2.out.size))
      clear HR2 HB2 hb  fHR0 fHR1
      clear fu0
      go_wp2_with fail
      go_roundg 2
      case measure => omega
      case rel => exact ⟨1, by omega, by omega, rfl, Lib.hid ⟨HWK.out, fun _ => HPP.out.1, by omega, by omega⟩⟩
   ·
    by_cases h1 : y < 0
    ·
     have e2 : decide (y < 0) = true := decide_eq_true h1
     have hh : res = false := by rw [HE.out]; unfold placeI; rw [decide_eq_false (show ¬ 0 ≤ y by omega)]; simp
     subst hh
     clear hin h1 hk0 hkr
     have cHR1 := cell_row HR2.out 1 _ rfl
     go_upto_region 6 with (fail)
     clear cHR1
     obtain ⟨b9, o9, e, -, u0, u1, u2⟩ := at3 (HTS.out.below HB2.out (Nat.le_refl _)) j hj
     subst e
     rw [HJ.out hj] at u0 u1 u2
     dsimp only at u0 u1 u2
     have fu1 := fun d os => cell_regrown u1 d os
     clear u0 u1 u2
     have fHR0 := fun d os => cell_regrown (cell_row HR2.out 0 _ rfl) d os
     have fHR1 := fun d os => cell_regrown (cell_row HR2.out 1 _ rfl) d os
     refine wp_region_quiet_below (by kernel_rfl) (by kernel_rfl) ?_
     repeat (go_big_quiet_step (first | fail))
     refine wpQuiet_nil ?_
     first | (rintro _ ⟨⟨dq, osq⟩, rfl⟩) | (rintro ⟨dq, osq⟩)
     have hb := below_regrown wr dq osq
     obtain ⟨y6, hW⟩ : ∃ ww, ww = grow (redrawn wr dq) osq := ⟨_, rfl⟩
     rw [← hW] at hb ⊢
     clear hW
     have HR3 := Lib.hid (vec_step HR2.out hb)
     have HB3 := Lib.hid (HB2.out.trans (hb.mono HB2.out.size))
     clear HR2 HB2 hb  fHR0 fHR1
     clear fu1
     go_wp2_with fail
     go_ret
     exact ⟨rfl, HB3.out⟩
    ·
     have e2 : decide (y < 0) = false := decide_eq_false h1
     by_cases h2 : (m.ps.length : Int) ≤ y
     ·
      have e3 : decide ((m.ps.length : Int) ≤ y) = true := decide_eq_true h2
      have hh : res = false := by rw [HE.out]; unfold placeI; rw [decide_eq_false (show ¬ y < (m.ps.length : Int) by omega)]; simp
      subst hh
      clear hin h1 h2 hk0 hkr
      have cHR1 := cell_row HR2.out 1 _ rfl
      go_upto_region 6 with (fail)
      clear cHR1
      obtain ⟨b9, o9, e, -, u0, u1, u2⟩ := at3 (HTS.out.below HB2.out (Nat.le_refl _)) j hj
      subst e
      rw [HJ.out hj] at u0 u1 u2
      dsimp only at u0 u1 u2
      have fu1 := fun d os => cell_regrown u1 d os
      clear u0 u1 u2
      have fHR0 := fun d os => cell_regrown (cell_row HR2.out 0 _ rfl) d os
      have fHR1 := fun d os => cell_regrown (cell_row HR2.out 1 _ rfl) d os
      refine wp_region_quiet_below (by kernel_rfl) (by kernel_rfl) ?_
      repeat (go_big_quiet_step (first | fail))
      refine wpQuiet_nil ?_
      first | (rintro _ ⟨⟨dq, osq⟩, rfl⟩) | (rintro ⟨dq, osq⟩)
      have hb := below_regrown wr dq osq
      obtain ⟨y7, hW⟩ : ∃ ww, ww = grow (redrawn wr dq) osq := ⟨_, rfl⟩
      rw [← hW] at hb ⊢
      clear hW
      have HR3 := Lib.hid (vec_step HR2.out hb)
      have HB3 := Lib.hid (HB2.out.trans (hb.mono HB2.out.size))
      clear HR2 HB2 hb  fHR0 fHR1
      clear fu1
      go_wp2_with fail
      go_ret
      exact ⟨rfl, HB3.out⟩
     ·
      have e3 : decide ((m.ps.length : Int) ≤ y) = false := decide_eq_false h2
      have hp1 : placeI m.ps.length y = true := by unfold placeI; rw [decide_eq_true (show 0 ≤ y by omega), decide_eq_true (show y < (m.ps.length : Int) by omega)]; rfl
      have hp0 : placeI m.ps.length x = true := hin.out.2.1 (by omega)
      have HPP := Lib.hid (And.intro hp0 hp1)
      clear hin h1 h2 hp0 hp1
      have cHR1 := cell_row HR2.out 1 _ rfl
      go_upto_region 6 with (fail)
      clear cHR1
      obtain ⟨b9, o9, e, -, u0, u1, u2⟩ := at3 (HTS.out.below HB2.out (Nat.le_refl _)) j hj
      subst e
      rw [HJ.out hj] at u0 u1 u2
      dsimp only at u0 u1 u2
      have fu1 := fun d os => cell_regrown u1 d os
      clear u0 u1 u2
      have fHR0 := fun d os => cell_regrown (cell_row HR2.out 0 _ rfl) d os
      have fHR1 := fun d os => cell_regrown (cell_row HR2.out 1 _ rfl) d os
      refine wp_region_quiet_below (by kernel_rfl) (by kernel_rfl) ?_
      repeat (go_big_quiet_step (first | fail))
      refine wpQuiet_nil ?_
      first | (rintro _ ⟨⟨dq, osq⟩, rfl⟩) | (rintro ⟨dq, osq⟩)
      have hb := below_regrown wr dq osq
      have HWK := Lib.hid (HW0.out.trans (hb.mono HW0.out.size))
      obtain ⟨y8, hW⟩ : ∃ ww, ww = grow (redrawn wr dq) osq := ⟨_, rfl⟩
      rw [← hW] at hb HWK ⊢
      clear hW
      have HR3 := Lib.hid (vec_step HR2.out hb)
      have HB3 := Lib.hid (HB2.out.trans (hb.mono HB2.out.size))
      clear HR2 HB2 hb  fHR0 fHR1
      clear fu1
      go_wp2_with fail
      go_roundg 1
      case measure => omega
      case rel => exact ⟨2, by omega, by omega, rfl, Lib.hid ⟨HWK.out, fun _ => HPP.out.1, fun _ => HPP.out.2, by omega⟩⟩
   ·
    by_cases h1 : z < 0
    ·
     have e2 : decide (z < 0) = true := decide_eq_true h1
     have hh : res = false := by rw [HE.out]; unfold placeI; rw [decide_eq_false (show ¬ 0 ≤ z by omega)]; simp
     subst hh
     clear hin h1 hk0 hkr
     have cHR1 := cell_row HR2.out 1 _ rfl
     go_upto_region 6 with (fail)
     clear cHR1
     obtain ⟨b9, o9, e, -, u0, u1, u2⟩ := at3 (HTS.out.below HB2.out (Nat.le_refl _)) j hj
     subst e
     rw [HJ.out hj] at u0 u1 u2
     dsimp only at u0 u1 u2
     have fu2 := fun d os => cell_regrown u2 d os
     clear u0 u1 u2
     have fHR0 := fun d os => cell_regrown (cell_row HR2.out 0 _ rfl) d os
     have fHR1 := fun d os => cell_regrown (cell_row HR2.out 1 _ rfl) d os
     refine wp_region_quiet_below (by kernel_rfl) (by kernel_rfl) ?_
     repeat (go_big_quiet_step (first | fail))
     refine wpQuiet_nil ?_
     first | (rintro _ ⟨⟨dq, osq⟩, rfl⟩) | (rintro ⟨dq, osq⟩)
     have hb := below_regrown wr dq osq
     obtain ⟨y9, hW⟩ : ∃ ww, ww = grow (redrawn wr dq) osq := ⟨_, rfl⟩
     rw [← hW] at hb ⊢
     clear hW
     have HR3 := Lib.hid (vec_step HR2.out hb)
     have HB3 := Lib.hid (HB2.out.trans (hb.mono HB2.out.size))
     clear HR2 HB2 hb  fHR0 fHR1
     clear fu2
     go_wp2_with fail
     go_ret
     exact ⟨rfl, HB3.out⟩
    ·
     have e2 : decide (z < 0) = false := decide_eq_false h1
     by_cases h2 : (m.ps.length : Int) ≤ z
     ·
      have e3 : decide ((m.ps.length : Int) ≤ z) = true := decide_eq_true h2
      have hh : res = false := by rw [HE.out]; unfold placeI; rw [decide_eq_false (show ¬ z < (m.ps.length : Int) by omega)]; simp
      subst hh
      clear hin h1 h2 hk0 hkr
      have cHR1 := cell_row HR2.out 1 _ rfl
      go_upto_region 6 with (fail)
      clear cHR1
      obtain ⟨b9, o9, e, -, u0, u1, u2⟩ := at3 (HTS.out.below HB2.out (Nat.le_refl _)) j hj
      subst e
      rw [HJ.out hj] at u0 u1 u2
      dsimp only at u0 u1 u2
      have fu2 := fun d os => cell_regrown u2 d os
      clear u0 u1 u2
      have fHR0 := fun d os => cell_regrown (cell_row HR2.out 0 _ rfl) d os
      have fHR1 := fun d os => cell_regrown (cell_row HR2.out 1 _ rfl) d os
      refine wp_region_quiet_below (by kernel_rfl) (by kernel_rfl) ?_
      repeat (go_big_quiet_step (first | fail))
      refine wpQuiet_nil ?_
      first | (rintro _ ⟨⟨dq, osq⟩, rfl⟩) | (rintro ⟨dq, osq⟩)
      have hb := below_regrown wr dq osq
      obtain ⟨y10, hW⟩ : ∃ ww, ww = grow (redrawn wr dq) osq := ⟨_, rfl⟩
      rw [← hW] at hb ⊢
      clear hW
      have HR3 := Lib.hid (vec_step HR2.out hb)
      have HB3 := Lib.hid (HB2.out.trans (hb.mono HB2.out.size))
      clear HR2 HB2 hb  fHR0 fHR1
      clear fu2
      go_wp2_with fail
      go_ret
      exact ⟨rfl, HB3.out⟩
     ·
      have e3 : decide ((m.ps.length : Int) ≤ z) = false := decide_eq_false h2
      have hp2 : placeI m.ps.length z = true := by unfold placeI; rw [decide_eq_true (show 0 ≤ z by omega), decide_eq_true (show z < (m.ps.length : Int) by omega)]; rfl
      have hp0 : placeI m.ps.length x = true := hin.out.2.1 (by omega)
      have hp1 : placeI m.ps.length y = true := hin.out.2.2.1 (by omega)
      have HPP := Lib.hid (And.intro hp0 (And.intro hp1 hp2))
      clear hin h1 h2 hp0 hp1 hp2
      have cHR1 := cell_row HR2.out 1 _ rfl
      go_upto_region 6 with (fail)
      clear cHR1
      obtain ⟨b9, o9, e, -, u0, u1, u2⟩ := at3 (HTS.out.below HB2.out (Nat.le_refl _)) j hj
      subst e
      rw [HJ.out hj] at u0 u1 u2
      dsimp only at u0 u1 u2
      have fu2 := fun d os => cell_regrown u2 d os
      clear u0 u1 u2
      have fHR0 := fun d os => cell_regrown (cell_row HR2.out 0 _ rfl) d os
      have fHR1 := fun d os => cell_regrown (cell_row HR2.out 1 _ rfl) d os
      refine wp_region_quiet_below (by kernel_rfl) (by kernel_rfl) ?_
      repeat (go_big_quiet_step (first | fail))
      refine wpQuiet_nil ?_
      first | (rintro _ ⟨⟨dq, osq⟩, rfl⟩) | (rintro ⟨dq, osq⟩)
      have hb := below_regrown wr dq osq
      have HWK := Lib.hid (HW0.out.trans (hb.mono HW0.out.size))
      obtain ⟨y11, hW⟩ : ∃ ww, ww = grow (redrawn wr dq) osq := ⟨_, rfl⟩
      rw [← hW] at hb HWK ⊢
      clear hW
      have HR3 := Lib.hid (vec_step HR2.out hb)
      have HB3 := Lib.hid (HB2.out.trans (hb.mono HB2.out.size))
      clear HR2 HB2 hb  fHR0 fHR1
      clear fu2
      go_wp2_with fail
      go_roundg 0
      case measure => omega
      case rel => exact ⟨3, by omega, by omega, rfl, Lib.hid ⟨HWK.out, fun _ => HPP.out.1, fun _ => HPP.out.2.1, fun _ => HPP.out.2.2⟩⟩
   ·
    have px := hin.out.2.1 (by omega)
    have py := hin.out.2.2.1 (by omega)
    have pz := hin.out.2.2.2 (by omega)
    have hh : res = true := by rw [HE.out, px, py, pz]; rfl
    subst hh
    clear px py pz hin hk0 hkr
    have cHR1 := cell_row HR2.out 1 _ rfl
    go_wp2_with fail
    go_ret
    exact ⟨rfl, HB2.out⟩
 ·
  have d2 : decide (i < (m.ts.length : Int)) = false := decide_eq_false h2
  rw [if_neg h2] at hres
  subst hres
  clear h0 h1 h2 HN hi
  go_enter Tryz.func79, Tryz.ntmps79
  go_upto_region 1 with (fail)
  rw [← HWW.out]
  clear HWW
  have cHR0 := cell_row HR0.out 0 _ rfl
  have cHR1 := cell_row HR0.out 1 _ rfl
  have cHR2 := cell_row HR0.out 2 _ rfl
  go_wp2_with fail
  refine (CCN.out _ HB0.out).mono ?_
  rintro e y12 ⟨rfl, hb⟩
  have HR1 := Lib.hid (vec_step HR0.out hb)
  have HB1 := Lib.hid (HB0.out.trans (hb.mono HB0.out.size))
  clear HR0 HB0 hb cHR0 cHR1 cHR2 
  have cHR1 := cell_row HR1.out 1 _ rfl
  go_wp2_with fail
  go_loopg [5] 0 (fun r n5 wr => n5 = .int .i64 0 ∧ wr = y12)
  case atStart => exact ⟨rfl, rfl⟩
  case round =>
   obtain ⟨rfl, rfl⟩ := hrel
   go_wp2_with fail
   go_ret
   exact ⟨rfl, HB1.out⟩

end Go.Proofs.YtdaokkgenfpmhaaGreat.HitR2

/- The walk of ref13 Shape. -/
set_option linter.unusedVariables false
set_option linter.unusedSimpArgs false
namespace Go.Proofs.YtdaokkgenfpmhaaGreat.HitR3
open Go.RowKit Go.Sort FixM Base Num FixW Qb Qt Qa Qf Qg VecW VecV VecU LightQ LightC MeshM Rec MeshA MeshB MeshC MeshD MeshE MeshP MeshR HitM HitT HitB HitX HitN HitC HitS HitR HitR2
theorem alloc_hitR (w : World) : (Instr.alloc 42 true (.tuple #[])).run Tryz.prog w = .ok (.pointer (some ⟨w.heap.size, 0, none⟩)) (w.alloc (.cells #[.int .i64 0, .int .i64 0, .int .i64 0, .int .i64 0] 42)) := by kernel_rfl
theorem row_one4 (a b c d : Int) : (#[Value.int .i64 a, .int .i64 b, .int .i64 c, .int .i64 d] : Array Value).all (·.oneCell') = true := by
 rw [Array.all_eq_true']; intro v hv; simp at hv; rcases hv with rfl | rfl | rfl | rfl <;> rfl
theorem there_not {m : Msh} {i : Int} {r : Ry} {least : Int} (h : thereF m i = false) : shapeF m i r least = none := by
 unfold thereF at h
 unfold shapeF
 split at h
 ·
  rename_i h1; rw [if_pos h1]
 ·
  rename_i h1
  rw [if_neg h1]
  split at h
  ·
   rename_i h2
   rw [if_neg (by omega)]
   unfold triShapeF cornersF
   rw [if_neg (by omega), if_neg (by rw [h]; exact Bool.false_ne_true)]; rfl
  ·
   cases h
theorem there_is {m : Msh} {i : Int} {r : Ry} {least : Int} (h : thereF m i = true) : shapeF m i r least = (boxH r (boxF m i)).bind (fun near => if i < (m.ts.length : Int) then (triH r (ptF m (m.ts.getD i.toNat v0).x) (ptF m (m.ts.getD i.toNat v0).y) (ptF m (m.ts.getD i.toNat v0).z)).bind (fun h => if maxI h.t near < least then none else some ⟨maxI h.t near, i, h.u, h.v⟩) else (ballH r (ballAt m i)).bind (fun p => pickF i near least p.1 p.2)) := by
 unfold thereF at h
 unfold shapeF
 split at h
 ·
  cases h
 ·
  rename_i h1
  rw [if_neg h1]
  split at h
  ·
   rename_i h2
   rw [if_neg (by omega)]
   unfold triShapeF cornersF
   rw [if_neg (by omega), if_pos h, Option.bind_some]
   simp only [if_pos h2]
  ·
   rename_i h2
   rw [if_pos (by omega)]
   unfold ballShapeF
   simp only [if_neg h2]
theorem there_tri {m : Msh} {i : Int} (h : thereF m i = true) (h2 : i < (m.ts.length : Int)) : ∃ (j x y z : Nat) (hj : j < m.ts.length) (hx : x < m.ps.length) (hy : y < m.ps.length) (hz : z < m.ps.length), i = (j : Int) ∧ m.ts[j] = ⟨(x : Int), (y : Int), (z : Int)⟩ ∧ m.ts.getD i.toNat v0 = ⟨(x : Int), (y : Int), (z : Int)⟩ ∧ ptF m (x : Int) = m.ps[x] ∧ ptF m (y : Int) = m.ps[y] ∧ ptF m (z : Int) = m.ps[z] := by
 unfold thereF at h
 split at h
 ·
  cases h
 ·
  rename_i h1
  obtain ⟨j, rfl⟩ := Int.eq_ofNat_of_zero_le (show 0 ≤ i by omega)
  have hj : j < m.ts.length := by omega
  have hg : m.ts.getD ((j : Int)).toNat v0 = m.ts[j] := by simp [hj]
  rw [hg] at h ⊢
  cases ht : m.ts[j] with
  | mk x y z =>
   rw [ht] at h
   simp only [hasF, placeI, Bool.and_eq_true, decide_eq_true_eq] at h
   obtain ⟨x, rfl⟩ := Int.eq_ofNat_of_zero_le h.1.1.1
   obtain ⟨y, rfl⟩ := Int.eq_ofNat_of_zero_le h.1.2.1
   obtain ⟨z, rfl⟩ := Int.eq_ofNat_of_zero_le h.2.1
   have hx : x < m.ps.length := by omega
   have hy : y < m.ps.length := by omega
   have hz : z < m.ps.length := by omega
   exact ⟨j, x, y, z, hj, hx, hy, hz, rfl, ht, rfl, by simp [ptF, hx], by simp [ptF, hy], by simp [ptF, hz]⟩
theorem there_ball {m : Msh} {i : Int} (h : thereF m i = true) (h2 : ¬ i < (m.ts.length : Int)) : ∃ (j : Nat) (hj : j < m.bs.length), i = (m.ts.length : Int) + (j : Int) ∧ ballAt m i = m.bs[j] := by
 unfold thereF at h
 split at h
 ·
  cases h
 ·
  rename_i h1
  obtain ⟨j, hj⟩ : ∃ j : Nat, (j : Int) = i - (m.ts.length : Int) := ⟨(i - (m.ts.length : Int)).toNat, by omega⟩
  have hl : j < m.bs.length := by omega
  exact ⟨j, hl, by omega, by unfold ballAt; rw [← hj]; simp [hl]⟩
set_option maxRecDepth 100000 in
set_option maxHeartbeats 16000000 in
theorem rshape_any (v : Value) (m : Msh) (w : World) (hm : IsMesh w v m) (ok : m.ok) (hl : m.ts.length + m.bs.length ≤ 9223372036854775807) (i : Int) (hi : In i) (r : Ry) (hr : r.ok) (least : Int) : Calls Tryz.prog 57 #[v, .int .i64 i, rayV r, .int .i64 least] w (VTo (shapeR (shapeF m i r least)) w) := by
 have CTH := Lib.hid (fun w2 (hb : Below w.heap.size w w2) => rthere_any v m w2 (hm.below hb) hl i hi)
 obtain ⟨a0, c0, a1, c1, a2, c2, rfl, h0, h1, h2, l0, l1, l2⟩ := hm.open_
 have HOK := Lib.hid ok
 have HRK := Lib.hid hr
 have HTB := Lib.hid hl
 have HIN := Lib.hid hi
 have HM0_ := Lib.hid hm
 have HPS0_ := Lib.hid h0
 have HTS0_ := Lib.hid h1
 have HBS0_ := Lib.hid h2
 have RS := Lib.hid (fun near => raised_any near)
 obtain ⟨⟨oX, oY, oZ⟩, ⟨dX, dY, dZ⟩⟩ := r
 dsimp only [rayV] at *
 obtain ⟨hA, hB_, hC, hD, hB0⟩ := al4 w (.cells #[.slice a0 m.ps.length c0, .slice a1 m.ts.length c1, .slice a2 m.bs.length c2] 31) (.cells #[.int .i64 oX, .int .i64 oY, .int .i64 oZ, .int .i64 dX, .int .i64 dY, .int .i64 dZ] 48) (.cells #[.int .i64 0, .int .i64 0, .int .i64 0, .int .i64 0] 42) (.cells #[.int .i64 0, .int .i64 (-1), .int .i64 0, .int .i64 0] 42)
 obtain ⟨W, hW⟩ : ∃ ww, ww = (((w.alloc (.cells #[.slice a0 m.ps.length c0, .slice a1 m.ts.length c1, .slice a2 m.bs.length c2] 31)).alloc (.cells #[.int .i64 oX, .int .i64 oY, .int .i64 oZ, .int .i64 dX, .int .i64 dY, .int .i64 dZ] 48)).alloc (.cells #[.int .i64 0, .int .i64 0, .int .i64 0, .int .i64 0] 42)).alloc (.cells #[.int .i64 0, .int .i64 (-1), .int .i64 0, .int .i64 0] 42) := ⟨_, rfl⟩
 rw [← hW] at hA hB_ hC hD hB0
 have HR0 := Lib.hid hA
 have HY0 := Lib.hid hB_
 have HZ0 := Lib.hid hC
 have HN0 := Lib.hid hD
 have HB0 := Lib.hid hB0
 have HM0 := Lib.hid (HM0_.out.below hB0)
 have HWW := Lib.hid hW
 clear hA hB_ hC hD hB0 hW hm h0 h1 h2 HM0_ l0 l1 l2 ok hr
 obtain ⟨res, hres⟩ : ∃ zz, zz = shapeF m i ⟨⟨oX, oY, oZ⟩, ⟨dX, dY, dZ⟩⟩ least := ⟨_, rfl⟩
 rw [← hres]
 cases hth : thereF m i
 ·
  have hr0 : res = none := by rw [hres, there_not hth]
  subst hr0
  clear hres
  rw [hth] at CTH
  clear hth
  go_enter Tryz.func57, Tryz.ntmps57
  go_upto_region 2 with (fail)
  rw [← HWW.out]
  clear HWW
  have cHR0 := cell_row HR0.out 0 _ rfl
  have cHR1 := cell_row HR0.out 1 _ rfl
  have cHR2 := cell_row HR0.out 2 _ rfl
  go_wp2_with fail
  refine (CTH.out _ HB0.out).mono ?_
  rintro e y1 ⟨rfl, hb⟩
  have HR1 := Lib.hid (vec_step HR0.out hb)
  have HY1 := Lib.hid (vec_step HY0.out hb)
  have HZ1 := Lib.hid (vec_step HZ0.out hb)
  have HN1 := Lib.hid (vec_step HN0.out hb)
  have HB1 := Lib.hid (HB0.out.trans (hb.mono HB0.out.size))
  have HM1 := Lib.hid (HM0.out.below hb)
  clear HR0 HY0 HZ0 HN0 HB0 HM0 hb cHR0 cHR1 cHR2 CTH
  have cHN0 := cell_row HN1.out 0 _ rfl
  have cHN1 := cell_row HN1.out 1 _ rfl
  have cHN2 := cell_row HN1.out 2 _ rfl
  have cHN3 := cell_row HN1.out 3 _ rfl
  go_wp2_with (with_reducible refine store_hit rfl (.tmp 8) (.tmp 23) rfl rfl (w.heap.size + 1 + 1) 0 (-1) 0 0 rfl rfl _ HZ1.out rfl ?_)
  refine bodyPost_ret (results_row_tmp rfl _ _ _ (w.heap.size + 1 + 1) 42 _ _ _ rfl (setRow_heap _ _ _ _ _ _ HZ1.out) Tryz.underlying42 hit_size) rfl ?_
  exact ⟨rfl, below_setRow HB1.out (by omega) _⟩
 ·
  have HTH := Lib.hid hth
  rw [there_is hth] at hres
  cases hbn : boxH ⟨⟨oX, oY, oZ⟩, ⟨dX, dY, dZ⟩⟩ (boxF m i)
  ·
   have hr0 : res = none := by rw [hres, hbn]; rfl
   subst hr0
   clear hres
   rw [hth] at CTH
   clear hth
   go_enter Tryz.func57, Tryz.ntmps57
   go_upto_region 2 with (fail)
   rw [← HWW.out]
   clear HWW
   have cHR0 := cell_row HR0.out 0 _ rfl
   have cHR1 := cell_row HR0.out 1 _ rfl
   have cHR2 := cell_row HR0.out 2 _ rfl
   go_wp2_with fail
   refine (CTH.out _ HB0.out).mono ?_
   rintro e y2 ⟨rfl, hb⟩
   have HR1 := Lib.hid (vec_step HR0.out hb)
   have HY1 := Lib.hid (vec_step HY0.out hb)
   have HZ1 := Lib.hid (vec_step HZ0.out hb)
   have HN1 := Lib.hid (vec_step HN0.out hb)
   have HB1 := Lib.hid (HB0.out.trans (hb.mono HB0.out.size))
   have HM1 := Lib.hid (HM0.out.below hb)
   clear HR0 HY0 HZ0 HN0 HB0 HM0 hb cHR0 cHR1 cHR2 CTH
   go_upto_region 4 with (fail)
   obtain ⟨⟨⟨p1, p2, p3⟩, ⟨p4, p5, p6⟩⟩, hbx⟩ : ∃ zz, zz = boxF m i := ⟨_, rfl⟩
   have okb := ok_box m HOK.out i
   rw [← hbx] at okb
   have Q1 := Lib.hid (qb (P := Tryz.prog) (W := y2) (v := .agg #[.int .i64 p1, .int .i64 p2, .int .i64 p3, .int .i64 p4, .int .i64 p5, .int .i64 p6]) (fun w2 hb => by have := rbox_any _ m w2 (HM1.out.below hb) HOK.out HTB.out i HIN.out; rw [← hbx] at this; exact this))
   have Q2 := Lib.hid (qb (P := Tryz.prog) (W := y2) (fun w2 hb => rhbox_any ⟨⟨oX, oY, oZ⟩, ⟨dX, dY, dZ⟩⟩ ⟨⟨p1, p2, p3⟩, ⟨p4, p5, p6⟩⟩ HRK.out okb w2))
   have hbn2 := hbn
   rw [← hbx] at hbn2
   rw [hbn2] at Q2
   unfold boxR at Q2
   clear hbn2
   dsimp only [rayV, boxV, Option.getD_some, Option.getD_none, Option.isSome_some, Option.isSome_none] at Q2
   clear okb
   have fHR0 := fun d os => cell_regrown (cell_row HR1.out 0 _ rfl) d os
   have fHR1 := fun d os => cell_regrown (cell_row HR1.out 1 _ rfl) d os
   have fHR2 := fun d os => cell_regrown (cell_row HR1.out 2 _ rfl) d os
   have fHY0 := fun d os => cell_regrown (cell_row HY1.out 0 _ rfl) d os
   have fHY1 := fun d os => cell_regrown (cell_row HY1.out 1 _ rfl) d os
   have fHY2 := fun d os => cell_regrown (cell_row HY1.out 2 _ rfl) d os
   have fHY3 := fun d os => cell_regrown (cell_row HY1.out 3 _ rfl) d os
   have fHY4 := fun d os => cell_regrown (cell_row HY1.out 4 _ rfl) d os
   have fHY5 := fun d os => cell_regrown (cell_row HY1.out 5 _ rfl) d os
   refine wp_region_quiet_below (by kernel_rfl) (by kernel_rfl) ?_
   repeat (go_big_quiet_step (first | (with_reducible exact Q1.out _ _) | (with_reducible exact Q2.out _ _)))
   refine wpQuiet_nil ?_
   first | (rintro _ ⟨⟨dq, osq⟩, rfl⟩) | (rintro ⟨dq, osq⟩)
   have hb := below_regrown y2 dq osq
   obtain ⟨y3, hW⟩ : ∃ ww, ww = grow (redrawn y2 dq) osq := ⟨_, rfl⟩
   rw [← hW] at hb ⊢
   clear hW
   have HR2 := Lib.hid (vec_step HR1.out hb)
   have HY2 := Lib.hid (vec_step HY1.out hb)
   have HZ2 := Lib.hid (vec_step HZ1.out hb)
   have HN2 := Lib.hid (vec_step HN1.out hb)
   have HB2 := Lib.hid (HB1.out.trans (hb.mono HB1.out.size))
   have HM2 := Lib.hid (HM1.out.below hb)
   clear HR1 HY1 HZ1 HN1 HB1 HM1 hb  fHR0 fHR1 fHR2 fHY0 fHY1 fHY2 fHY3 fHY4 fHY5
   clear Q1 Q2
   have cHN0 := cell_row HN2.out 0 _ rfl
   have cHN1 := cell_row HN2.out 1 _ rfl
   have cHN2 := cell_row HN2.out 2 _ rfl
   have cHN3 := cell_row HN2.out 3 _ rfl
   go_wp2_with (with_reducible refine store_hit rfl (.tmp 8) (.tmp 34) rfl rfl (w.heap.size + 1 + 1) 0 (-1) 0 0 rfl rfl _ HZ2.out rfl ?_)
   refine bodyPost_ret (results_row_tmp rfl _ _ _ (w.heap.size + 1 + 1) 42 _ _ _ rfl (setRow_heap _ _ _ _ _ _ HZ2.out) Tryz.underlying42 hit_size) rfl ?_
   exact ⟨rfl, below_setRow HB2.out (by omega) _⟩
  ·
   rename_i near
   rw [hbn, Option.bind_some] at hres
   by_cases h2 : i < (m.ts.length : Int)
   ·
    obtain ⟨j, x, y, z, hj, hx, hy, hz, rfl, ht, hg, e1, e2, e3⟩ := there_tri hth h2
    simp only [if_pos h2] at hres
    rw [hg] at hres
    dsimp only at hres
    rw [e1, e2, e3] at hres
    clear hg e1 e2 e3
    have d2 : decide ((j : Int) < (m.ts.length : Int)) = true := decide_eq_true h2
    have dj : decide (j < m.ts.length) = true := decide_eq_true hj
    have HJ := Lib.hid ht
    clear ht h2
    obtain ⟨⟨paX, paY, paZ⟩, hpa⟩ : ∃ zz, zz = m.ps[x] := ⟨_, rfl⟩
    have okpa : (⟨paX, paY, paZ⟩ : V3).ok := by have := HOK.out.ps m.ps[x] (List.getElem_mem hx); rw [← hpa] at this; exact this
    obtain ⟨⟨pbX, pbY, pbZ⟩, hpb⟩ : ∃ zz, zz = m.ps[y] := ⟨_, rfl⟩
    have okpb : (⟨pbX, pbY, pbZ⟩ : V3).ok := by have := HOK.out.ps m.ps[y] (List.getElem_mem hy); rw [← hpb] at this; exact this
    obtain ⟨⟨pcX, pcY, pcZ⟩, hpc⟩ : ∃ zz, zz = m.ps[z] := ⟨_, rfl⟩
    have okpc : (⟨pcX, pcY, pcZ⟩ : V3).ok := by have := HOK.out.ps m.ps[z] (List.getElem_mem hz); rw [← hpc] at this; exact this
    rw [← hpa, ← hpb, ← hpc] at hres
    have HPpa := Lib.hid hpa
    have HPpb := Lib.hid hpb
    have HPpc := Lib.hid hpc
    have DX := Lib.hid hx
    have DY := Lib.hid hy
    have DZ := Lib.hid hz
    have CTR := Lib.hid (fun w2 => rtri_any ⟨⟨oX, oY, oZ⟩, ⟨dX, dY, dZ⟩⟩ ⟨paX, paY, paZ⟩ ⟨pbX, pbY, pbZ⟩ ⟨pcX, pcY, pcZ⟩ HRK.out okpa okpb okpc w2)
    obtain ⟨tr, htr⟩ : ∃ zz, zz = triH ⟨⟨oX, oY, oZ⟩, ⟨dX, dY, dZ⟩⟩ ⟨paX, paY, paZ⟩ ⟨pbX, pbY, pbZ⟩ ⟨pcX, pcY, pcZ⟩ := ⟨_, rfl⟩
    rw [← htr] at CTR hres
    unfold triR at CTR
    obtain ⟨⟨ht, hi_, hu, hv⟩, hgd⟩ : ∃ zz, zz = tr.getD ht0 := ⟨_, rfl⟩
    obtain ⟨tk, htk⟩ : ∃ zz, zz = tr.isSome := ⟨_, rfl⟩
    rw [← hgd, ← htk] at CTR
    dsimp only [rayV, vecV, hitV] at CTR
    obtain ⟨mx, hmx⟩ : ∃ zz, zz = maxI ht near := ⟨_, rfl⟩
    have HPK : Hid (res = if tk = true then (if mx < least then none else some ⟨mx, (j : Int), hu, hv⟩) else none) := Lib.hid (by rw [hres]; cases tr with | none => rw [htk]; rfl | some h => rw [htk, hmx]; simp only [Option.getD_some] at hgd; rw [← hgd]; rfl)
    have CRS : Hid (∀ w, Calls Tryz.prog 81 #[.int .i64 ht, .int .i64 near] w (fun e w' => e = .returned (.int .i64 mx) ∧ w = w')) := Lib.hid (fun w => by have := raised_any ht near w; rw [← hmx] at this; exact this)
    clear hres htr hgd htk hmx hpa hpb hpc okpa okpb okpc HTH
    rw [hth] at CTH
    clear hth
    go_enter Tryz.func57, Tryz.ntmps57
    go_upto_region 2 with (fail)
    rw [← HWW.out]
    clear HWW
    have cHR0 := cell_row HR0.out 0 _ rfl
    have cHR1 := cell_row HR0.out 1 _ rfl
    have cHR2 := cell_row HR0.out 2 _ rfl
    go_wp2_with fail
    refine (CTH.out _ HB0.out).mono ?_
    rintro e y4 ⟨rfl, hb⟩
    have HR1 := Lib.hid (vec_step HR0.out hb)
    have HY1 := Lib.hid (vec_step HY0.out hb)
    have HZ1 := Lib.hid (vec_step HZ0.out hb)
    have HN1 := Lib.hid (vec_step HN0.out hb)
    have HB1 := Lib.hid (HB0.out.trans (hb.mono HB0.out.size))
    have HM1 := Lib.hid (HM0.out.below hb)
    clear HR0 HY0 HZ0 HN0 HB0 HM0 hb cHR0 cHR1 cHR2 CTH
    go_upto_region 4 with (fail)
    obtain ⟨⟨⟨p1, p2, p3⟩, ⟨p4, p5, p6⟩⟩, hbx⟩ : ∃ zz, zz = boxF m (j : Int) := ⟨_, rfl⟩
    have okb := ok_box m HOK.out (j : Int)
    rw [← hbx] at okb
    have Q1 := Lib.hid (qb (P := Tryz.prog) (W := y4) (v := .agg #[.int .i64 p1, .int .i64 p2, .int .i64 p3, .int .i64 p4, .int .i64 p5, .int .i64 p6]) (fun w2 hb => by have := rbox_any _ m w2 (HM1.out.below hb) HOK.out HTB.out (j : Int) HIN.out; rw [← hbx] at this; exact this))
    have Q2 := Lib.hid (qb (P := Tryz.prog) (W := y4) (fun w2 hb => rhbox_any ⟨⟨oX, oY, oZ⟩, ⟨dX, dY, dZ⟩⟩ ⟨⟨p1, p2, p3⟩, ⟨p4, p5, p6⟩⟩ HRK.out okb w2))
    have hbn2 := hbn
    rw [← hbx] at hbn2
    rw [hbn2] at Q2
    unfold boxR at Q2
    clear hbn2
    dsimp only [rayV, boxV, Option.getD_some, Option.getD_none, Option.isSome_some, Option.isSome_none] at Q2
    clear okb
    have fHR0 := fun d os => cell_regrown (cell_row HR1.out 0 _ rfl) d os
    have fHR1 := fun d os => cell_regrown (cell_row HR1.out 1 _ rfl) d os
    have fHR2 := fun d os => cell_regrown (cell_row HR1.out 2 _ rfl) d os
    have fHY0 := fun d os => cell_regrown (cell_row HY1.out 0 _ rfl) d os
    have fHY1 := fun d os => cell_regrown (cell_row HY1.out 1 _ rfl) d os
    have fHY2 := fun d os => cell_regrown (cell_row HY1.out 2 _ rfl) d os
    have fHY3 := fun d os => cell_regrown (cell_row HY1.out 3 _ rfl) d os
    have fHY4 := fun d os => cell_regrown (cell_row HY1.out 4 _ rfl) d os
    have fHY5 := fun d os => cell_regrown (cell_row HY1.out 5 _ rfl) d os
    refine wp_region_quiet_below (by kernel_rfl) (by kernel_rfl) ?_
    repeat (go_big_quiet_step (first | (with_reducible exact Q1.out _ _) | (with_reducible exact Q2.out _ _)))
    refine wpQuiet_nil ?_
    first | (rintro _ ⟨⟨dq, osq⟩, rfl⟩) | (rintro ⟨dq, osq⟩)
    have hb := below_regrown y4 dq osq
    obtain ⟨y5, hW⟩ : ∃ ww, ww = grow (redrawn y4 dq) osq := ⟨_, rfl⟩
    rw [← hW] at hb ⊢
    clear hW
    have HR2 := Lib.hid (vec_step HR1.out hb)
    have HY2 := Lib.hid (vec_step HY1.out hb)
    have HZ2 := Lib.hid (vec_step HZ1.out hb)
    have HN2 := Lib.hid (vec_step HN1.out hb)
    have HB2 := Lib.hid (HB1.out.trans (hb.mono HB1.out.size))
    have HM2 := Lib.hid (HM1.out.below hb)
    clear HR1 HY1 HZ1 HN1 HB1 HM1 hb  fHR0 fHR1 fHR2 fHY0 fHY1 fHY2 fHY3 fHY4 fHY5
    clear Q1 Q2
    have cHR1 := cell_row HR2.out 1 _ rfl
    obtain ⟨b, off, e, hbl, p0_, p1_, p2_⟩ := at3 (HTS0_.out.below HB2.out (Nat.le_refl _)) j hj
    subst e
    rw [HJ.out] at p0_ p1_ p2_
    dsimp only at p0_ p1_ p2_
    clear hbl
    go_upto_region 9 with (fail)
    clear cHR1
    have hx := ext_alloc y5 (.cells #[.int .i64 (x : Int), .int .i64 (y : Int), .int .i64 (z : Int)] 52)
    have hn := heap_alloc_new y5 (.cells #[.int .i64 (x : Int), .int .i64 (y : Int), .int .i64 (z : Int)] 52)
    obtain ⟨y6, hW⟩ : ∃ ww, ww = y5.alloc (.cells #[.int .i64 (x : Int), .int .i64 (y : Int), .int .i64 (z : Int)] 52) := ⟨_, rfl⟩
    rw [← hW] at hx hn ⊢
    clear hW
    have HR3 := Lib.hid (vec_step HR2.out hx)
    have HY3 := Lib.hid (vec_step HY2.out hx)
    have HZ3 := Lib.hid (vec_step HZ2.out hx)
    have HN3 := Lib.hid (vec_step HN2.out hx)
    have HB3 := Lib.hid (HB2.out.trans (hx.mono HB2.out.size))
    have HM3 := Lib.hid (HM2.out.below hx)
    clear HR2 HY2 HZ2 HN2 HB2 HM2 hx  
    have HT3 := Lib.hid (hn)
    clear hn
    generalize y5.heap.size = gHT at HT3 ⊢
    clear p0_ p1_ p2_
    have K0 := Lib.hid (fun W9 (hb : Below y6.heap.size y6 W9) => cell_all (vec_step HR3.out hb) 0 _ rfl)
    have KT := Lib.hid (fun W9 (hb : Below y6.heap.size y6 W9) => cells3 (vec_step HT3.out hb))
    have KY := Lib.hid (fun W9 (hb : Below y6.heap.size y6 W9) => vec_step HY3.out hb)
    have hps4 := HPS0_.out.below HB3.out (Nat.le_refl _)
    obtain ⟨b4, off4, e4, hb4_, -, -, -⟩ := at3 hps4 x DX.out
    subst e4
    have HPS4 := Lib.hid hps4
    clear hps4 hb4_
    have Kpa : Hid (∀ W9, Below y6.heap.size y6 W9 → (∀ d os, (grow (redrawn W9 d) os).cell? ⟨b4, off4 + x * 3, none⟩ = some (.int .i64 paX)) ∧ (∀ d os, (grow (redrawn W9 d) os).cell? ⟨b4, off4 + x * 3 + 1, none⟩ = some (.int .i64 paY)) ∧ (∀ d os, (grow (redrawn W9 d) os).cell? ⟨b4, off4 + x * 3 + 2, none⟩ = some (.int .i64 paZ))) := by
     refine Lib.hid (fun W9 hb => ?_)
     obtain ⟨b5, off5, e5, _, q0, q1, q2⟩ := at3 (HPS4.out.below hb (Nat.le_refl _)) x DX.out
     simp only [Option.some.injEq, Addr.mk.injEq, and_true] at e5
     obtain ⟨rfl, rfl⟩ := e5
     rw [← HPpa.out] at q0 q1 q2
     exact ⟨fun d os => cell_regrown q0 d os, fun d os => cell_regrown q1 d os, fun d os => cell_regrown q2 d os⟩
    have Kpb : Hid (∀ W9, Below y6.heap.size y6 W9 → (∀ d os, (grow (redrawn W9 d) os).cell? ⟨b4, off4 + y * 3, none⟩ = some (.int .i64 pbX)) ∧ (∀ d os, (grow (redrawn W9 d) os).cell? ⟨b4, off4 + y * 3 + 1, none⟩ = some (.int .i64 pbY)) ∧ (∀ d os, (grow (redrawn W9 d) os).cell? ⟨b4, off4 + y * 3 + 2, none⟩ = some (.int .i64 pbZ))) := by
     refine Lib.hid (fun W9 hb => ?_)
     obtain ⟨b5, off5, e5, _, q0, q1, q2⟩ := at3 (HPS4.out.below hb (Nat.le_refl _)) y DY.out
     simp only [Option.some.injEq, Addr.mk.injEq, and_true] at e5
     obtain ⟨rfl, rfl⟩ := e5
     rw [← HPpb.out] at q0 q1 q2
     exact ⟨fun d os => cell_regrown q0 d os, fun d os => cell_regrown q1 d os, fun d os => cell_regrown q2 d os⟩
    have Kpc : Hid (∀ W9, Below y6.heap.size y6 W9 → (∀ d os, (grow (redrawn W9 d) os).cell? ⟨b4, off4 + z * 3, none⟩ = some (.int .i64 pcX)) ∧ (∀ d os, (grow (redrawn W9 d) os).cell? ⟨b4, off4 + z * 3 + 1, none⟩ = some (.int .i64 pcY)) ∧ (∀ d os, (grow (redrawn W9 d) os).cell? ⟨b4, off4 + z * 3 + 2, none⟩ = some (.int .i64 pcZ))) := by
     refine Lib.hid (fun W9 hb => ?_)
     obtain ⟨b5, off5, e5, _, q0, q1, q2⟩ := at3 (HPS4.out.below hb (Nat.le_refl _)) z DZ.out
     simp only [Option.some.injEq, Addr.mk.injEq, and_true] at e5
     obtain ⟨rfl, rfl⟩ := e5
     rw [← HPpc.out] at q0 q1 q2
     exact ⟨fun d os => cell_regrown q0 d os, fun d os => cell_regrown q1 d os, fun d os => cell_regrown q2 d os⟩
    clear HPS4 HPpa HPpb HPpc
    have QA := Lib.hid (fun W => qb (P := Tryz.prog) (W := W) (fun w2 _ => CTR.out w2))
    refine wp_region_free 137 [0, 1, 2, 3, 4, 5, 6, 7, 8, 9, 10, 11, 12, 13, 14, 15, 16, 17, 18, 19, 20, 21, 22, 25] [⟨23, 14, #[.int .i64 0, .int .i64 0, .int .i64 0, .int .i64 0], 42, 24, 66, #[.int .i64 ht, .int .i64 hi_, .int .i64 hu, .int .i64 hv]⟩] (by kernel_rfl) rfl (by kernel_rfl) (by
     intro x hx
     simp only [List.mem_cons, List.not_mem_nil, or_false] at hx
     subst hx
     exact ⟨⟨_, rfl, ⟨⟨_, rfl, alloc_hitR⟩, rfl, rfl⟩⟩, _, rfl, ⟨⟨_, rfl, hit_size⟩, rfl, rfl, rfl, row_one4 _ _ _ _⟩⟩) ?_
    refine Walk.step (A := ?A0) (o := ?o0) ?e0 ?w0 46 ?d0 (by simp) ?h0 ?n0
    case e0 => simp only [List.getElem?_toArray, List.getElem?_cons_succ, List.getElem?_cons_zero]; exact rfl
    case w0 => exact rfl
    case d0 => exact rfl
    case h0 =>
     intro W9 hW9
     have z0 := cell_all (KY.out W9 hW9) 0 _ rfl
     have z1 := cell_all (KY.out W9 hW9) 1 _ rfl
     have z2 := cell_all (KY.out W9 hW9) 2 _ rfl
     have z3 := cell_all (KY.out W9 hW9) 3 _ rfl
     have z4 := cell_all (KY.out W9 hW9) 4 _ rfl
     have z5 := cell_all (KY.out W9 hW9) 5 _ rfl
     go_big_quiet_op
     exact rfl
    refine Walk.step (A := ?A1) (o := ?o1) ?e1 ?w1 47 ?d1 (by simp) ?h1 ?n1
    case e1 => simp only [List.getElem?_toArray, List.getElem?_cons_succ, List.getElem?_cons_zero]; exact rfl
    case w1 => exact rfl
    case d1 => exact rfl
    case h1 =>
     intro W9 hW9
     go_big_quiet_op
     exact rfl
    refine Walk.step (A := ?A2) (o := ?o2) ?e2 ?w2 48 ?d2 (by simp) ?h2 ?n2
    case e2 => simp only [List.getElem?_toArray, List.getElem?_cons_succ, List.getElem?_cons_zero]; exact rfl
    case w2 => exact rfl
    case d2 => exact rfl
    case h2 =>
     intro W9 hW9
     have z0 := K0.out W9 hW9
     go_big_quiet_op
     exact rfl
    refine Walk.step (A := ?A3) (o := ?o3) ?e3 ?w3 49 ?d3 (by simp) ?h3 ?n3
    case e3 => simp only [List.getElem?_toArray, List.getElem?_cons_succ, List.getElem?_cons_zero]; exact rfl
    case w3 => exact rfl
    case d3 => exact rfl
    case h3 =>
     intro W9 hW9
     go_big_quiet_op
     exact rfl
    refine Walk.step (A := ?A4) (o := ?o4) ?e4 ?w4 50 ?d4 (by simp) ?h4 ?n4
    case e4 => simp only [List.getElem?_toArray, List.getElem?_cons_succ, List.getElem?_cons_zero]; exact rfl
    case w4 => exact rfl
    case d4 => exact rfl
    case h4 =>
     intro W9 hW9
     obtain ⟨z0, z1, z2⟩ := KT.out W9 hW9
     go_big_quiet_op
     exact rfl
    refine Walk.step (A := ?A5) (o := ?o5) ?e5 ?w5 51 ?d5 (by simp) ?h5 ?n5
    case e5 => simp only [List.getElem?_toArray, List.getElem?_cons_succ, List.getElem?_cons_zero]; exact rfl
    case w5 => exact rfl
    case d5 => exact rfl
    case h5 =>
     intro W9 hW9
     have z0 := DX.out
     go_big_quiet_op
     exact rfl
    refine Walk.step (A := ?A6) (o := ?o6) ?e6 ?w6 52 ?d6 (by simp) ?h6 ?n6
    case e6 => simp only [List.getElem?_toArray, List.getElem?_cons_succ, List.getElem?_cons_zero]; exact rfl
    case w6 => exact rfl
    case d6 => exact rfl
    case h6 =>
     intro W9 hW9
     obtain ⟨z0, z1, z2⟩ := Kpa.out W9 hW9
     go_big_quiet_op
     exact rfl
    refine Walk.step (A := ?A7) (o := ?o7) ?e7 ?w7 53 ?d7 (by simp) ?h7 ?n7
    case e7 => simp only [List.getElem?_toArray, List.getElem?_cons_succ, List.getElem?_cons_zero]; exact rfl
    case w7 => exact rfl
    case d7 => exact rfl
    case h7 =>
     intro W9 hW9
     go_big_quiet_op
     exact rfl
    refine Walk.step (A := ?A8) (o := ?o8) ?e8 ?w8 54 ?d8 (by simp) ?h8 ?n8
    case e8 => simp only [List.getElem?_toArray, List.getElem?_cons_succ, List.getElem?_cons_zero]; exact rfl
    case w8 => exact rfl
    case d8 => exact rfl
    case h8 =>
     intro W9 hW9
     have z0 := K0.out W9 hW9
     go_big_quiet_op
     exact rfl
    refine Walk.step (A := ?A9) (o := ?o9) ?e9 ?w9 55 ?d9 (by simp) ?h9 ?n9
    case e9 => simp only [List.getElem?_toArray, List.getElem?_cons_succ, List.getElem?_cons_zero]; exact rfl
    case w9 => exact rfl
    case d9 => exact rfl
    case h9 =>
     intro W9 hW9
     go_big_quiet_op
     exact rfl
    refine Walk.step (A := ?A10) (o := ?o10) ?e10 ?w10 56 ?d10 (by simp) ?h10 ?n10
    case e10 => simp only [List.getElem?_toArray, List.getElem?_cons_succ, List.getElem?_cons_zero]; exact rfl
    case w10 => exact rfl
    case d10 => exact rfl
    case h10 =>
     intro W9 hW9
     obtain ⟨z0, z1, z2⟩ := KT.out W9 hW9
     go_big_quiet_op
     exact rfl
    refine Walk.step (A := ?A11) (o := ?o11) ?e11 ?w11 57 ?d11 (by simp) ?h11 ?n11
    case e11 => simp only [List.getElem?_toArray, List.getElem?_cons_succ, List.getElem?_cons_zero]; exact rfl
    case w11 => exact rfl
    case d11 => exact rfl
    case h11 =>
     intro W9 hW9
     have z0 := DY.out
     go_big_quiet_op
     exact rfl
    refine Walk.step (A := ?A12) (o := ?o12) ?e12 ?w12 58 ?d12 (by simp) ?h12 ?n12
    case e12 => simp only [List.getElem?_toArray, List.getElem?_cons_succ, List.getElem?_cons_zero]; exact rfl
    case w12 => exact rfl
    case d12 => exact rfl
    case h12 =>
     intro W9 hW9
     obtain ⟨z0, z1, z2⟩ := Kpb.out W9 hW9
     go_big_quiet_op
     exact rfl
    refine Walk.step (A := ?A13) (o := ?o13) ?e13 ?w13 59 ?d13 (by simp) ?h13 ?n13
    case e13 => simp only [List.getElem?_toArray, List.getElem?_cons_succ, List.getElem?_cons_zero]; exact rfl
    case w13 => exact rfl
    case d13 => exact rfl
    case h13 =>
     intro W9 hW9
     go_big_quiet_op
     exact rfl
    refine Walk.step (A := ?A14) (o := ?o14) ?e14 ?w14 60 ?d14 (by simp) ?h14 ?n14
    case e14 => simp only [List.getElem?_toArray, List.getElem?_cons_succ, List.getElem?_cons_zero]; exact rfl
    case w14 => exact rfl
    case d14 => exact rfl
    case h14 =>
     intro W9 hW9
     have z0 := K0.out W9 hW9
     go_big_quiet_op
     exact rfl
    refine Walk.step (A := ?A15) (o := ?o15) ?e15 ?w15 61 ?d15 (by simp) ?h15 ?n15
    case e15 => simp only [List.getElem?_toArray, List.getElem?_cons_succ, List.getElem?_cons_zero]; exact rfl
    case w15 => exact rfl
    case d15 => exact rfl
    case h15 =>
     intro W9 hW9
     go_big_quiet_op
     exact rfl
    refine Walk.step (A := ?A16) (o := ?o16) ?e16 ?w16 62 ?d16 (by simp) ?h16 ?n16
    case e16 => simp only [List.getElem?_toArray, List.getElem?_cons_succ, List.getElem?_cons_zero]; exact rfl
    case w16 => exact rfl
    case d16 => exact rfl
    case h16 =>
     intro W9 hW9
     obtain ⟨z0, z1, z2⟩ := KT.out W9 hW9
     go_big_quiet_op
     exact rfl
    refine Walk.step (A := ?A17) (o := ?o17) ?e17 ?w17 63 ?d17 (by simp) ?h17 ?n17
    case e17 => simp only [List.getElem?_toArray, List.getElem?_cons_succ, List.getElem?_cons_zero]; exact rfl
    case w17 => exact rfl
    case d17 => exact rfl
    case h17 =>
     intro W9 hW9
     have z0 := DZ.out
     go_big_quiet_op
     exact rfl
    refine Walk.step (A := ?A18) (o := ?o18) ?e18 ?w18 64 ?d18 (by simp) ?h18 ?n18
    case e18 => simp only [List.getElem?_toArray, List.getElem?_cons_succ, List.getElem?_cons_zero]; exact rfl
    case w18 => exact rfl
    case d18 => exact rfl
    case h18 =>
     intro W9 hW9
     obtain ⟨z0, z1, z2⟩ := Kpc.out W9 hW9
     go_big_quiet_op
     exact rfl
    refine Walk.step (A := ?A19) (o := ?o19) ?e19 ?w19 65 ?d19 (by simp) ?h19 ?n19
    case e19 => simp only [List.getElem?_toArray, List.getElem?_cons_succ, List.getElem?_cons_zero]; exact rfl
    case w19 => exact rfl
    case d19 => exact rfl
    case h19 =>
     intro W9 hW9
     go_big_quiet_op
     apply Exists.intro
     refine ⟨fun _ => ?_, ?_⟩
     ·
      with_reducible exact QA.out _ _ _
     exact rfl
    refine Walk.step (A := ?A20) (o := ?o20) ?e20 ?w20 45 ?d20 (by simp) ?h20 ?n20
    case e20 => simp only [List.getElem?_toArray, List.getElem?_cons_succ, List.getElem?_cons_zero]; exact rfl
    case w20 => exact rfl
    case d20 => exact rfl
    case h20 =>
     intro W9 hW9
     go_big_quiet_op
     exact rfl
    refine Walk.step (A := ?A21) (o := ?o21) ?e21 ?w21 66 ?d21 (by simp) ?h21 ?n21
    case e21 => simp only [List.getElem?_toArray, List.getElem?_cons_succ, List.getElem?_cons_zero]; exact rfl
    case w21 => exact rfl
    case d21 => exact rfl
    case h21 =>
     intro W9 hW9
     go_big_quiet_op
     exact rfl
    refine Walk.step (A := ?A22) (o := ?o22) ?e22 ?w22 67 ?d22 (by simp) ?h22 ?n22
    case e22 => simp only [List.getElem?_toArray, List.getElem?_cons_succ, List.getElem?_cons_zero]; exact rfl
    case w22 => exact rfl
    case d22 => exact rfl
    case h22 =>
     intro W9 hW9
     go_big_quiet_op
     exact rfl
    refine Walk.step (A := ?A25) (o := ?o25) ?e25 ?w25 15 ?d25 (by simp) ?h25 ?n25
    case e25 => simp only [List.getElem?_toArray, List.getElem?_cons_succ, List.getElem?_cons_zero]; exact rfl
    case w25 => exact rfl
    case d25 => exact rfl
    case h25 =>
     intro W9 hW9
     go_big_quiet_op
     exact rfl
    refine ⟨?_, ?_⟩
    ·
     intro x hx
     simp only [List.mem_cons, List.not_mem_nil, or_false] at hx
     subst hx
     rfl
    intro G hG hne y7 hb hk
    have k7 := hk _ (List.mem_cons_self ..)
    dsimp only at k7
    have kg : y6.heap.size ≤ G 23 := by first | exact hG _ (List.mem_cons_self ..) | exact hG ⟨23, 14, #[.int .i64 0, .int .i64 0, .int .i64 0, .int .i64 0], 42, 24, 66, #[.int .i64 ht, .int .i64 hi_, .int .i64 hu, .int .i64 hv]⟩ (List.mem_cons_self ..)
    have HGE := Lib.hid (show w.heap.size + 1 + 1 < G 23 from Nat.lt_of_lt_of_le (Base.lt_of_heap HZ3.out) kg)
    simp only [lay, Act.put, List.setIfInBounds_toArray, List.set_cons_succ, List.set_cons_zero, ptr]
    generalize G 23 = gHH at k7 HGE ⊢
    clear hG hne hk kg QA CTR K0 KT KY Kpa Kpb Kpc DX DY DZ
    clear HR3 HY3 HT3 HM3
    have HZ4 := Lib.hid (vec_step HZ3.out hb)
    have HN4 := Lib.hid (vec_step HN3.out hb)
    have HB4 := Lib.hid (HB3.out.trans (hb.mono HB3.out.size))
    clear HZ3 HN3 HB3 hb  
    have HH4 := Lib.hid (k7)
    clear k7
    cases tk
    ·
     have hr0 : res = none := HPK.out
     subst hr0
     clear HPK
     have cHN0 := cell_row HN4.out 0 _ rfl
     have cHN1 := cell_row HN4.out 1 _ rfl
     have cHN2 := cell_row HN4.out 2 _ rfl
     have cHN3 := cell_row HN4.out 3 _ rfl
     go_wp2_with (with_reducible refine store_hit rfl (.tmp 8) (.tmp 78) rfl rfl (w.heap.size + 1 + 1) 0 (-1) 0 0 rfl rfl _ HZ4.out rfl ?_)
     refine bodyPost_ret (results_row_tmp rfl _ _ _ (w.heap.size + 1 + 1) 42 _ _ _ rfl (setRow_heap _ _ _ _ _ _ HZ4.out) Tryz.underlying42 hit_size) rfl ?_
     exact ⟨rfl, below_setRow HB4.out (by omega) _⟩
    ·
     have HPQ := Lib.hid (HPK.out.trans (if_pos rfl))
     clear HPK
     have cHH0 := cell_row HH4.out 0 _ rfl
     have cHH1 := cell_row HH4.out 1 _ rfl
     have cHH2 := cell_row HH4.out 2 _ rfl
     have cHH3 := cell_row HH4.out 3 _ rfl
     go_wp2_with fail
     refine (CRS.out _).mono ?_
     rintro e _ ⟨rfl, rfl⟩
     by_cases h3 : mx < least
     ·
      have d3 : decide (mx < least) = true := decide_eq_true h3
      have hr0 : res = none := by rw [HPQ.out, if_pos h3]
      subst hr0
      clear HPQ
      have cHN0 := cell_row HN4.out 0 _ rfl
      have cHN1 := cell_row HN4.out 1 _ rfl
      have cHN2 := cell_row HN4.out 2 _ rfl
      have cHN3 := cell_row HN4.out 3 _ rfl
      go_wp2_with (with_reducible refine store_hit rfl (.tmp 8) (.tmp 78) rfl rfl (w.heap.size + 1 + 1) 0 (-1) 0 0 rfl rfl _ HZ4.out rfl ?_)
      refine bodyPost_ret (results_row_tmp rfl _ _ _ (w.heap.size + 1 + 1) 42 _ _ _ rfl (setRow_heap _ _ _ _ _ _ HZ4.out) Tryz.underlying42 hit_size) rfl ?_
      exact ⟨rfl, below_setRow HB4.out (by omega) _⟩
     ·
      have d3 : decide (mx < least) = false := decide_eq_false h3
      have hr0 : res = some ⟨mx, (j : Int), hu, hv⟩ := by rw [HPQ.out, if_neg h3]
      subst hr0
      clear HPQ
      go_wp2_with fail
      refine (CRS.out _).mono ?_
      rintro e _ ⟨rfl, rfl⟩
      have t0 := frozen_of_row _ _ 0 _ _ HH4.out
      go_upto_region 13 with (fail)
      have HZ_ := Lib.hid ((heap_setCell_other y7 ⟨gHH, 0, none⟩ _ (.int .i64 mx) (show w.heap.size + 1 + 1 ≠ gHH by have := HGE.out; omega)).trans HZ4.out)
      have HH_ := Lib.hid (show (y7.setCell ⟨gHH, 0, none⟩ (.int .i64 mx)).heap[gHH]? = some (.cells #[.int .i64 mx, .int .i64 hi_, .int .i64 hu, .int .i64 hv] 42) from heap_setCell_same _ _ _ _ _ _ HH4.out)
      have HB_ := Lib.hid (setCell_below HB4.out (show w.heap.size ≤ gHH by have := HGE.out; omega) (.int .i64 mx) (j := 0))
      obtain ⟨W8, hW8⟩ : ∃ ww, ww = y7.setCell ⟨gHH, 0, none⟩ (.int .i64 mx) := ⟨_, rfl⟩
      rw [← hW8] at HZ_ HH_ HB_ ⊢
      clear hW8 t0 cHH0 cHH1 cHH2 cHH3 HZ4 HN4 HB4 HH4
      have q1 := cell_row HH_.out 1 (.int .i64 hi_) rfl
      have t1 := frozen_of_row _ _ 1 _ _ HH_.out
      go_upto_region 14 with (fail)
      have HZ91 := Lib.hid ((heap_setCell_other W8 ⟨gHH, 1, none⟩ _ (.int .i64 (j : Int)) (show w.heap.size + 1 + 1 ≠ gHH by have := HGE.out; omega)).trans HZ_.out)
      have HI_ := Lib.hid (show (W8.setCell ⟨gHH, 1, none⟩ (.int .i64 (j : Int))).heap[gHH]? = some (.cells #[.int .i64 mx, .int .i64 (j : Int), .int .i64 hu, .int .i64 hv] 42) from heap_setCell_same _ _ _ _ _ _ HH_.out)
      have HB91 := Lib.hid (setCell_below HB_.out (show w.heap.size ≤ gHH by have := HGE.out; omega) (.int .i64 (j : Int)) (j := 1))
      obtain ⟨W9, hW9⟩ : ∃ ww, ww = W8.setCell ⟨gHH, 1, none⟩ (.int .i64 (j : Int)) := ⟨_, rfl⟩
      rw [← hW9] at HZ91 HI_ HB91 ⊢
      clear hW9 q1 t1 HZ_ HH_ HB_
      have q0 := cell_row HI_.out 0 _ rfl
      have q1 := cell_row HI_.out 1 _ rfl
      have q2 := cell_row HI_.out 2 _ rfl
      have q3 := cell_row HI_.out 3 _ rfl
      go_wp2_with (with_reducible refine store_hit rfl (.tmp 8) (.tmp 86) rfl rfl (w.heap.size + 1 + 1) mx (j : Int) hu hv rfl rfl _ HZ91.out rfl ?_)
      refine bodyPost_ret (results_row_tmp rfl _ _ _ (w.heap.size + 1 + 1) 42 _ _ _ rfl (setRow_heap _ _ _ _ _ _ HZ91.out) Tryz.underlying42 hit_size) rfl ?_
      exact ⟨rfl, below_setRow HB91.out (by omega) _⟩
   ·
    obtain ⟨j, hj, hij, hba⟩ := there_ball hth h2
    simp only [if_neg h2] at hres
    have d2 : decide (i < (m.ts.length : Int)) = false := decide_eq_false h2
    have wr_ : IntKind.i64.wrap (i - (m.ts.length : Int)) = (j : Int) := by have := HIN.out; unfold In at this; rw [wrap_in (by omega) (by omega)]; omega
    have hjd : decide (j < m.bs.length) = true := decide_eq_true hj
    have hjd2 : decide ((j : Int) < (m.bs.length : Int)) = true := decide_eq_true (by omega)
    obtain ⟨⟨⟨bX, bY, bZ⟩, br⟩, hbj⟩ : ∃ zz, zz = m.bs[j] := ⟨_, rfl⟩
    have okj : (⟨bX, bY, bZ⟩ : V3).ok ∧ In br := by have := HOK.out.bs m.bs[j] (List.getElem_mem hj); rw [← hbj] at this; exact this
    rw [hba, ← hbj] at hres
    have HBJ := Lib.hid (fun h : j < m.bs.length => (hbj.symm : m.bs[j]'h = _))
    have CBL := Lib.hid (fun w2 => rball_any ⟨⟨oX, oY, oZ⟩, ⟨dX, dY, dZ⟩⟩ ⟨⟨bX, bY, bZ⟩, br⟩ HRK.out okj.1 okj.2 w2)
    obtain ⟨bl, hbl⟩ : ∃ zz, zz = ballH ⟨⟨oX, oY, oZ⟩, ⟨dX, dY, dZ⟩⟩ ⟨⟨bX, bY, bZ⟩, br⟩ := ⟨_, rfl⟩
    rw [← hbl] at CBL hres
    unfold ballR at CBL
    obtain ⟨⟨x, y⟩, hgd⟩ : ∃ zz, zz = bl.getD (0, 0) := ⟨_, rfl⟩
    obtain ⟨tk, htk⟩ : ∃ zz, zz = bl.isSome := ⟨_, rfl⟩
    rw [← hgd, ← htk] at CBL
    dsimp only [rayV] at CBL
    obtain ⟨mx, hmx⟩ : ∃ zz, zz = maxI x near := ⟨_, rfl⟩
    obtain ⟨my, hmy⟩ : ∃ zz, zz = maxI y near := ⟨_, rfl⟩
    have HPK : Hid (res = if tk = true then (if 0 ≤ x ∧ least ≤ mx then some ⟨mx, i, 0, 0⟩ else if 0 ≤ y ∧ least ≤ my then some ⟨my, i, 0, 0⟩ else none) else none) := Lib.hid (by rw [hres]; cases bl with | none => rw [htk]; rfl | some h => rw [htk, hmx, hmy]; simp only [Option.getD_some] at hgd; rw [← hgd]; rfl)
    have CRX : Hid (∀ w, Calls Tryz.prog 81 #[.int .i64 x, .int .i64 near] w (fun e w' => e = .returned (.int .i64 mx) ∧ w = w')) := Lib.hid (fun w => by have := raised_any x near w; rw [← hmx] at this; exact this)
    have CRY : Hid (∀ w, Calls Tryz.prog 81 #[.int .i64 y, .int .i64 near] w (fun e w' => e = .returned (.int .i64 my) ∧ w = w')) := Lib.hid (fun w => by have := raised_any y near w; rw [← hmy] at this; exact this)
    clear hres hbl hgd htk hmx hmy hbj okj hij hba h2 HTH
    rw [hth] at CTH
    clear hth
    go_enter Tryz.func57, Tryz.ntmps57
    go_upto_region 2 with (fail)
    rw [← HWW.out]
    clear HWW
    have cHR0 := cell_row HR0.out 0 _ rfl
    have cHR1 := cell_row HR0.out 1 _ rfl
    have cHR2 := cell_row HR0.out 2 _ rfl
    go_wp2_with fail
    refine (CTH.out _ HB0.out).mono ?_
    rintro e y8 ⟨rfl, hb⟩
    have HR1 := Lib.hid (vec_step HR0.out hb)
    have HY1 := Lib.hid (vec_step HY0.out hb)
    have HZ1 := Lib.hid (vec_step HZ0.out hb)
    have HN1 := Lib.hid (vec_step HN0.out hb)
    have HB1 := Lib.hid (HB0.out.trans (hb.mono HB0.out.size))
    have HM1 := Lib.hid (HM0.out.below hb)
    clear HR0 HY0 HZ0 HN0 HB0 HM0 hb cHR0 cHR1 cHR2 CTH
    go_upto_region 4 with (fail)
    obtain ⟨⟨⟨p1, p2, p3⟩, ⟨p4, p5, p6⟩⟩, hbx⟩ : ∃ zz, zz = boxF m i := ⟨_, rfl⟩
    have okb := ok_box m HOK.out i
    rw [← hbx] at okb
    have Q1 := Lib.hid (qb (P := Tryz.prog) (W := y8) (v := .agg #[.int .i64 p1, .int .i64 p2, .int .i64 p3, .int .i64 p4, .int .i64 p5, .int .i64 p6]) (fun w2 hb => by have := rbox_any _ m w2 (HM1.out.below hb) HOK.out HTB.out i HIN.out; rw [← hbx] at this; exact this))
    have Q2 := Lib.hid (qb (P := Tryz.prog) (W := y8) (fun w2 hb => rhbox_any ⟨⟨oX, oY, oZ⟩, ⟨dX, dY, dZ⟩⟩ ⟨⟨p1, p2, p3⟩, ⟨p4, p5, p6⟩⟩ HRK.out okb w2))
    have hbn2 := hbn
    rw [← hbx] at hbn2
    rw [hbn2] at Q2
    unfold boxR at Q2
    clear hbn2
    dsimp only [rayV, boxV, Option.getD_some, Option.getD_none, Option.isSome_some, Option.isSome_none] at Q2
    clear okb
    have fHR0 := fun d os => cell_regrown (cell_row HR1.out 0 _ rfl) d os
    have fHR1 := fun d os => cell_regrown (cell_row HR1.out 1 _ rfl) d os
    have fHR2 := fun d os => cell_regrown (cell_row HR1.out 2 _ rfl) d os
    have fHY0 := fun d os => cell_regrown (cell_row HY1.out 0 _ rfl) d os
    have fHY1 := fun d os => cell_regrown (cell_row HY1.out 1 _ rfl) d os
    have fHY2 := fun d os => cell_regrown (cell_row HY1.out 2 _ rfl) d os
    have fHY3 := fun d os => cell_regrown (cell_row HY1.out 3 _ rfl) d os
    have fHY4 := fun d os => cell_regrown (cell_row HY1.out 4 _ rfl) d os
    have fHY5 := fun d os => cell_regrown (cell_row HY1.out 5 _ rfl) d os
    refine wp_region_quiet_below (by kernel_rfl) (by kernel_rfl) ?_
    repeat (go_big_quiet_step (first | (with_reducible exact Q1.out _ _) | (with_reducible exact Q2.out _ _)))
    refine wpQuiet_nil ?_
    first | (rintro _ ⟨⟨dq, osq⟩, rfl⟩) | (rintro ⟨dq, osq⟩)
    have hb := below_regrown y8 dq osq
    obtain ⟨y9, hW⟩ : ∃ ww, ww = grow (redrawn y8 dq) osq := ⟨_, rfl⟩
    rw [← hW] at hb ⊢
    clear hW
    have HR2 := Lib.hid (vec_step HR1.out hb)
    have HY2 := Lib.hid (vec_step HY1.out hb)
    have HZ2 := Lib.hid (vec_step HZ1.out hb)
    have HN2 := Lib.hid (vec_step HN1.out hb)
    have HB2 := Lib.hid (HB1.out.trans (hb.mono HB1.out.size))
    have HM2 := Lib.hid (HM1.out.below hb)
    clear HR1 HY1 HZ1 HN1 HB1 HM1 hb  fHR0 fHR1 fHR2 fHY0 fHY1 fHY2 fHY3 fHY4 fHY5
    clear Q1 Q2
    have cHR1 := cell_row HR2.out 1 _ rfl
    go_upto_region 15 with (fail)
    clear cHR1
    have Q3 := Lib.hid (qb (P := Tryz.prog) (W := y9) (fun w2 hb => CBL.out w2))
    obtain ⟨b9, o9, e, -, u0, u1, u2, u3⟩ := at4 (HBS0_.out.below HB2.out (Nat.le_refl _)) j hj
    subst e
    rw [HBJ.out hj] at u0 u1 u2 u3
    dsimp only at u0 u1 u2 u3
    have fu0 := fun d os => cell_regrown u0 d os
    have fu1 := fun d os => cell_regrown u1 d os
    have fu2 := fun d os => cell_regrown u2 d os
    have fu3 := fun d os => cell_regrown u3 d os
    clear u0 u1 u2 u3
    have fHR0 := fun d os => cell_regrown (cell_row HR2.out 0 _ rfl) d os
    have fHR1 := fun d os => cell_regrown (cell_row HR2.out 1 _ rfl) d os
    have fHR2 := fun d os => cell_regrown (cell_row HR2.out 2 _ rfl) d os
    have fHY0 := fun d os => cell_regrown (cell_row HY2.out 0 _ rfl) d os
    have fHY1 := fun d os => cell_regrown (cell_row HY2.out 1 _ rfl) d os
    have fHY2 := fun d os => cell_regrown (cell_row HY2.out 2 _ rfl) d os
    have fHY3 := fun d os => cell_regrown (cell_row HY2.out 3 _ rfl) d os
    have fHY4 := fun d os => cell_regrown (cell_row HY2.out 4 _ rfl) d os
    have fHY5 := fun d os => cell_regrown (cell_row HY2.out 5 _ rfl) d os
    refine wp_region_quiet_below (by kernel_rfl) (by kernel_rfl) ?_
    repeat (go_big_quiet_step (first | (with_reducible exact Q3.out _ _)))
    refine wpQuiet_nil ?_
    first | (rintro _ ⟨⟨dq, osq⟩, rfl⟩) | (rintro ⟨dq, osq⟩)
    have hb := below_regrown y9 dq osq
    obtain ⟨y10, hW⟩ : ∃ ww, ww = grow (redrawn y9 dq) osq := ⟨_, rfl⟩
    rw [← hW] at hb ⊢
    clear hW
    have HR3 := Lib.hid (vec_step HR2.out hb)
    have HY3 := Lib.hid (vec_step HY2.out hb)
    have HZ3 := Lib.hid (vec_step HZ2.out hb)
    have HN3 := Lib.hid (vec_step HN2.out hb)
    have HB3 := Lib.hid (HB2.out.trans (hb.mono HB2.out.size))
    have HM3 := Lib.hid (HM2.out.below hb)
    clear HR2 HY2 HZ2 HN2 HB2 HM2 hb  fHR0 fHR1 fHR2 fHY0 fHY1 fHY2 fHY3 fHY4 fHY5
    clear Q3 fu0 fu1 fu2 fu3 CBL
    cases tk
    ·
     have hr0 : res = none := HPK.out
     subst hr0
     clear HPK
     have cHN0 := cell_row HN3.out 0 _ rfl
     have cHN1 := cell_row HN3.out 1 _ rfl
     have cHN2 := cell_row HN3.out 2 _ rfl
     have cHN3 := cell_row HN3.out 3 _ rfl
     go_wp2_with (with_reducible refine store_hit rfl (.tmp 8) (.tmp 136) rfl rfl (w.heap.size + 1 + 1) 0 (-1) 0 0 rfl rfl _ HZ3.out rfl ?_)
     refine bodyPost_ret (results_row_tmp rfl _ _ _ (w.heap.size + 1 + 1) 42 _ _ _ rfl (setRow_heap _ _ _ _ _ _ HZ3.out) Tryz.underlying42 hit_size) rfl ?_
     exact ⟨rfl, below_setRow HB3.out (by omega) _⟩
    ·
     have HPQ := Lib.hid (HPK.out.trans (if_pos rfl))
     clear HPK
     by_cases h3 : 0 ≤ x
     ·
      have e3 : decide (0 ≤ x) = true := decide_eq_true h3
      go_wp2_with fail
      refine (CRX.out _).mono ?_
      rintro e _ ⟨rfl, rfl⟩
      by_cases h4 : least ≤ mx
      ·
       have e4 : decide (least ≤ mx) = true := decide_eq_true h4
       have hr0 : res = some ⟨mx, i, 0, 0⟩ := by rw [HPQ.out, if_pos ⟨h3, h4⟩]
       subst hr0
       clear HPQ
       go_wp2_with fail
       refine (CRX.out _).mono ?_
       rintro e _ ⟨rfl, rfl⟩
       go_wp2_with (with_reducible refine store_hit rfl (.tmp 8) (.tmp 118) rfl rfl (w.heap.size + 1 + 1) mx i 0 0 rfl rfl _ HZ3.out rfl ?_)
       refine bodyPost_ret (results_row_tmp rfl _ _ _ (w.heap.size + 1 + 1) 42 _ _ _ rfl (setRow_heap _ _ _ _ _ _ HZ3.out) Tryz.underlying42 hit_size) rfl ?_
       exact ⟨rfl, below_setRow HB3.out (by omega) _⟩
      ·
       have e4x : decide (least ≤ mx) = false := decide_eq_false h4
       by_cases g1 : 0 ≤ y
       ·
        have e4 : decide (0 ≤ y) = true := decide_eq_true g1
        go_wp2_with fail
        refine (CRY.out _).mono ?_
        rintro e _ ⟨rfl, rfl⟩
        by_cases g2 : least ≤ my
        ·
         have e5 : decide (least ≤ my) = true := decide_eq_true g2
         have hr0 : res = some ⟨my, i, 0, 0⟩ := by rw [HPQ.out, if_neg (fun h => by have := h.2; omega), if_pos ⟨g1, g2⟩]
         subst hr0
         clear HPQ
         go_wp2_with fail
         refine (CRY.out _).mono ?_
         rintro e _ ⟨rfl, rfl⟩
         go_wp2_with (with_reducible refine store_hit rfl (.tmp 8) (.tmp 135) rfl rfl (w.heap.size + 1 + 1) my i 0 0 rfl rfl _ HZ3.out rfl ?_)
         refine bodyPost_ret (results_row_tmp rfl _ _ _ (w.heap.size + 1 + 1) 42 _ _ _ rfl (setRow_heap _ _ _ _ _ _ HZ3.out) Tryz.underlying42 hit_size) rfl ?_
         exact ⟨rfl, below_setRow HB3.out (by omega) _⟩
        ·
         have e5 : decide (least ≤ my) = false := decide_eq_false g2
         have hr0 : res = none := by rw [HPQ.out, if_neg (fun h => by have := h.2; omega), if_neg (fun h => by have := h.2; omega)]
         subst hr0
         clear HPQ
         have cHN0 := cell_row HN3.out 0 _ rfl
         have cHN1 := cell_row HN3.out 1 _ rfl
         have cHN2 := cell_row HN3.out 2 _ rfl
         have cHN3 := cell_row HN3.out 3 _ rfl
         go_wp2_with (with_reducible refine store_hit rfl (.tmp 8) (.tmp 136) rfl rfl (w.heap.size + 1 + 1) 0 (-1) 0 0 rfl rfl _ HZ3.out rfl ?_)
         refine bodyPost_ret (results_row_tmp rfl _ _ _ (w.heap.size + 1 + 1) 42 _ _ _ rfl (setRow_heap _ _ _ _ _ _ HZ3.out) Tryz.underlying42 hit_size) rfl ?_
         exact ⟨rfl, below_setRow HB3.out (by omega) _⟩
       ·
        have e4 : decide (0 ≤ y) = false := decide_eq_false g1
        have hr0 : res = none := by rw [HPQ.out, if_neg (fun h => by have := h.2; omega), if_neg (fun h => by have := h.1; omega)]
        subst hr0
        clear HPQ
        have cHN0 := cell_row HN3.out 0 _ rfl
        have cHN1 := cell_row HN3.out 1 _ rfl
        have cHN2 := cell_row HN3.out 2 _ rfl
        have cHN3 := cell_row HN3.out 3 _ rfl
        go_wp2_with (with_reducible refine store_hit rfl (.tmp 8) (.tmp 136) rfl rfl (w.heap.size + 1 + 1) 0 (-1) 0 0 rfl rfl _ HZ3.out rfl ?_)
        refine bodyPost_ret (results_row_tmp rfl _ _ _ (w.heap.size + 1 + 1) 42 _ _ _ rfl (setRow_heap _ _ _ _ _ _ HZ3.out) Tryz.underlying42 hit_size) rfl ?_
        exact ⟨rfl, below_setRow HB3.out (by omega) _⟩
     ·
      have e3 : decide (0 ≤ x) = false := decide_eq_false h3
      by_cases g1 : 0 ≤ y
      ·
       have e4 : decide (0 ≤ y) = true := decide_eq_true g1
       go_wp2_with fail
       refine (CRY.out _).mono ?_
       rintro e _ ⟨rfl, rfl⟩
       by_cases g2 : least ≤ my
       ·
        have e5 : decide (least ≤ my) = true := decide_eq_true g2
        have hr0 : res = some ⟨my, i, 0, 0⟩ := by rw [HPQ.out, if_neg (fun h => by have := h.1; omega), if_pos ⟨g1, g2⟩]
        subst hr0
        clear HPQ
        go_wp2_with fail
        refine (CRY.out _).mono ?_
        rintro e _ ⟨rfl, rfl⟩
        go_wp2_with (with_reducible refine store_hit rfl (.tmp 8) (.tmp 135) rfl rfl (w.heap.size + 1 + 1) my i 0 0 rfl rfl _ HZ3.out rfl ?_)
        refine bodyPost_ret (results_row_tmp rfl _ _ _ (w.heap.size + 1 + 1) 42 _ _ _ rfl (setRow_heap _ _ _ _ _ _ HZ3.out) Tryz.underlying42 hit_size) rfl ?_
        exact ⟨rfl, below_setRow HB3.out (by omega) _⟩
       ·
        have e5 : decide (least ≤ my) = false := decide_eq_false g2
        have hr0 : res = none := by rw [HPQ.out, if_neg (fun h => by have := h.1; omega), if_neg (fun h => by have := h.2; omega)]
        subst hr0
        clear HPQ
        have cHN0 := cell_row HN3.out 0 _ rfl
        have cHN1 := cell_row HN3.out 1 _ rfl
        have cHN2 := cell_row HN3.out 2 _ rfl
        have cHN3 := cell_row HN3.out 3 _ rfl
        go_wp2_with (with_reducible refine store_hit rfl (.tmp 8) (.tmp 136) rfl rfl (w.heap.size + 1 + 1) 0 (-1) 0 0 rfl rfl _ HZ3.out rfl ?_)
        refine bodyPost_ret (results_row_tmp rfl _ _ _ (w.heap.size + 1 + 1) 42 _ _ _ rfl (setRow_heap _ _ _ _ _ _ HZ3.out) Tryz.underlying42 hit_size) rfl ?_
        exact ⟨rfl, below_setRow HB3.out (by omega) _⟩
      ·
       have e4 : decide (0 ≤ y) = false := decide_eq_false g1
       have hr0 : res = none := by rw [HPQ.out, if_neg (fun h => by have := h.1; omega), if_neg (fun h => by have := h.1; omega)]
       subst hr0
       clear HPQ
       have cHN0 := cell_row HN3.out 0 _ rfl
       have cHN1 := cell_row HN3.out 1 _ rfl
       have cHN2 := cell_row HN3.out 2 _ rfl
       have cHN3 := cell_row HN3.out 3 _ rfl
       go_wp2_with (with_reducible refine store_hit rfl (.tmp 8) (.tmp 136) rfl rfl (w.heap.size + 1 + 1) 0 (-1) 0 0 rfl rfl _ HZ3.out rfl ?_)
       refine bodyPost_ret (results_row_tmp rfl _ _ _ (w.heap.size + 1 + 1) 42 _ _ _ rfl (setRow_heap _ _ _ _ _ _ HZ3.out) Tryz.underlying42 hit_size) rfl ?_
       exact ⟨rfl, below_setRow HB3.out (by omega) _⟩

end Go.Proofs.YtdaokkgenfpmhaaGreat.HitR3

/- The walks of the document's Join, longest and by. -/
set_option linter.unusedVariables false
set_option linter.unusedSimpArgs false
namespace Go.Proofs.YtdaokkgenfpmhaaGreat.BvhR
open Go Go.RowKit Go.Sort Go.Lib FixM Base Num FixW Qb Qt Qa Qf Qg VecW VecV VecU LightQ LightC MeshM Rec MeshA MeshC MeshD MeshP MeshQ MeshR HitM HitT HitX HitN HitS BvhM BvhA BvhB
set_option maxRecDepth 100000 in
set_option maxHeartbeats 16000000 in
theorem longest_walk (w : World) (bx : Bx) (ob : HitM.Bx.ok bx) : Calls Tryz.prog 48 #[.agg #[.int .i64 bx.lo.x, .int .i64 bx.lo.y, .int .i64 bx.lo.z, .int .i64 bx.hi.x, .int .i64 bx.hi.y, .int .i64 bx.hi.z]] w (VTo (.int .i64 (axisF bx : Int)) w) := by
 obtain ⟨⟨lX, lY, lZ⟩, ⟨hX, hY, hZ⟩⟩ := bx
 obtain ⟨ax, hax⟩ : ∃ z, z = axisF ⟨⟨lX, lY, lZ⟩, ⟨hX, hY, hZ⟩⟩ := ⟨_, rfl⟩
 rw [← hax]
 unfold axisF at hax
 dsimp only at hax ⊢
 have ix := ob.1.1; have iy := ob.1.2.1; have iz := ob.1.2.2; have jx := ob.2.1; have jy := ob.2.2.1; have jz := ob.2.2.2
 dsimp only at ix iy iz jx jy jz
 have CX := Lib.hid (rsub_any hX lX jx.1 jx.2 ix.1 ix.2)
 have CY := Lib.hid (rsub_any hY lY jy.1 jy.2 iy.1 iy.2)
 have CZ := Lib.hid (rsub_any hZ lZ jz.1 jz.2 iz.1 iz.2)
 generalize subF hX lX = x at CX hax
 generalize subF hY lY = y at CY hax
 generalize subF hZ lZ = z at CZ hax
 have HAX := Lib.hid hax
 clear hax ix iy iz jx jy jz ob
 have hn := heap_alloc_new w (.cells #[.int .i64 lX, .int .i64 lY, .int .i64 lZ, .int .i64 hX, .int .i64 hY, .int .i64 hZ] 72)
 have HB := Lib.hid (ext_alloc w (.cells #[.int .i64 lX, .int .i64 lY, .int .i64 lZ, .int .i64 hX, .int .i64 hY, .int .i64 hZ] 72))
 obtain ⟨W, hW⟩ : ∃ ww, ww = w.alloc (.cells #[.int .i64 lX, .int .i64 lY, .int .i64 lZ, .int .i64 hX, .int .i64 hY, .int .i64 hZ] 72) := ⟨_, rfl⟩
 rw [← hW] at hn HB
 have HWW := Lib.hid hW
 clear hW
 have e0 := cell_row hn 0 _ rfl
 have e1 := cell_row hn 1 _ rfl
 have e2 := cell_row hn 2 _ rfl
 have e3 := cell_row hn 3 _ rfl
 have e4 := cell_row hn 4 _ rfl
 have e5 := cell_row hn 5 _ rfl
 clear hn
 go_enter Tryz.func48, Tryz.ntmps48
 go_upto_region 1 with (fail)
 rw [← HWW.out]
 clear HWW
 go_wp2_with fail
 refine (CX.out _).mono ?_
 rintro e _ ⟨rfl, rfl⟩
 go_wp2_with fail
 refine (CY.out _).mono ?_
 rintro e _ ⟨rfl, rfl⟩
 go_wp2_with fail
 refine (CZ.out _).mono ?_
 rintro e _ ⟨rfl, rfl⟩
 clear CX CY CZ e0 e1 e2 e3 e4 e5
 by_cases c1 : y ≤ x ∧ z ≤ x
 ·
  have d1 : decide (y ≤ x) = true := decide_eq_true c1.1
  have d2 : decide (z ≤ x) = true := decide_eq_true c1.2
  have HR := Lib.hid (show ax = 0 by rw [HAX.out, if_pos c1])
  go_wp2_with fail
  go_ret
  exact ⟨by rw [HR.out]; rfl, HB.out⟩
 ·
  by_cases e1 : y ≤ x
  ·
   have d1 : decide (y ≤ x) = true := decide_eq_true e1
   have d2 : decide (z ≤ x) = false := decide_eq_false (fun h => c1 ⟨e1, h⟩)
   by_cases c2 : z ≤ y
   ·
    have d3 : decide (z ≤ y) = true := decide_eq_true c2
    have HR := Lib.hid (show ax = 1 by rw [HAX.out, if_neg c1, if_pos c2])
    go_wp2_with fail
    go_ret
    exact ⟨by rw [HR.out]; rfl, HB.out⟩
   ·
    have d3 : decide (z ≤ y) = false := decide_eq_false c2
    have HR := Lib.hid (show ax = 2 by rw [HAX.out, if_neg c1, if_neg c2])
    go_wp2_with fail
    go_ret
    exact ⟨by rw [HR.out]; rfl, HB.out⟩
  ·
   have d1 : decide (y ≤ x) = false := decide_eq_false e1
   by_cases c2 : z ≤ y
   ·
    have d3 : decide (z ≤ y) = true := decide_eq_true c2
    have HR := Lib.hid (show ax = 1 by rw [HAX.out, if_neg c1, if_pos c2])
    go_wp2_with fail
    go_ret
    exact ⟨by rw [HR.out]; rfl, HB.out⟩
   ·
    have d3 : decide (z ≤ y) = false := decide_eq_false c2
    have HR := Lib.hid (show ax = 2 by rw [HAX.out, if_neg c1, if_neg c2])
    go_wp2_with fail
    go_ret
    exact ⟨by rw [HR.out]; rfl, HB.out⟩
def byAx (ax : Nat) : Prop := ax = 0 ∨ ax = 1 ∨ ax = 2
theorem axis_by (b : Bx) : byAx (axisF b) := by unfold axisF byAx; split; exact .inl rfl; split; exact .inr (.inl rfl); exact .inr (.inr rfl)
set_option maxRecDepth 100000 in
set_option maxHeartbeats 16000000 in
theorem by_walk (v : Value) (m : Msh) (w : World) (hm : IsMesh w v m) (ok : m.ok) (hl : m.ts.length + m.bs.length ≤ 9223372036854775807) (i : Nat) (hi : i ≤ 9223372036854775807) (ax : Nat) (hax : byAx ax) : Calls Tryz.prog 49 #[v, .int .i64 (i : Int), .int .i64 (ax : Int)] w (VTo (.int .i64 (keyF m ax i)) w) := by
 have CB := Lib.hid (fun w2 (h : IsMesh w2 v m) => rbox_any v m w2 h ok hl (i : Int) ⟨by omega, by omega⟩)
 have ob := ok_box m ok (i : Int)
 have HK0 := Lib.hid (show keyF m 0 i = addF (boxF m (i : Int)).lo.x (boxF m (i : Int)).hi.x from rfl)
 have HK1 := Lib.hid (show keyF m 1 i = addF (boxF m (i : Int)).lo.y (boxF m (i : Int)).hi.y from rfl)
 have HK2 := Lib.hid (show keyF m 2 i = addF (boxF m (i : Int)).lo.z (boxF m (i : Int)).hi.z from rfl)
 unfold boxV at CB
 generalize boxF m (i : Int) = bx at CB HK0 HK1 HK2 ob
 obtain ⟨a0, c0, a1, c1, a2, c2, rfl, -⟩ := hm.open_
 obtain ⟨n0, hn0⟩ : ∃ x, x = m.ps.length := ⟨_, rfl⟩
 obtain ⟨n1, hn1⟩ : ∃ x, x = m.ts.length := ⟨_, rfl⟩
 obtain ⟨n2, hn2⟩ : ∃ x, x = m.bs.length := ⟨_, rfl⟩
 rw [← hn0, ← hn1, ← hn2] at CB hm ⊢
 have hn := heap_alloc_new w (.cells #[.slice a0 n0 c0, .slice a1 n1 c1, .slice a2 n2 c2] 31)
 have hB := ext_alloc w (.cells #[.slice a0 n0 c0, .slice a1 n1 c1, .slice a2 n2 c2] 31)
 have HM := Lib.hid (hm.below hB)
 obtain ⟨W, hW⟩ : ∃ ww, ww = w.alloc (.cells #[.slice a0 n0 c0, .slice a1 n1 c1, .slice a2 n2 c2] 31) := ⟨_, rfl⟩
 rw [← hW] at hn hB HM
 have HB := Lib.hid hB
 have HWW := Lib.hid hW
 have q0 := cell_row hn 0 _ rfl
 have q1 := cell_row hn 1 _ rfl
 have q2 := cell_row hn 2 _ rfl
 have ix := ob.1.1; have iy := ob.1.2.1; have iz := ob.1.2.2; have jx := ob.2.1; have jy := ob.2.2.1; have jz := ob.2.2.2
 have CX := Lib.hid (radd_any bx.lo.x bx.hi.x ix.1 ix.2 jx.1 jx.2)
 have CY := Lib.hid (radd_any bx.lo.y bx.hi.y iy.1 iy.2 jy.1 jy.2)
 have CZ := Lib.hid (radd_any bx.lo.z bx.hi.z iz.1 iz.2 jz.1 jz.2)
 rw [← HK0.out] at CX
 rw [← HK1.out] at CY
 rw [← HK2.out] at CZ
 clear hn hB hW ix iy iz jx jy jz ob hm ok hl hi HK0 HK1 HK2 hn0 hn1 hn2
 rcases hax with rfl | rfl | rfl
 ·
  go_enter Tryz.func49, Tryz.ntmps49
  go_upto_region 1 with (fail)
  rw [← HWW.out]
  clear HWW
  go_wp2_with fail
  refine (CB.out _ HM.out).mono ?_
  rintro e w1 ⟨rfl, hb⟩
  have HB1 := Lib.hid (HB.out.trans (hb.mono HB.out.size))
  have hx := ext_alloc w1 (.cells #[.int .i64 bx.lo.x, .int .i64 bx.lo.y, .int .i64 bx.lo.z, .int .i64 bx.hi.x, .int .i64 bx.hi.y, .int .i64 bx.hi.z] 72)
  have hn := heap_alloc_new w1 (.cells #[.int .i64 bx.lo.x, .int .i64 bx.lo.y, .int .i64 bx.lo.z, .int .i64 bx.hi.x, .int .i64 bx.hi.y, .int .i64 bx.hi.z] 72)
  have HB2 := Lib.hid (HB1.out.trans (hx.mono HB1.out.size))
  have e0 := cell_row hn 0 _ rfl
  have e1 := cell_row hn 1 _ rfl
  have e2 := cell_row hn 2 _ rfl
  have e3 := cell_row hn 3 _ rfl
  have e4 := cell_row hn 4 _ rfl
  have e5 := cell_row hn 5 _ rfl
  clear hn hx hb q0 q1 q2
  go_wp2_with fail
  refine (CX.out _).mono ?_
  rintro e _ ⟨rfl, rfl⟩
  go_wp2_with fail
  go_ret
  exact ⟨rfl, HB2.out⟩
 ·
  go_enter Tryz.func49, Tryz.ntmps49
  go_upto_region 1 with (fail)
  rw [← HWW.out]
  clear HWW
  go_wp2_with fail
  refine (CB.out _ HM.out).mono ?_
  rintro e w1 ⟨rfl, hb⟩
  have HB1 := Lib.hid (HB.out.trans (hb.mono HB.out.size))
  have hx := ext_alloc w1 (.cells #[.int .i64 bx.lo.x, .int .i64 bx.lo.y, .int .i64 bx.lo.z, .int .i64 bx.hi.x, .int .i64 bx.hi.y, .int .i64 bx.hi.z] 72)
  have hn := heap_alloc_new w1 (.cells #[.int .i64 bx.lo.x, .int .i64 bx.lo.y, .int .i64 bx.lo.z, .int .i64 bx.hi.x, .int .i64 bx.hi.y, .int .i64 bx.hi.z] 72)
  have HB2 := Lib.hid (HB1.out.trans (hx.mono HB1.out.size))
  have e0 := cell_row hn 0 _ rfl
  have e1 := cell_row hn 1 _ rfl
  have e2 := cell_row hn 2 _ rfl
  have e3 := cell_row hn 3 _ rfl
  have e4 := cell_row hn 4 _ rfl
  have e5 := cell_row hn 5 _ rfl
  clear hn hx hb q0 q1 q2
  go_wp2_with fail
  refine (CY.out _).mono ?_
  rintro e _ ⟨rfl, rfl⟩
  go_wp2_with fail
  go_ret
  exact ⟨rfl, HB2.out⟩
 ·
  go_enter Tryz.func49, Tryz.ntmps49
  go_upto_region 1 with (fail)
  rw [← HWW.out]
  clear HWW
  go_wp2_with fail
  refine (CB.out _ HM.out).mono ?_
  rintro e w1 ⟨rfl, hb⟩
  have HB1 := Lib.hid (HB.out.trans (hb.mono HB.out.size))
  have hx := ext_alloc w1 (.cells #[.int .i64 bx.lo.x, .int .i64 bx.lo.y, .int .i64 bx.lo.z, .int .i64 bx.hi.x, .int .i64 bx.hi.y, .int .i64 bx.hi.z] 72)
  have hn := heap_alloc_new w1 (.cells #[.int .i64 bx.lo.x, .int .i64 bx.lo.y, .int .i64 bx.lo.z, .int .i64 bx.hi.x, .int .i64 bx.hi.y, .int .i64 bx.hi.z] 72)
  have HB2 := Lib.hid (HB1.out.trans (hx.mono HB1.out.size))
  have e0 := cell_row hn 0 _ rfl
  have e1 := cell_row hn 1 _ rfl
  have e2 := cell_row hn 2 _ rfl
  have e3 := cell_row hn 3 _ rfl
  have e4 := cell_row hn 4 _ rfl
  have e5 := cell_row hn 5 _ rfl
  clear hn hx hb q0 q1 q2
  go_wp2_with fail
  refine (CZ.out _).mono ?_
  rintro e _ ⟨rfl, rfl⟩
  go_wp2_with fail
  go_ret
  exact ⟨rfl, HB2.out⟩
set_option maxRecDepth 100000 in
set_option maxHeartbeats 16000000 in
theorem join_walk (w : World) (a b : Bx) : Calls Tryz.prog 47 #[.agg #[.int .i64 a.lo.x, .int .i64 a.lo.y, .int .i64 a.lo.z, .int .i64 a.hi.x, .int .i64 a.hi.y, .int .i64 a.hi.z], .agg #[.int .i64 b.lo.x, .int .i64 b.lo.y, .int .i64 b.lo.z, .int .i64 b.hi.x, .int .i64 b.hi.y, .int .i64 b.hi.z]] w (VTo (.agg #[.int .i64 (joinB a b).lo.x, .int .i64 (joinB a b).lo.y, .int .i64 (joinB a b).lo.z, .int .i64 (joinB a b).hi.x, .int .i64 (joinB a b).hi.y, .int .i64 (joinB a b).hi.z]) w) := by
 have CL := Lib.hid (low_any a.lo b.lo)
 have CH := Lib.hid (high_any a.hi b.hi)
 have e1 : lowV a.lo b.lo = (joinB a b).lo := rfl
 have e2 : highV a.hi b.hi = (joinB a b).hi := rfl
 rw [e1] at CL
 rw [e2] at CH
 clear e1 e2
 unfold vecV at CL CH
 generalize joinB a b = j at CL CH ⊢
 obtain ⟨hA, hB, hC, hB0⟩ := al3h w (.cells #[.int .i64 a.lo.x, .int .i64 a.lo.y, .int .i64 a.lo.z, .int .i64 a.hi.x, .int .i64 a.hi.y, .int .i64 a.hi.z] 72) (.cells #[.int .i64 b.lo.x, .int .i64 b.lo.y, .int .i64 b.lo.z, .int .i64 b.hi.x, .int .i64 b.hi.y, .int .i64 b.hi.z] 72) (.cells #[.int .i64 0, .int .i64 0, .int .i64 0, .int .i64 0, .int .i64 0, .int .i64 0] 72)
 obtain ⟨W, hW⟩ : ∃ ww, ww = ((w.alloc (.cells #[.int .i64 a.lo.x, .int .i64 a.lo.y, .int .i64 a.lo.z, .int .i64 a.hi.x, .int .i64 a.hi.y, .int .i64 a.hi.z] 72)).alloc (.cells #[.int .i64 b.lo.x, .int .i64 b.lo.y, .int .i64 b.lo.z, .int .i64 b.hi.x, .int .i64 b.hi.y, .int .i64 b.hi.z] 72)).alloc (.cells #[.int .i64 0, .int .i64 0, .int .i64 0, .int .i64 0, .int .i64 0, .int .i64 0] 72) := ⟨_, rfl⟩
 rw [← hW] at hA hB hC hB0
 have HZ := Lib.hid hC
 have HB := Lib.hid hB0
 have HWW := Lib.hid hW
 have u0 := fun d os => cell_regrown (cell_row hA 0 _ rfl) d os
 have u1 := fun d os => cell_regrown (cell_row hA 1 _ rfl) d os
 have u2 := fun d os => cell_regrown (cell_row hA 2 _ rfl) d os
 have u3 := fun d os => cell_regrown (cell_row hA 3 _ rfl) d os
 have u4 := fun d os => cell_regrown (cell_row hA 4 _ rfl) d os
 have u5 := fun d os => cell_regrown (cell_row hA 5 _ rfl) d os
 have v0 := fun d os => cell_regrown (cell_row hB 0 _ rfl) d os
 have v1 := fun d os => cell_regrown (cell_row hB 1 _ rfl) d os
 have v2 := fun d os => cell_regrown (cell_row hB 2 _ rfl) d os
 have v3 := fun d os => cell_regrown (cell_row hB 3 _ rfl) d os
 have v4 := fun d os => cell_regrown (cell_row hB 4 _ rfl) d os
 have v5 := fun d os => cell_regrown (cell_row hB 5 _ rfl) d os
 have Q1 := Lib.hid (qb (P := Tryz.prog) (W := W) (fun w2 hb => CL.out w2))
 have Q2 := Lib.hid (qb (P := Tryz.prog) (W := W) (fun w2 hb => CH.out w2))
 clear hA hB hC hB0 hW CL CH
 go_enter Tryz.func47, Tryz.ntmps47
 go_upto_region 1 with (fail)
 rw [← HWW.out]
 clear HWW
 refine wp_region_below_tail 11 (by kernel_rfl) (by kernel_rfl) ?_
 simp only [List.take_succ_cons, List.take_zero, List.drop_succ_cons, List.drop_zero]
 repeat (go_big_quiet_step (first | (with_reducible exact Q1.out _ _) | (with_reducible exact Q2.out _ _)))
 refine wpQuiet_nil ?_
 rintro _ ⟨⟨dq, osq⟩, rfl⟩
 have HZ3 := Lib.hid (heap_regrown HZ.out dq osq)
 have HB3 := Lib.hid (HB.out.trans ((below_regrown W dq osq).mono HB.out.size))
 refine store_box rfl (.tmp 4) (.tmp 15) rfl rfl (w.heap.size + 1 + 1) j.lo.x j.lo.y j.lo.z j.hi.x j.hi.y j.hi.z rfl rfl _ HZ3.out rfl ?_
 go_wp2_with fail
 refine bodyPost_ret (results_cell_row rfl _ _ (w.heap.size + 1 + 1) 72 _ _ _ rfl (setRow_heap _ (w.heap.size + 1 + 1) _ _ _ _ (HZ3.out)) Tryz.underlying72 rfl box_size) rfl ?_
 exact ⟨rfl, below_setRow HB3.out (by omega) _⟩
end Go.Proofs.YtdaokkgenfpmhaaGreat.BvhR

/- As Qs, but the row that is stored need not be one row: it is what stands in its slot (a call's result that depends on the world). No program is named here. -/
set_option linter.unusedVariables false
set_option linter.unusedSimpArgs false
namespace Go.Proofs.YtdaokkgenfpmhaaGreat.Qv
open Go.RowKit Go.Sort Qb Qt Qa Qf Qr Qs
structure IsV (P : Program) (o : Oper) (x : St1) (n : Nat) : Prop where
 op : ∃ ty, o.op = .store ty (.tmp x.p) (.tmp x.s) ∧ (P.info? ty).map (·.size) = some n
 dst : o.dst = none
section
variable {P : Program} {ops : Array Oper} {W : World} {md : Region.Mode} {N : Nat} {Φ : Nat → World → Value → Prop} {x : St1} {gs : List Nat}
structure InvV (ops : Array Oper) (W : World) (Φ : Nat → World → Value → Prop) (x : St1) (a0 : Act) (t : Array Bool) (a : Act) (w : World) : Prop where
 r : InvR ops W (fun k w v => k ≠ x.j → Φ k w v) a0 t a w
 kp : x.j < ops.size → t.getD x.j false = true → t.getD x.kp false = true ∧ t.getD x.ks false = true
 st : x.j < ops.size → t.getD x.j false = true → ∃ g row, a.tmps[x.p]? = some (ptr g) ∧ a.tmps[x.s]? = some (.agg row) ∧ w.heap[g]? = some (.cells row x.T)

theorem InvV.step {n : Nat} {a0 : Act} {K : Act → World → Prop} {R : Exit → Act → World → Prop} (F : FitS md ops N x gs) (hN : a0.tmps.size = N) (mono : ∀ k v w1 w2, Φ k w1 v → Below w1.heap.size w1 w2 → Φ k w2 v)
  (stab : ∀ k v w g cur row, k ≠ x.j → Φ k w v → W.heap.size ≤ g → w.heap[g]? = some (.cells cur x.T) → cur.size = n → row.size = n → Φ k (w.setRow g row) v)
  (hgs : ∀ g ∈ gs, ∀ w v, Φ g w v → v = .bool true) (hgj : ∀ g ∈ gs, g ≠ x.j)
  (hal : x.j < ops.size → ∀ w v, Φ x.kp w v → ∃ g cur, v = ptr g ∧ W.heap.size ≤ g ∧ w.heap[g]? = some (.cells cur x.T) ∧ cur.size = n) (hrow : x.j < ops.size → ∀ w v, Φ x.ks w v → ∃ row, v = .agg row ∧ row.size = n ∧ row.all (·.oneCell') = true)
  (hsj : ∀ o, ops[x.j]? = some o → IsV P o x n)
  (hst : ∀ k o, k ≠ x.j → ops[k]? = some o → StepOK P ops Φ W a0 k o) {t : Array Bool} {a : Act} {w : World} (I : InvV ops W Φ x a0 t a w) {k : Nat} (hk : k ∈ Region.ready md ops t)
  (h : ∀ a' w', InvV ops W Φ x a0 (t.setIfInBounds k true) a' w' → K a' w') : wpOp P ops R k K a w := by
 obtain ⟨hkt, o, ho, hed⟩ := mem_ready.1 hk
 have hkn : k < ops.size := (Array.getElem?_eq_some_iff.1 ho).1
 have hkf : t.getD k false = false := getD_both hkt
 have hkt' : k < t.size := by rw [I.r.tsz]; exact hkn
 have hwt : Region.wanted o (yielded ops a.tmps) = true := by
  rcases F.gd k o ho with hg | ⟨g, hg, hgm, ⟨d, hd⟩, e, he, hb, hon⟩
  ·
   simp [Region.wanted, hg]
  ·
   have ht := hed e he hb
   rw [hon] at ht
   obtain ⟨v, hv, hp⟩ := I.r.got g ht d hd
   have := hgs g hgm w v (hp (hgj g hgm))
   subst this
   have hy : yielded ops a.tmps g = some true := by
    unfold yielded
    have : (ops[g]?).bind (·.dst) = some d := hd
    rw [this, Option.bind_some, hv]
   simp [Region.wanted, hg, hy]
 have hdep : k ≠ x.j → ∀ s ∈ o.looksAt ops, ∀ k', dstOf ops k' = some s → Φ k' w (a.eval (.tmp s)) := by
  intro hne s hs k' hk'
  obtain ⟨e, he, hb, hon⟩ := F.look k o ho hne s hs k' hk'
  have ht := hed e he hb
  rw [hon] at ht
  obtain ⟨v, hv, hp⟩ := I.r.got k' ht s hk'
  have hk'j : k' ≠ x.j := fun e => by
   subst e
   have hlt := dstOf_lt hk'
   have := (hsj (ops[x.j]'hlt) (Array.getElem?_eq_getElem hlt)).dst
   rw [dstOf_of (Array.getElem?_eq_getElem hlt), this] at hk'; cases hk'
  have hp := hp hk'j
  simpa [Act.eval, Array.getD_eq_getD_getElem?, hv] using hp
 by_cases hkj : k = x.j
 ·
  -- the store
  subst hkj
  have hSt := hsj o ho
  obtain ⟨⟨hdp, e1, he1, hb1, hon1⟩, hds, e2, he2, hb2, hon2⟩ := F.stk o ho
  have t1 := hed e1 he1 hb1
  have t2 := hed e2 he2 hb2
  rw [hon1] at t1
  rw [hon2] at t2
  obtain ⟨vp, hvp, hpp⟩ := I.r.got x.kp t1 x.p hdp
  obtain ⟨vs, hvs, hps⟩ := I.r.got x.ks t2 x.s hds
  have hnd : ∀ s, dstOf ops x.j ≠ some s := fun s e => by rw [dstOf_of ho, hSt.dst] at e; cases e
  have hkpj : x.kp ≠ x.j := fun e => hnd _ (by rw [← e]; exact hdp)
  have hksj : x.ks ≠ x.j := fun e => hnd _ (by rw [← e]; exact hds)
  obtain ⟨g, cur, rfl, hBg, hg, hcs⟩ := hal hkn w vp (hpp hkpj)
  obtain ⟨row, rfl, hrn, hr1⟩ := hrow hkn w vs (hps hksj)
  obtain ⟨ty, hop, hinfo⟩ := hSt.op
  unfold wpOp
  simp only [ho, hwt, if_true]
  refine .inl (wp_store_row ty (.tmp x.p) (.tmp x.s) hop g row (by simp [Act.eval, Array.getD_eq_getD_getElem?, hvp]) (by simp [Act.eval, Array.getD_eq_getD_getElem?, hvs]) x.T cur hg (by rw [hrn]; exact hinfo) (by rw [hrn]; exact hcs) hr1 ?_)
  rw [hSt.dst]
  show K a _
  refine h _ _ ⟨⟨by simp [I.r.tsz], I.r.defs, I.r.sz, fun s hs => ?_, fun k' ht d hd => ?_, below_setRow I.r.below hBg _⟩, fun _ _ => ⟨set_mono t1, set_mono t2⟩, fun _ _ => ⟨g, row, hvp, hvs, setRow_heap _ _ _ _ _ _ hg⟩⟩
  ·
   refine I.r.keep s fun k' hk' => ?_
   cases ht : t.getD k' false
   ·
    rfl
   ·
    have := hs k' hk'; rw [set_mono ht] at this; cases this
  ·
   rcases set_or ht with rfl | ht
   ·
    exact absurd hd (hnd d)
   ·
    obtain ⟨v, hv, hp⟩ := I.r.got k' ht d hd
    exact ⟨v, hv, fun hne => stab _ _ _ _ _ _ hne (hp hne) hBg hg hcs hrn⟩
 ·
  obtain ⟨d, hd, hdN⟩ := F.has k hkn hkj
  have hod : o.dst = some d := by rw [← dstOf_of ho]; exact hd
  have hlt : d < a.tmps.size := by rw [I.r.sz, hN]; exact hdN
  have hr := hst k o hkj ho a w I.r.below (hdep hkj) (fun s hs => I.r.keep s fun k' hk' => absurd hk' (hs k'))
  have next : ∀ v w', Φ k w' v → Below w.heap.size w w' → K (a.put o.dst v) w' := by
   intro v w' hp hb
   refine h _ _ ⟨⟨by simp [I.r.tsz], by rw [put_defers]; exact I.r.defs, by rw [put_size]; exact I.r.sz, fun s hs => ?_, fun k' ht d' hd' => ?_, I.r.below.trans (hb.mono I.r.below.size)⟩, fun hj ht => (by rw [getD_set_ne false (fun e => hkj e)] at ht; exact ⟨set_mono (I.kp hj ht).1, set_mono (I.kp hj ht).2⟩), fun hj ht => ?_⟩
   ·
    have hne : o.dst ≠ some s := fun e => by have := hs k (by rw [dstOf_of ho]; exact e); rw [set_at hkt'] at this; cases this
    rw [put_ne _ _ _ _ hne]
    refine I.r.keep s fun k' hk' => ?_
    cases ht : t.getD k' false
    ·
     rfl
    ·
     have := hs k' hk'; rw [set_mono ht] at this; cases this
   ·
    rcases set_or ht with rfl | ht
    ·
     have e : d' = d := Option.some.inj (hd'.symm.trans hd)
     subst e
     exact ⟨v, by rw [hod, put_same _ _ _ hlt], fun _ => hp⟩
    ·
     by_cases e : d = d'
     ·
      subst e
      obtain rfl := F.dsts _ _ _ hd' hd
      exact ⟨v, by rw [hod, put_same _ _ _ hlt], fun _ => hp⟩
     ·
      obtain ⟨u, hu, hup⟩ := I.r.got k' ht d' hd'
      exact ⟨u, by rw [hod, put_ne _ _ _ _ (fun e2 => e (Option.some.inj e2))]; exact hu, fun hne => mono _ _ _ _ (hup hne) hb⟩
   ·
    rw [getD_set_ne false (fun e => hkj e)] at ht
    obtain ⟨g, row, hg, hgs', hgr⟩ := I.st hj ht
    have hoj := Array.getElem?_eq_getElem hj
    have hdp := (F.stk _ hoj).1.1
    have hne : d ≠ x.p := fun e => by
     have := F.dsts k x.kp d hd (by rw [e]; exact hdp)
     subst this
     rw [(I.kp hj ht).1] at hkf; cases hkf
    have hdp2 := (F.stk _ hoj).2.1
    have hne2 : d ≠ x.s := fun e => by
     have := F.dsts k x.ks d hd (by rw [e]; exact hdp2)
     subst this
     rw [(I.kp hj ht).2] at hkf; cases hkf
    exact ⟨g, row, by rw [hod, put_ne _ _ _ _ (fun e2 => hne (Option.some.inj e2))]; exact hg, by rw [hod, put_ne _ _ _ _ (fun e2 => hne2 (Option.some.inj e2))]; exact hgs', by rw [hb.block _ (Qf.lt_of_heap hgr)]; exact hgr⟩
  unfold wpOp
  simp only [ho, hwt, if_true]
  refine .inl ?_
  unfold Oper.wp
  generalize (execOp a.eval o).run P w = res at hr
  cases res with
  | halt x w' => simp only [relUpon] at hr
  | ok nx w' =>
   cases nx <;> simp only [relUpon] at hr
   case value u => exact next u w' hr.1 hr.2
   case skip => exact next undef w' hr.1 hr.2
   case enter f args =>
    refine hr.mono ?_
    rintro e w'' ⟨v, rfl, hp, hb⟩
    exact next v w'' hp hb
end

/-- THE LAW -/
theorem wp_region_onev {n : Nat} {P : Program} {id : Nat} {Q : Exit → Act → World → Prop} {a : Act} {w : World} {l : List Oper} (N : Nat) (Φ : Nat → World → Value → Prop) (x : St1) (gs : List Nat) (hm : P.follows .mixedOrders = true) (hN : a.tmps.size = N)
  (hB : fitB .any l.toArray N x.j x.p x.kp x.s x.ks gs = true) (mono : ∀ k v w1 w2, Φ k w1 v → Below w1.heap.size w1 w2 → Φ k w2 v)
  (stab : ∀ k v w' g cur row, k ≠ x.j → Φ k w' v → w.heap.size ≤ g → w'.heap[g]? = some (.cells cur x.T) → cur.size = n → row.size = n → Φ k (w'.setRow g row) v)
  (hgs : ∀ g ∈ gs, ∀ w v, Φ g w v → v = .bool true) (hgj : ∀ g ∈ gs, g ≠ x.j)
  (hal : x.j < l.length → ∀ w' v, Φ x.kp w' v → ∃ g cur, v = ptr g ∧ w.heap.size ≤ g ∧ w'.heap[g]? = some (.cells cur x.T) ∧ cur.size = n) (hrow : x.j < l.length → ∀ w v, Φ x.ks w v → ∃ row, v = .agg row ∧ row.size = n ∧ row.all (·.oneCell') = true)
  (hsj : ∀ o, l.toArray[x.j]? = some o → IsV P o x n)
  (hst : ∀ k o, k ≠ x.j → l.toArray[k]? = some o → StepOK P l.toArray Φ w a k o)
  (h : ∀ (V : Nat → Value) (w' : World), Below w.heap.size w w' → (∀ k, k < l.length → k ≠ x.j → Φ k w' (V k)) → (x.j < l.length → ∃ g row, V x.kp = ptr g ∧ V x.ks = .agg row ∧ w'.heap[g]? = some (.cells row x.T)) → wpList P l.toArray Q [] (putsL V 0 l a) w') : (Code.region id l.toArray true).wp P Q a w := by
 have F := fitS_of hB
 have hls : l.toArray.size = l.length := by simp
 refine wp_region_any hm ?_
 have over : ∀ (t : Array Bool) (b : Act) (w' : World), Region.ready .any l.toArray t = [] → InvV l.toArray w Φ x a t b w' → Q .normal b w' := by
  intro t b w' hr I
  have hall : ∀ k, k < l.toArray.size → t.getD k false = true := by
   intro k
   induction k using Nat.strongRecOn with
   | ind k ih =>
    intro hk
    cases ht : t.getD k false
    ·
     have : k ∈ Region.ready .any l.toArray t := mem_ready.2 ⟨getD_in (by rw [I.r.tsz]; exact hk) ht, l.toArray[k], Array.getElem?_eq_getElem hk, fun e he hb => by
      have h1 := F.back k l.toArray[k] (Array.getElem?_eq_getElem hk) e he hb
      exact ih _ h1 (by omega)⟩
     rw [hr] at this; cases this
    ·
     rfl
  have hV : ∃ V : Nat → Value, ∀ k d, dstOf l.toArray k = some d → b.tmps[d]? = some (V k) ∧ (k ≠ x.j → Φ k w' (V k)) := by
   refine ⟨fun k => b.tmps.getD ((dstOf l.toArray k).getD 0) undef, fun k d hd => ?_⟩
   obtain ⟨v, hv, hp⟩ := I.r.got k (hall k (dstOf_lt hd)) d hd
   simp only [hd, Option.getD_some, Array.getD_eq_getD_getElem?, hv]
   exact ⟨trivial, hp⟩
  obtain ⟨V, hV⟩ := hV
  have hdl : ∀ (i : Nat) (o : Oper), l[i]? = some o → dstOf l.toArray i = o.dst := fun i o ho => dstOf_of (by simpa using ho)
  have hb : b = putsL V 0 l a := by
   have e1 : b.tmps = (putsL V 0 l a).tmps := by
    apply Array.ext_getElem?
    intro s
    by_cases h1 : ∃ k, dstOf l.toArray k = some s
    ·
     obtain ⟨k, hk⟩ := h1
     have hkl : k < l.length := by have := dstOf_lt hk; simpa using this
     have hko : l[k]? = some l[k] := by simp [hkl]
     have hkj : k ≠ x.j := fun e => by
      subst e
      have := (hsj l[x.j] (by simp [hkl])).dst
      rw [hdl _ _ hko, this] at hk; cases hk
     have e2 := putsL_at V s l 0 a k l[k] hko (by rw [← hdl k _ hko]; exact hk) (by
      obtain ⟨d', hd', hlt⟩ := F.has k (dstOf_lt hk) hkj
      have : d' = s := Option.some.inj (hd'.symm.trans hk)
      rw [hN, ← this]; exact hlt) (fun j o' hj e => F.dsts j k s (by rw [hdl j o' hj]; exact e) hk)
     rw [e2, Nat.zero_add]
     exact (hV k s hk).1
    ·
     rw [putsL_ne V s l 0 a (fun i o ho e => h1 ⟨i, by rw [hdl i o ho]; exact e⟩)]
     exact I.r.keep s fun k hk => absurd ⟨k, hk⟩ h1
   have e2 : b.defers = (putsL V 0 l a).defers := by rw [putsL_defers]; exact I.r.defs
   generalize putsL V 0 l a = c at e1 e2
   cases b; cases c; simp only at e1 e2; rw [e1, e2]
  rw [hb]
  refine h V w' I.r.below (fun k hk hne => ?_) (fun hj => ?_)
  ·
   obtain ⟨d, hd, _⟩ := F.has k (by simpa using hk) hne
   exact (hV k d hd).2 hne
  ·
   have hj' : x.j < l.toArray.size := by simpa using hj
   obtain ⟨g, row, hg, hgs', hgr⟩ := I.st hj' (hall _ hj')
   have hds := (F.stk _ (Array.getElem?_eq_getElem hj')).2.1
   have th2 := (hV _ _ hds).1
   rw [hgs'] at th2
   have hdp := (F.stk _ (Array.getElem?_eq_getElem hj')).1.1
   have := (hV _ _ hdp).1
   rw [hg] at this
   exact ⟨g, row, (Option.some.inj this).symm, (Option.some.inj th2).symm, hgr⟩
 have run : ∀ (f : Nat) (r : List Nat) (t : Array Bool) (b : Act) (w' : World), r.length ≤ f → (∀ k, k < l.toArray.size → t.getD k false = false → k ∈ r) → InvV l.toArray w Φ x a t b w' → wpAny P .any l.toArray Q f t b w' := by
  intro f
  induction f with
  | zero =>
   intro r t b w' hl hr I
   have hnil : r = [] := List.length_eq_zero_iff.1 (by omega)
   have : Region.ready .any l.toArray t = [] := by
    apply List.eq_nil_iff_forall_not_mem.2
    intro k hk
    obtain ⟨h1, o, ho, _⟩ := mem_ready.1 hk
    have := hr k (Array.getElem?_eq_some_iff.1 ho).1 (getD_both h1)
    rw [hnil] at this; cases this
   exact ⟨this, over t b w' this I⟩
  | succ f ih =>
   intro r t b w' hl hr I
   refine ⟨fun h0 => over t b w' h0 I, fun k hk => InvV.step F hN mono stab hgs hgj (fun hj => hal (by simpa using hj)) (fun hj => hrow (by simpa using hj)) hsj hst I hk fun b' w'' I' => ?_⟩
   obtain ⟨h1, o, ho, _⟩ := mem_ready.1 hk
   have hkr := hr k (Array.getElem?_eq_some_iff.1 ho).1 (getD_both h1)
   refine ih (r.erase k) _ b' w'' (by rw [List.length_erase_of_mem hkr]; omega) (fun j hj ht => ?_) I'
   by_cases e : k = j
   ·
    subst e
    rw [set_at (by rw [I.r.tsz]; exact hj)] at ht; cases ht
   ·
    rw [getD_set_ne false e] at ht
    exact (List.mem_erase_of_ne (Ne.symm e)).2 (hr j hj ht)
 refine run _ (List.range l.toArray.size) _ _ _ (by simp) (fun k hk _ => List.mem_range.2 hk) ⟨⟨by simp, rfl, rfl, fun s _ => rfl, fun k ht => ?_, ⟨rfl, rfl, rfl, Nat.le_refl _, fun _ _ => rfl⟩⟩, fun _ ht => ?_, fun _ ht => ?_⟩ <;> (rw [getD_replicate_false] at ht; cases ht)
end Go.Proofs.YtdaokkgenfpmhaaGreat.Qv

/- Regions walked by predicates (Qv), by kinds: in each slot one value, or what fits a predicate of the world. No program is named here. -/
set_option linter.unusedVariables false
set_option linter.unusedSimpArgs false
namespace Go.Proofs.YtdaokkgenfpmhaaGreat.Qk
open Go.RowKit Go.Sort Qb Qt Qa Qf Qr Qs Qz Qv
inductive K3 where
 | val (v : Value)
 | pr (p : World → Value → Prop)
def K3.sat : K3 → World → Value → Prop
 | .val u, _, v => v = u
 | .pr p, w, v => p w v
def K3.out : K3 → Value
 | .val u => u
 | .pr _ => undef
def K3.isVal : K3 → Bool
 | .val _ => true
 | .pr _ => false
def phi3 (ks : List K3) (k : Nat) (w : World) (v : Value) : Prop := (ks.getD k (.val undef)).sat w v
def outs3 (ks : List K3) (k : Nat) : Value := (ks.getD k (.val undef)).out
def look3B (ks : List K3) (ops : Array Oper) (N : Nat) (o : Oper) : Bool := (o.looksAt ops).all fun s => upto ops.size fun k' => dstOf ops k' != some s || ((ks.getD k' (.val undef)).isVal && decide (s < N))
theorem look3 {ks : List K3} {ops : Array Oper} {N : Nat} {o : Oper} (h : look3B ks ops N o = true) : ∀ s ∈ o.looksAt ops, (∃ k', dstOf ops k' = some s ∧ s < N ∧ ∀ w v, phi3 ks k' w v → v = outs3 ks k') ∨ ∀ k', dstOf ops k' ≠ some s := by
 intro s hs
 by_cases he : ∃ k', dstOf ops k' = some s
 ·
  obtain ⟨k', hk'⟩ := he
  unfold look3B at h
  have := upto_spec (List.all_eq_true.1 h s hs) k' (dstOf_lt hk')
  rw [hk'] at this
  simp only [bne_self_eq_false, Bool.false_or, Bool.and_eq_true, decide_eq_true_eq] at this
  refine .inl ⟨k', rfl.trans hk', this.2, fun w v hv => ?_⟩
  unfold phi3 at hv
  unfold outs3
  have h1 := this.1
  revert h1 hv
  generalize ks.getD k' (.val undef) = K
  intro hv h1
  cases K <;> first | exact hv | (simp [K3.isVal] at h1)
 ·
  exact .inr fun k' hk' => he ⟨k', hk'⟩
def K3.mono : K3 → Prop
 | .val _ => True
 | .pr p => ∀ v w1 w2, p w1 v → Below w1.heap.size w1 w2 → p w2 v
def K3.stab (T : TypeId) (B n : Nat) : K3 → Prop
 | .val _ => True
 | .pr p => ∀ v w g cur row, p w v → B ≤ g → w.heap[g]? = some (.cells cur T) → cur.size = n → row.size = n → p (w.setRow g row) v
def All3 (q : K3 → Prop) : List K3 → Prop
 | [] => True
 | k :: ks => q k ∧ All3 q ks
theorem all3_getD {q : K3 → Prop} (hq : q (.val undef)) : ∀ ks, All3 q ks → ∀ k, q (ks.getD k (.val undef))
 | [], _, k => by simpa using hq
 | x :: ks, h, 0 => by simpa using h.1
 | x :: ks, h, k + 1 => by simpa using all3_getD hq ks h.2 k
theorem phi3_mono {ks : List K3} (h : All3 K3.mono ks) (k : Nat) (v : Value) (w1 w2 : World) (hv : phi3 ks k w1 v) (hb : Below w1.heap.size w1 w2) : phi3 ks k w2 v := by
 have h1 := all3_getD (q := K3.mono) trivial ks h k
 unfold phi3 at *
 revert h1 hv
 generalize ks.getD k (.val undef) = K
 intro hv h1
 cases K with
 | val u => exact hv
 | pr p => exact h1 v w1 w2 hv hb
theorem phi3_stab {ks : List K3} {T : TypeId} {B n : Nat} (h : All3 (K3.stab T B n) ks) (k : Nat) (v : Value) (w : World) (g : Nat) (cur row : Array Value) (hv : phi3 ks k w v) (hg : B ≤ g) (h2 : w.heap[g]? = some (.cells cur T)) (h3 : cur.size = n) (h4 : row.size = n) : phi3 ks k (w.setRow g row) v := by
 have h1 := all3_getD (q := K3.stab T B n) trivial ks h k
 unfold phi3 at *
 revert h1 hv
 generalize ks.getD k (.val undef) = K
 intro hv h1
 cases K with
 | val u => exact hv
 | pr p => exact h1 v w g cur row hv hg h2 h3 h4
/-- a fresh block that the region makes -/
def alK (T : TypeId) (n B : Nat) (w : World) (v : Value) : Prop := ∃ g cur, v = ptr g ∧ B ≤ g ∧ w.heap[g]? = some (.cells cur T) ∧ cur.size = n
theorem alK_mono (T : TypeId) (n B : Nat) : K3.mono (.pr (alK T n B)) := by
 rintro v w1 w2 ⟨g, cur, e, hB, hg, hc⟩ hb
 exact ⟨g, cur, e, hB, by rw [hb.block _ (Qf.lt_of_heap hg)]; exact hg, hc⟩
theorem alK_stab (T : TypeId) (n B B' : Nat) : K3.stab T B' n (.pr (alK T n B)) := by
 rintro v w g cur row ⟨b, c2, e, hB, hb, hc⟩ _ hg _ hr
 by_cases e2 : b = g
 ·
  subst e2
  exact ⟨b, row, e, hB, setRow_heap _ _ _ _ _ _ hg, hr⟩
 ·
  exact ⟨b, c2, e, hB, (setRow_other _ _ _ _ e2).trans hb, hc⟩
/-- THE LAW by kinds -/
theorem wp_region_k3 {n : Nat} {P : Program} {id : Nat} {Q : Exit → Act → World → Prop} {a : Act} {w : World} {l : List Oper} (N : Nat) (ks : List K3) (x : St1) (hm : P.follows .mixedOrders = true) (hN : a.tmps.size = N)
  (hB : fitB .any l.toArray N x.j x.p x.kp x.s x.ks [] = true) (mono : All3 K3.mono ks) (stab : All3 (K3.stab x.T w.heap.size n) ks)
  (hal : ∀ w' v, phi3 ks x.kp w' v → ∃ g cur, v = ptr g ∧ w.heap.size ≤ g ∧ w'.heap[g]? = some (.cells cur x.T) ∧ cur.size = n) (hrow : ∀ w v, phi3 ks x.ks w v → ∃ row, v = .agg row ∧ row.size = n ∧ row.all (·.oneCell') = true)
  (hsj : ∀ o, l.toArray[x.j]? = some o → IsV P o x n)
  (hst : ∀ A, putsL (outs3 ks) 0 l a = A → FitS .any l.toArray N x [] → StepsX P l.toArray (phi3 ks) w a x.j 0 l)
  (h : ∀ (V : Nat → Value) (w' : World), Below w.heap.size w w' → (∀ k, k < l.length → k ≠ x.j → phi3 ks k w' (V k)) → (x.j < l.length → ∃ g row, V x.kp = ptr g ∧ V x.ks = .agg row ∧ w'.heap[g]? = some (.cells row x.T)) → wpList P l.toArray Q [] (putsL V 0 l a) w') : (Code.region id l.toArray true).wp P Q a w :=
 wp_region_onev (n := n) N (phi3 ks) x [] hm hN hB (phi3_mono mono) (fun k v w' g cur row _ hv hg h2 h3 h4 => phi3_stab stab k v w' g cur row hv hg h2 h3 h4) (fun g hg => nomatch hg) (fun g hg => nomatch hg) (fun _ => hal) (fun _ => hrow) hsj (fun k o hne ho => by
  have := stepsX_at l 0 (hst _ rfl (fitS_of hB)) k o (by simpa using ho) (by rw [Nat.zero_add]; exact hne)
  rwa [Nat.zero_add] at this) h
theorem move_run {P : Program} {e : Operand → Value} {o : Oper} {x : Operand} (ho : o.op = .move x) (w : World) : (execOp e o).run P w = .ok (.value (e x)) w := by
 simp [execOp, ho, go_sem]
theorem extract_run {P : Program} {e : Operand → Value} {o : Oper} {x : Operand} {i : Nat} {vs : Array Value} {v : Value} (ho : o.op = .extract x i) (hx : e x = .tuple vs) (hv : vs[i]? = some v) (w : World) : (execOp e o).run P w = .ok (.value v) w := by
 simp [execOp, ho, hx, hv, go_sem]
theorem assign_run {P : Program} {e : Operand → Value} {o : Oper} {x : Operand} (ho : o.op = .assign x) (w : World) : (execOp e o).run P w = .ok (.value (e x)) w := by
 simp [execOp, ho, go_sem]
theorem alloc_run {P : Program} {e : Operand → Value} {o : Oper} {ty : TypeId} (ho : o.op = .alloc ty) {u : Value} {w w' : World} (h : (Instr.alloc ty true (.tuple #[])).run P w = .ok u w') : (execOp e o).run P w = .ok (.value u) w' := by
 unfold execOp
 simp only [ho, Sem.run_bind, h, Result.andThen_ok, Sem.run_pure]
theorem ev_const (b : Act) (v : Value) : b.eval (.const v) = v := rfl
end Go.Proofs.YtdaokkgenfpmhaaGreat.Qk

/- The walk of the document's node. -/
set_option linter.unusedVariables false
set_option linter.unusedSimpArgs false
namespace Go.Proofs.YtdaokkgenfpmhaaGreat.BvhZ
open Go Go.RowKit Go.Sort Go.Lib FixM Base Num FixW Qb Qt Qa Qf Qg Qr Qs Qz Qv Qk VecW VecV VecU LightQ LightC MeshM Rec MeshA MeshC MeshD MeshP MeshQ MeshR HitM HitT HitX HitN HitS BvhM BvhA BvhB BvhS BvhD BvhE BvhF BvhQ BvhO BvhR BvhSa
theorem alloc_node (w : World) : (Instr.alloc 77 true (.tuple #[])).run Tryz.prog w = .ok (.pointer (some ⟨w.heap.size, 0, none⟩)) (w.alloc (.cells #[.slice none 0 0, .int .i64 0, .int .i64 0, .int .i64 0, .int .i64 0, .int .i64 0, .int .i64 0, .slice none 0 0] 77)) := by kernel_rfl
theorem node_size : (Tryz.prog.info? 77).map (·.size) = some 8 := by kernel_rfl
theorem mid_row {w : World} {g T : Nat} {v c0 c1 c2 c3 c4 c5 c7 x0 x1 x2 x3 x4 x5 : Value} (h : w.heap[g]? = some (.cells #[v, c0, c1, c2, c3, c4, c5, c7] T)) : (w.setCells g 1 [x0, x1, x2, x3, x4, x5]).heap[g]? = some (.cells #[v, x0, x1, x2, x3, x4, x5, c7] T) :=
 heap_setCell_same _ _ _ _ _ _ (heap_setCell_same _ _ _ _ _ _ (heap_setCell_same _ _ _ _ _ _ (heap_setCell_same _ _ _ _ _ _ (heap_setCell_same _ _ _ _ _ _ (heap_setCell_same _ _ _ _ _ _ h)))))
theorem mid_keeps {S : Nat → Prop} {w0 w : World} {g : Nat} {x0 x1 x2 x3 x4 x5 : Value} (h : Keeps S w0 w) (hg : S g) : Keeps S w0 (w.setCells g 1 [x0, x1, x2, x3, x4, x5]) :=
 (((((h.setCell g 1 x0 (.inl hg)).setCell g 2 x1 (.inl hg)).setCell g 3 x2 (.inl hg)).setCell g 4 x3 (.inl hg)).setCell g 5 x4 (.inl hg)).setCell g 6 x5 (.inl hg)
theorem mid_there {w : World} {g T : Nat} {v c0 c1 c2 c3 c4 c5 c7 : Value} (h : w.heap[g]? = some (.cells #[v, c0, c1, c2, c3, c4, c5, c7] T)) : w.there g 1 6 := by
 intro j hj
 refine ⟨?_, frozen_of_row _ _ _ _ _ h⟩
 have hj2 : j = 0 ∨ j = 1 ∨ j = 2 ∨ j = 3 ∨ j = 4 ∨ j = 5 := by omega
 rcases hj2 with rfl | rfl | rfl | rfl | rfl | rfl <;> (rw [cell_row h _ _ rfl]; rfl)
theorem row_one6 (a b c d e f : Int) : (#[Value.int .i64 a, .int .i64 b, .int .i64 c, .int .i64 d, .int .i64 e, .int .i64 f] : Array Value).all (·.oneCell') = true := by
 rw [Array.all_eq_true']; intro v hv; simp at hv; rcases hv with rfl | rfl | rfl | rfl | rfl | rfl <;> rfl
/-- what stands in the slots of the regions that ask for a half's node -/
def kN (m : Msh) (B B2 : Nat) (T : Tr) (st : Nat) (mv ov lv lenv hv sv : Value) : List K3 := [.val mv, .val ov, .val lv, .val lenv, .val hv, .val sv, .pr (fun w v => ∃ cs : List Value, v = .tuple #[.agg cs.toArray, .int .i64 (st : Int)] ∧ NodeZ B m w T cs), .pr (fun w v => ∃ cs : List Value, v = .tuple #[.agg cs.toArray, .int .i64 (st : Int)] ∧ NodeZ B m w T cs), .pr (fun w v => ∃ cs : List Value, v = .agg cs.toArray ∧ NodeZ B m w T cs), .val (.int .i64 (st : Int)), .pr (alK 77 8 B2), .val undef, .val (.int .i64 (st : Int))]
theorem kN_mono (m : Msh) (B B2 : Nat) (T : Tr) (st : Nat) (mv ov lv lenv hv sv : Value) : All3 K3.mono (kN m B B2 T st mv ov lv lenv hv sv) :=
 ⟨trivial, trivial, trivial, trivial, trivial, trivial, fun v w1 w2 ⟨cs, e, h⟩ hb => ⟨cs, e, NodeZ.below hb _ _ h⟩, fun v w1 w2 ⟨cs, e, h⟩ hb => ⟨cs, e, NodeZ.below hb _ _ h⟩, fun v w1 w2 ⟨cs, e, h⟩ hb => ⟨cs, e, NodeZ.below hb _ _ h⟩, trivial, alK_mono _ _ _, trivial, trivial, trivial⟩
theorem kN_stab (m : Msh) (B B2 : Nat) (T : Tr) (st : Nat) (mv ov lv lenv hv sv : Value) {B' : Nat} : All3 (K3.stab 77 B' 8) (kN m B B2 T st mv ov lv lenv hv sv) :=
 ⟨trivial, trivial, trivial, trivial, trivial, trivial, fun v w g cur row ⟨cs, e, h⟩ _ h2 h3 _ => ⟨cs, e, NodeZ.set h2 h3 _ _ h⟩, fun v w g cur row ⟨cs, e, h⟩ _ h2 h3 _ => ⟨cs, e, NodeZ.set h2 h3 _ _ h⟩, fun v w g cur row ⟨cs, e, h⟩ _ h2 h3 _ => ⟨cs, e, NodeZ.set h2 h3 _ _ h⟩, trivial, alK_stab _ _ _ _, trivial, trivial, trivial⟩
theorem kN_row (m : Msh) (B B2 : Nat) (T : Tr) (st : Nat) (mv ov lv lenv hv sv : Value) : ∀ w v, phi3 (kN m B B2 T st mv ov lv lenv hv sv) 8 w v → ∃ row, v = .agg row ∧ row.size = 8 ∧ row.all (·.oneCell') = true := by
 rintro w v ⟨cs, rfl, h⟩
 exact ⟨_, rfl, h.row⟩
/-- the node under way in block g6 -/
structure Nw6 (w W wr : World) (g6 : Nat) (vl : Value) (b : Bx) : Prop where
 row : wr.heap[g6]? = some (.cells #[vl, .int .i64 b.lo.x, .int .i64 b.lo.y, .int .i64 b.lo.z, .int .i64 b.hi.x, .int .i64 b.hi.y, .int .i64 b.hi.z, .slice none 0 0] 77)
 hb : Below w.heap.size w wr
 k : Keeps (fun j => j = g6) W wr
theorem Nw6.step {w W wr w' : World} {g6 : Nat} {vl : Value} {b : Bx} (s : Nw6 w W wr g6 vl b) (hb : Below wr.heap.size wr w') : Nw6 w W w' g6 vl b :=
 ⟨vec_step s.row hb, s.hb.trans (hb.mono s.hb.size), s.k.trans (Keeps.of_ext hb _) (fun k hk => .inl hk)⟩
theorem Nw6.put {w W wr : World} {g6 : Nat} {vl : Value} {b b' : Bx} (s : Nw6 w W wr g6 vl b) (hg : w.heap.size ≤ g6) : Nw6 w W (wr.setCells g6 1 [.int .i64 b'.lo.x, .int .i64 b'.lo.y, .int .i64 b'.lo.z, .int .i64 b'.hi.x, .int .i64 b'.hi.y, .int .i64 b'.hi.z]) g6 vl b' :=
 ⟨mid_row s.row, s.hb.trans ((mid_keeps (Keeps.refl (fun j => j = g6) wr) rfl).below _ s.hb.size (fun k e => by omega)), mid_keeps s.k rfl⟩
theorem store_mid_box {ops : Array Oper} {rest : List Oper} {o : Oper} {a : Act} {w : World} {Q : Exit → Act → World → Prop} (hgd : o.guard = none) (x y : Operand) (ho : o.op = .store 72 x y) (hd : o.dst = none)
  (g : Nat) (A B C D E F : Int) (hx : a.eval x = .pointer (some ⟨g, 1, none⟩)) (hy : a.eval y = .agg #[.int .i64 A, .int .i64 B, .int .i64 C, .int .i64 D, .int .i64 E, .int .i64 F]) (v c0 c1 c2 c3 c4 c5 c7 : Value) (T : TypeId) (hg : w.heap[g]? = some (.cells #[v, c0, c1, c2, c3, c4, c5, c7] T))
  (h : wpList Tryz.prog ops Q rest a (w.setCells g 1 [.int .i64 A, .int .i64 B, .int .i64 C, .int .i64 D, .int .i64 E, .int .i64 F])) : wpList Tryz.prog ops Q (o :: rest) a w :=
 wpList_store_mid hgd 72 x y ho g 1 _ hx hy (mid_there hg) box_size (row_one6 _ _ _ _ _ _) (by rw [hd]; exact h)
theorem store_nd {ops : Array Oper} {rest : List Oper} {o : Oper} {a : Act} {w : World} {Q : Exit → Act → World → Prop} (hgd : o.guard = none) (x y : Operand) (ho : o.op = .store 77 x y) (hd : o.dst = none)
  (g : Nat) (a1 : Option Addr) (n1 c1 : Nat) (b : Bx) (a2 : Option Addr) (n2 c2 : Nat) (hx : a.eval x = .pointer (some ⟨g, 0, none⟩)) (hy : a.eval y = .agg #[.slice a1 n1 c1, .int .i64 b.lo.x, .int .i64 b.lo.y, .int .i64 b.lo.z, .int .i64 b.hi.x, .int .i64 b.hi.y, .int .i64 b.hi.z, .slice a2 n2 c2]) (cur : Array Value) (hg : w.heap[g]? = some (.cells cur 77)) (hc2 : cur.size = 8)
  (h : wpList Tryz.prog ops Q rest a (w.setRow g #[.slice a1 n1 c1, .int .i64 b.lo.x, .int .i64 b.lo.y, .int .i64 b.lo.z, .int .i64 b.hi.x, .int .i64 b.hi.y, .int .i64 b.hi.z, .slice a2 n2 c2])) : wpList Tryz.prog ops Q (o :: rest) a w :=
 wpList_store_arr hgd 77 x y ho g _ hx hy 77 cur hg node_size (by rw [hc2]; rfl) (by intro v hv; simp at hv; rcases hv with rfl | rfl | rfl | rfl | rfl | rfl | rfl | rfl <;> rfl) hd h
/-- the order while its end is moved up: places up to j as they were, the rest one on -/
def shF (L : List Nat) (j : Nat) : List Nat := (L ++ [0]).take (j + 1) ++ L.drop j
theorem sh_start (L : List Nat) : shF L L.length = L ++ [0] := by unfold shF; rw [List.take_of_length_le (by simp), List.drop_length, List.append_nil]
theorem sh_len (L : List Nat) (j : Nat) (h : j ≤ L.length) : (shF L j).length = L.length + 1 := by unfold shF; simp; omega
theorem sh_at (L : List Nat) (j i : Nat) (h : j ≤ L.length) (hi : i < j) : (shF L j)[i]? = L[i]? := by
 unfold shF
 rw [List.getElem?_append_left (by simp; omega), List.getElem?_take_of_lt (by omega), List.getElem?_append_left (by omega)]
theorem sh_next (L : List Nat) (j : Nat) (h : j + 1 ≤ L.length) (x : Nat) (hx : L[j]? = some x) : (shF L (j + 1)).set (j + 1) x = shF L j := by
 apply List.ext_getElem?
 intro i
 unfold shF
 by_cases c : i = j + 1
 ·
  subst c
  rw [List.getElem?_set_self (by simp; omega), List.getElem?_append_right (by simp; omega), List.getElem?_drop]
  rw [← hx]; congr 1; simp; omega
 ·
  rw [List.getElem?_set_ne (by omega)]
  by_cases c2 : i < j + 1
  ·
   rw [List.getElem?_append_left (by simp; omega), List.getElem?_append_left (by simp; omega), List.getElem?_take_of_lt (by omega), List.getElem?_take_of_lt (by omega)]
  ·
   rw [List.getElem?_append_right (by simp; omega), List.getElem?_append_right (by simp; omega), List.getElem?_drop, List.getElem?_drop]
   congr 1; simp; omega
theorem sh_end (m : Msh) (ax x : Nat) (L : List Nat) : (shF L (posF m ax x L)).set (posF m ax x L) x = insF m ax L x := by
 have hp := pos_le m ax x L
 unfold insF
 generalize posF m ax x L = p at hp ⊢
 apply List.ext_getElem?
 intro i
 unfold shF
 by_cases c : i = p
 ·
  subst c
  rw [List.getElem?_set_self (by simp; omega), List.getElem?_append_right (by simp; omega)]
  have : i - (L.take i).length = 0 := by simp; omega
  rw [this]; rfl
 ·
  rw [List.getElem?_set_ne (by omega)]
  by_cases c2 : i < p
  ·
   rw [List.getElem?_append_left (by simp; omega), List.getElem?_append_left (by simp; omega), List.getElem?_take_of_lt (by omega), List.getElem?_take_of_lt (by omega), List.getElem?_append_left (by omega)]
  ·
   rw [List.getElem?_append_right (by simp; omega), List.getElem?_append_right (by simp; omega), List.getElem?_drop]
   have e : i - (L.take p).length = (i - p - 1) + 1 := by simp; omega
   rw [e, List.getElem?_cons_succ, List.getElem?_drop]
   congr 1; simp; omega
/-- the order under way -/
structure Or6 (W wr : World) (NB : Nat) (vo : Value) (L : List Nat) : Prop where
 o : Own .i64 9223372036854775808 3 NB wr vo L
 kb : Below NB W wr
 nb : NB ≤ wr.heap.size
theorem Or6.step {W wr w' : World} {NB : Nat} {vo : Value} {L : List Nat} (h : Or6 W wr NB vo L) (hb : Below wr.heap.size wr w') : Or6 W w' NB vo L := ⟨h.o.below hb (Nat.le_refl _), h.kb.trans (hb.mono h.nb), Nat.le_trans h.nb hb.size⟩
theorem Or6.grown {W wr w' : World} {NB : Nat} {vo v' : Value} {L L' : List Nat} (h : Or6 W wr NB vo L) (hg : wr.grownBy w' vo.ownBlock) (ho : Own .i64 9223372036854775808 3 NB w' v' L') : Or6 W w' NB v' L' := ⟨ho, below_grown h.kb h.o hg (Nat.le_refl _) h.nb, Nat.le_trans h.nb hg.size⟩
theorem Or6.set {W wr : World} {NB g j y : Nat} {vo : Value} {L L' : List Nat} (h : Or6 W wr NB vo L) (hg : NB ≤ g) (ho : Own .i64 9223372036854775808 3 NB (wr.setCell ⟨g, j, none⟩ (.int .i64 (y : Int))) vo L') : Or6 W (wr.setCell ⟨g, j, none⟩ (.int .i64 (y : Int))) NB vo L' := ⟨ho, h.kb.setCell hg _, Nat.le_trans h.nb ((Below.refl NB wr).setCell hg _).size⟩
def boxK (m : Msh) (l : List Nat) (k : Nat) : Bx := boxL m (l.take (k + 1))
theorem boxK_next (m : Msh) (l : List Nat) (k : Nat) (h : k + 1 < l.length) : boxK m l (k + 1) = joinB (boxK m l k) (boxF m (l[k + 1] : Int)) := by
 unfold boxK
 cases l with
 | nil => simp at h
 | cons x l =>
  have hk : k < l.length := by simpa using h
  rw [List.take_succ_cons, List.take_succ_cons]
  show List.foldl _ _ _ = _
  rw [List.take_add_one, List.getElem?_eq_getElem hk, List.foldl_append]
  rfl
theorem boxK_zero (m : Msh) (l : List Nat) (h : 0 < l.length) : boxK m l 0 = boxF m (l[0] : Int) := by
 unfold boxK
 cases l with
 | nil => simp at h
 | cons x l => rfl
theorem boxK_all (m : Msh) (l : List Nat) (k : Nat) (h : l.length ≤ k + 1) : boxK m l k = boxL m l := by unfold boxK; rw [List.take_of_length_le h]
set_option maxRecDepth 100000 in
set_option maxHeartbeats 16000000 in
theorem node_walk (m : Msh) (ok : m.ok) (hl : m.ts.length + m.bs.length ≤ 9223372036854775807) (v : Value) (B : Nat) :
  ∀ (n : Nat) (l : List Nat) (vl : Value) (w : World), IsMesh w v m → Nums .i64 9223372036854775808 w vl l → Sf B w vl → B ≤ w.heap.size → l.length ≤ n → 1 ≤ l.length → l.length ≤ 5000 → (∀ T : Tr, T = treeF m n l → stepsT T ≤ 1000000) →
   Calls Tryz.prog 27 #[v, vl] w (fun e w' => ∃ cs, e = .returned (.tuple #[.agg cs.toArray, .int .i64 (stepsT (treeF m n l) : Int)]) ∧ NodeZ B m w' (treeF m n l) cs ∧ Below w.heap.size w w') := by
 intro n
 induction n with
 | zero => intro l vl w _ _ _ _ h1 h2; omega
 | succ n ih =>
  intro l vl w hm hv hsf hBw hln hl1 hl5 hst
  have IH := Lib.hid ih
  have HST := Lib.hid (hst _ rfl)
  clear ih hst
  obtain ⟨a0, c0, a1, c1, a2, c2, hva, -⟩ := hm.open_
  obtain ⟨av, lc, hvl, -, hbd, hco⟩ := hv.open_
  obtain ⟨lb, lo, rfl, hlb, hlc⟩ := hco 0 (by omega)
  have HLB := Lib.hid hlb
  have HLC := Lib.hid hlc
  have HBD := Lib.hid hbd
  have HV := Lib.hid hv
  have HM := Lib.hid hm
  have HSF := Lib.hid hsf
  have HBW := Lib.hid hBw
  clear hsf hBw
  have HLN := Lib.hid (And.intro hln (And.intro hl1 hl5))
  have CB := Lib.hid (fun w2 (hb : Below w.heap.size w w2) (i : Nat) (hi : i < 9223372036854775808) => rbox_any v m w2 (hm.below hb) ok hl (i : Int) ⟨by omega, by omega⟩)
  have CY := Lib.hid (fun w2 (hb : Below w.heap.size w w2) (i : Nat) (hi : i < 9223372036854775808) (ax : Nat) (hax : byAx ax) => by_walk v m w2 (hm.below hb) ok hl i (by omega) ax hax)
  have HOB := Lib.hid (fun (L : List Nat) => (show HitM.Bx.ok (boxL m L) by rw [← boxS_boxes]; exact BvhX.ok_boxS (BvhE.ok_boxes m ok) _))
  obtain ⟨n0, hn0⟩ : ∃ x, x = m.ps.length := ⟨_, rfl⟩
  obtain ⟨n1, hn1⟩ : ∃ x, x = m.ts.length := ⟨_, rfl⟩
  obtain ⟨n2, hn2⟩ : ∃ x, x = m.bs.length := ⟨_, rfl⟩
  obtain ⟨ln, hln2⟩ : ∃ x, x = l.length := ⟨_, rfl⟩
  rw [← hn0, ← hn1, ← hn2] at hva
  rw [← hln2] at hvl
  have HLE := Lib.hid hln2
  subst hva hvl
  clear hn0 hn1 hn2 hln2 hlb hlc hbd hv hm hco hln hl1 hl5
  unfold boxV at CB
  have hA := alloc2_0 w (.cells #[.slice a0 n0 c0, .slice a1 n1 c1, .slice a2 n2 c2] 31) (.cells #[.slice none 0 0, .int .i64 0, .int .i64 0, .int .i64 0, .int .i64 0, .int .i64 0, .int .i64 0, .slice none 0 0] 77)
  have hB := alloc2_1 w (.cells #[.slice a0 n0 c0, .slice a1 n1 c1, .slice a2 n2 c2] 31) (.cells #[.slice none 0 0, .int .i64 0, .int .i64 0, .int .i64 0, .int .i64 0, .int .i64 0, .int .i64 0, .slice none 0 0] 77)
  have hB0 := alloc2_below w (.cells #[.slice a0 n0 c0, .slice a1 n1 c1, .slice a2 n2 c2] 31) (.cells #[.slice none 0 0, .int .i64 0, .int .i64 0, .int .i64 0, .int .i64 0, .int .i64 0, .int .i64 0, .slice none 0 0] 77)
  obtain ⟨W, hW⟩ : ∃ ww, ww = (w.alloc (.cells #[.slice a0 n0 c0, .slice a1 n1 c1, .slice a2 n2 c2] 31)).alloc (.cells #[.slice none 0 0, .int .i64 0, .int .i64 0, .int .i64 0, .int .i64 0, .int .i64 0, .int .i64 0, .slice none 0 0] 77) := ⟨_, rfl⟩
  rw [← hW] at hA hB hB0
  have HP := Lib.hid hA
  have HZ := Lib.hid hB
  have HB := Lib.hid hB0
  have HWW := Lib.hid hW
  clear hA hB hB0 hW
  have h0l : 0 < ln := by have := HLN.out; have := HLE.out; omega
  have hl0 : 0 < l.length := by have := HLN.out; omega
  obtain ⟨i0, hi0⟩ : ∃ x, x = l[0] := ⟨_, rfl⟩
  have HI0 := Lib.hid (show i0 < 9223372036854775808 by rw [hi0]; exact HBD.out _ (List.getElem_mem _))
  have HK0 := Lib.hid (show boxK m l 0 = boxF m (i0 : Int) by rw [hi0]; exact boxK_zero m l hl0)
  have KP := Lib.hid (fun W9 (hb : Below W.heap.size W W9) => vec_step HP.out hb)
  have KL := Lib.hid (fun W9 (hb : Below W.heap.size W W9) => (show W9.cell? ⟨lb, lo, none⟩ = some (.int .i64 (i0 : Int)) by
   have h1 := (hb.cell (p := ⟨lb, lo + 0, none⟩) (Nat.lt_of_lt_of_le HLB.out HB.out.size)).trans ((HB.out.cell (p := ⟨lb, lo + 0, none⟩) HLB.out).trans (HLC.out 0 hl0))
   rw [← hi0, Nat.add_zero] at h1
   exact h1))
  have CB0 := Lib.hid (fun W9 (hb : Below W.heap.size W W9) => CB.out W9 (HB.out.trans (hb.mono HB.out.size)) i0 HI0.out)
  obtain ⟨bx, hbx⟩ : ∃ x, x = boxF m (i0 : Int) := ⟨_, rfl⟩
  rw [← hbx] at CB0 HK0
  clear hbx hi0
  go_enter Tryz.func27, Tryz.ntmps27
  go_upto_region 1 with (fail)
  rw [← HWW.out]
  clear HWW
  refine wp_region_free 159 [0, 1, 2, 3, 4, 5, 6] [⟨7, 6, #[.slice none 0 0, .int .i64 0, .int .i64 0, .int .i64 0, .int .i64 0, .int .i64 0, .int .i64 0, .slice none 0 0], 77, 8, 24, #[.slice (some ⟨lb, lo, none⟩) ln lc, .int .i64 bx.lo.x, .int .i64 bx.lo.y, .int .i64 bx.lo.z, .int .i64 bx.hi.x, .int .i64 bx.hi.y, .int .i64 bx.hi.z, .slice none 0 0]⟩] (by kernel_rfl) rfl (by kernel_rfl) (by
   intro x hx
   simp only [List.mem_cons, List.not_mem_nil, or_false] at hx
   subst hx
   exact ⟨⟨_, rfl, ⟨⟨_, rfl, alloc_node⟩, rfl, rfl⟩⟩, _, rfl, ⟨⟨_, rfl, node_size⟩, rfl, rfl, rfl, row_one8 _ _ _ _ _ _ _⟩⟩) ?_
  refine Walk.step (A := ?Aa0) (o := ?oa0) ?ea0 ?wa0 18 ?da0 (by simp) ?ha0 ?na0
  case ea0 => simp only [List.getElem?_toArray, List.getElem?_cons_succ, List.getElem?_cons_zero]; exact rfl
  case wa0 => exact rfl
  case da0 => exact rfl
  case ha0 =>
   intro W9 hW9
   go_big_quiet_op
   exact rfl
  refine Walk.step (A := ?Aa1) (o := ?oa1) ?ea1 ?wa1 19 ?da1 (by simp) ?ha1 ?na1
  case ea1 => simp only [List.getElem?_toArray, List.getElem?_cons_succ, List.getElem?_cons_zero]; exact rfl
  case wa1 => exact rfl
  case da1 => exact rfl
  case ha1 =>
   intro W9 hW9
   have z0 := cell_all (KP.out W9 hW9) 0 _ rfl
   have z1 := cell_all (KP.out W9 hW9) 1 _ rfl
   have z2 := cell_all (KP.out W9 hW9) 2 _ rfl
   go_big_quiet_op
   exact rfl
  refine Walk.step (A := ?Aa2) (o := ?oa2) ?ea2 ?wa2 20 ?da2 (by simp) ?ha2 ?na2
  case ea2 => simp only [List.getElem?_toArray, List.getElem?_cons_succ, List.getElem?_cons_zero]; exact rfl
  case wa2 => exact rfl
  case da2 => exact rfl
  case ha2 =>
   intro W9 hW9
   go_big_quiet_op
   exact rfl
  refine Walk.step (A := ?Aa3) (o := ?oa3) ?ea3 ?wa3 21 ?da3 (by simp) ?ha3 ?na3
  case ea3 => simp only [List.getElem?_toArray, List.getElem?_cons_succ, List.getElem?_cons_zero]; exact rfl
  case wa3 => exact rfl
  case da3 => exact rfl
  case ha3 =>
   intro W9 hW9
   have z0 := h0l
   go_big_quiet_op
   exact rfl
  refine Walk.step (A := ?Aa4) (o := ?oa4) ?ea4 ?wa4 22 ?da4 (by simp) ?ha4 ?na4
  case ea4 => simp only [List.getElem?_toArray, List.getElem?_cons_succ, List.getElem?_cons_zero]; exact rfl
  case wa4 => exact rfl
  case da4 => exact rfl
  case ha4 =>
   intro W9 hW9
   have z0 := fun d os => cell_regrown (KL.out W9 hW9) d os
   go_big_quiet_op
   exact rfl
  refine Walk.step (A := ?Aa5) (o := ?oa5) ?ea5 ?wa5 23 ?da5 (by simp) ?ha5 ?na5
  case ea5 => simp only [List.getElem?_toArray, List.getElem?_cons_succ, List.getElem?_cons_zero]; exact rfl
  case wa5 => exact rfl
  case da5 => exact rfl
  case ha5 =>
   intro W9 hW9
   have Q9 := qb (P := Tryz.prog) (W := W9) (fun w2 hb => CB0.out w2 (hW9.trans (hb.mono hW9.size)))
   go_big_quiet_op
   apply Exists.intro
   refine ⟨fun _ => ?_, ?_⟩
   ·
    with_reducible exact Q9 _ _
   ·
    exact rfl
  refine Walk.step (A := ?Aa6) (o := ?oa6) ?ea6 ?wa6 24 ?da6 (by simp) ?ha6 ?na6
  case ea6 => simp only [List.getElem?_toArray, List.getElem?_cons_succ, List.getElem?_cons_zero]; exact rfl
  case wa6 => exact rfl
  case da6 => exact rfl
  case ha6 =>
   intro W9 hW9
   go_big_quiet_op
   exact rfl
  refine ⟨?_, ?_⟩
  ·
   intro x hx
   simp only [List.mem_cons, List.not_mem_nil, or_false] at hx
   subst hx
   rfl
  intro G hG hne y1 hb hk
  have k7 := hk _ (List.mem_cons_self ..)
  dsimp only at k7
  have kg : W.heap.size ≤ G 7 := by first | exact hG _ (List.mem_cons_self ..) | exact hG ⟨7, 6, #[.slice none 0 0, .int .i64 0, .int .i64 0, .int .i64 0, .int .i64 0, .int .i64 0, .int .i64 0, .slice none 0 0], 77, 8, 24, #[.slice (some ⟨lb, lo, none⟩) ln lc, .int .i64 bx.lo.x, .int .i64 bx.lo.y, .int .i64 bx.lo.z, .int .i64 bx.hi.x, .int .i64 bx.hi.y, .int .i64 bx.hi.z, .slice none 0 0]⟩ (List.mem_cons_self ..)
  have HGE := Lib.hid (show w.heap.size + 1 < G 7 from Nat.lt_of_lt_of_le (Base.lt_of_heap HZ.out) kg)
  simp only [lay, Act.put, List.setIfInBounds_toArray, List.set_cons_succ, List.set_cons_zero, ptr]
  generalize G 7 = g6 at k7 HGE ⊢
  have HP1 := Lib.hid (vec_step HP.out hb)
  have HZ1 := Lib.hid (vec_step HZ.out hb)
  have HB1 := Lib.hid (HB.out.trans (hb.mono HB.out.size))
  have HS0 := Lib.hid (show Nw6 w y1 y1 g6 (.slice (some ⟨lb, lo, none⟩) ln lc) (boxK m l 0) from ⟨by rw [HK0.out]; exact k7, HB1.out, Keeps.refl _ _⟩)
  clear hG hne hb hk k7 kg KP KL CB0 HP HZ HB HK0
  clear W
  go_wp2_with fail
  go_loopg [7] ln (fun r n7 wr => ∃ k k1 : Nat, k + r = ln ∧ n7 = .int .i64 (k1 : Int) ∧ Hid (k1 = k + 1 ∧ k < ln ∧ Nw6 w y1 wr g6 (.slice (some ⟨lb, lo, none⟩) ln lc) (boxK m l k)))
  case atStart => exact ⟨0, 1, by omega, rfl, Lib.hid ⟨rfl, h0l, HS0.out⟩⟩
  case round =>
   obtain ⟨k, k1, hkr, rfl, hin⟩ := hrel
   have HNX := Lib.hid hin.out.2.2
   have HP9 := Lib.hid (keep_cell HNX.out.k HP1.out (fun e => by have := HGE.out; omega))
   have HZ9 := Lib.hid (keep_cell HNX.out.k HZ1.out (fun e => by have := HGE.out; omega))
   by_cases hk : k1 < ln
   ·
    have d1 : decide ((k1 : Int) < (ln : Int)) = true := decide_eq_true (by omega)
    have d1b : decide (k1 < ln) = true := decide_eq_true hk
    have hk1 := hin.out.1
    have hkl : k + 1 < l.length := by have := HLE.out; omega
    have HMS := Lib.hid (show ln - (k + 1) < gk by omega)
    have HKR := Lib.hid (show k + 1 + (ln - (k + 1)) = ln by omega)
    have HKL := Lib.hid (show k + 1 < ln by omega)
    have HLM := Lib.hid (show ln ≤ 5000 by have h1 := HLN.out.2.2; have h2 := HLE.out; omega)
    obtain ⟨k2, hk2⟩ : ∃ x, x = k1 + 1 := ⟨_, rfl⟩
    have i1 : IntKind.i64.wrap ((k1 : Int) + 1) = (k2 : Int) := by have := HLM.out; rw [wrap_in (by omega) (by omega)]; omega
    have HK2 := Lib.hid (show k2 = k + 1 + 1 by omega)
    have HNB := Lib.hid (boxK_next m l k hkl)
    obtain ⟨i0, hi0⟩ : ∃ x, x = l[k + 1] := ⟨_, rfl⟩
    rw [← hi0] at HNB
    have HI0 := Lib.hid (show i0 < 9223372036854775808 by rw [hi0]; exact HBD.out _ (List.getElem_mem _))
    have z0 : wr.cell? ⟨lb, lo + k1, none⟩ = some (.int .i64 (i0 : Int)) := by
     have h1 := (HNX.out.hb.cell (p := ⟨lb, lo + (k + 1), none⟩) HLB.out).trans (HLC.out (k + 1) hkl)
     rw [← hi0, ← hk1] at h1
     exact h1
    have f0 := fun d os => cell_regrown z0 d os
    obtain ⟨bx2, hbx2⟩ : ∃ x, x = boxF m (i0 : Int) := ⟨_, rfl⟩
    have CB0 := Lib.hid (fun W9 (hb : Below wr.heap.size wr W9) => CB.out W9 (HNX.out.hb.trans (hb.mono HNX.out.hb.size)) i0 HI0.out)
    rw [← hbx2] at CB0 HNB
    obtain ⟨bk, hbk⟩ : ∃ x, x = boxK m l k := ⟨_, rfl⟩
    have hnx := HNX.out
    rw [← hbk] at HNB hnx
    have HN2 := Lib.hid hnx
    have CJ := Lib.hid (fun W9 => join_walk W9 bk bx2)
    obtain ⟨j, hj⟩ : ∃ x, x = joinB bk bx2 := ⟨_, rfl⟩
    rw [← hj] at CJ HNB
    clear hkr hin hk1 hkl hk2 hi0 hbx2 hbk hnx hj z0 HNX
    have u1 := fun d os => cell_regrown (cell_row HN2.out.row 1 _ rfl) d os
    have u2 := fun d os => cell_regrown (cell_row HN2.out.row 2 _ rfl) d os
    have u3 := fun d os => cell_regrown (cell_row HN2.out.row 3 _ rfl) d os
    have u4 := fun d os => cell_regrown (cell_row HN2.out.row 4 _ rfl) d os
    have u5 := fun d os => cell_regrown (cell_row HN2.out.row 5 _ rfl) d os
    have u6 := fun d os => cell_regrown (cell_row HN2.out.row 6 _ rfl) d os
    have p0 := fun d os => cell_regrown (cell_row HP9.out 0 _ rfl) d os
    have p1 := fun d os => cell_regrown (cell_row HP9.out 1 _ rfl) d os
    have p2 := fun d os => cell_regrown (cell_row HP9.out 2 _ rfl) d os
    have Q1 := Lib.hid (qb (P := Tryz.prog) (W := wr) (fun w2 hb => CB0.out w2 hb))
    have Q2 := Lib.hid (qb (P := Tryz.prog) (W := wr) (fun w2 hb => CJ.out w2))
    go_upto_region 5 with (fail)
    refine wp_region_below_tail 9 (by kernel_rfl) (by kernel_rfl) ?_
    simp only [List.take_succ_cons, List.take_zero, List.drop_succ_cons, List.drop_zero]
    repeat (go_big_quiet_step (first | (with_reducible exact Q1.out _ _) | (with_reducible exact Q2.out _ _)))
    refine wpQuiet_nil ?_
    rintro _ ⟨⟨dq, osq⟩, rfl⟩
    have hb := below_regrown wr dq osq
    obtain ⟨W2, hW⟩ : ∃ ww, ww = grow (redrawn wr dq) osq := ⟨_, rfl⟩
    rw [← hW] at hb ⊢
    have HN3 := Lib.hid (HN2.out.step hb)
    clear hW hb u1 u2 u3 u4 u5 u6 p0 p1 p2 Q1 Q2 f0
    go_wp2_with (with_reducible refine store_mid_box rfl (.tmp 40) (.tmp 39) rfl rfl g6 j.lo.x j.lo.y j.lo.z j.hi.x j.hi.y j.hi.z rfl rfl _ _ _ _ _ _ _ _ _ HN3.out.row ?_)
    go_roundg (ln - (k + 1))
    case measure => exact HMS.out
    case rel => exact ⟨k + 1, k2, HKR.out, rfl, Lib.hid ⟨HK2.out, HKL.out, by rw [HNB.out]; exact HN3.out.put (by have := HGE.out; omega)⟩⟩
   ·
    have hkn : ln = k + 1 := by have h1 := hin.out.1; have h2 := hin.out.2.1; omega
    have HBA := Lib.hid (show boxK m l k = boxL m l from boxK_all m l k (by have h := HLE.out; omega))
    have d1 : decide ((k1 : Int) < (ln : Int)) = false := decide_eq_false (by omega)
    have d1b : decide (k1 < ln) = false := decide_eq_false hk
    obtain ⟨bl, hbl⟩ : ∃ x, x = boxL m l := ⟨_, rfl⟩
    have hnx := HNX.out
    rw [HBA.out, ← hbl] at hnx
    have HN2 := Lib.hid hnx
    have HBL := Lib.hid hbl
    clear hkr hin hkn hbl hnx HNX HBA
    go_upto_region 6 with (fail)
    clear d1 d1b hk
    have e0 := cell_row HN2.out.row 0 _ rfl
    have e1 := cell_row HN2.out.row 1 _ rfl
    have e2 := cell_row HN2.out.row 2 _ rfl
    have e3 := cell_row HN2.out.row 3 _ rfl
    have e4 := cell_row HN2.out.row 4 _ rfl
    have e5 := cell_row HN2.out.row 5 _ rfl
    have e6 := cell_row HN2.out.row 6 _ rfl
    have e7 := cell_row HN2.out.row 7 _ rfl
    by_cases h2 : ln ≤ 2
    ·
     have d2 : decide ((ln : Int) ≤ 2) = true := decide_eq_true (by omega)
     have d2b : decide (ln ≤ 2) = true := decide_eq_true h2
     have HTR := Lib.hid (show treeF m (n + 1) l = .leaf l by unfold treeF; rw [if_pos (by have := HLE.out; omega)])
     clear h2
     go_wp2_with (with_reducible refine store_nd rfl (.tmp 4) (.tmp 44) rfl rfl (w.heap.size + 1) (some ⟨lb, lo, none⟩) ln lc bl none 0 0 rfl rfl _ HZ9.out rfl ?_)
     refine bodyPost_ret (results_row_tmp rfl _ _ _ (w.heap.size + 1) 77 _ _ _ rfl (setRow_heap _ _ _ _ _ _ HZ9.out) Tryz.underlying77 node_size) rfl ?_
     refine ⟨ncells (.slice (some ⟨lb, lo, none⟩) ln lc) bl (.slice none 0 0), ?_, ?_, below_setRow HN2.out.hb (Nat.le_succ _) _⟩
     ·
      rw [HTR.out]
      show Ending.returned (.tuple #[.agg _, .int .i64 (ln : Int)]) = .returned (.tuple #[.agg _, .int .i64 (l.length : Int)])
      rw [← HLE.out]; rfl
     ·
      rw [HTR.out]
      exact ⟨_, _, _, none, 0, by rw [HBL.out], HV.out.below (below_setRow HN2.out.hb (Nat.le_succ _) _) (Nat.le_refl _), HSF.out.below (below_setRow HN2.out.hb (Nat.le_succ _) _)⟩
    ·
     have d2 : decide ((ln : Int) ≤ 2) = false := decide_eq_false (by omega)
     have d2b : decide (ln ≤ 2) = false := decide_eq_false h2
     obtain ⟨ax, hax⟩ : ∃ x, x = axisF bl := ⟨_, rfl⟩
     have CLO := Lib.hid (fun w2 => longest_walk w2 bl (by rw [HBL.out]; exact HOB.out l))
     rw [← hax] at CLO
     have HBYA := Lib.hid (show byAx ax by rw [hax]; exact axis_by bl)
     have HAX := Lib.hid hax
     have HL2 := Lib.hid h2
     clear hax h2
     go_wp2_with fail
     refine (CLO.out _).mono ?_
     rintro e w5 ⟨rfl, hb⟩
     have HN5 := Lib.hid (HN2.out.step hb)
     have HP5 := Lib.hid (vec_step HP9.out hb)
     have HZ5 := Lib.hid (vec_step HZ9.out hb)
     clear hb e0 e1 e2 e3 e4 e5 e6 e7 CLO d2 d2b HN2 HP9 HZ9 HP1 HZ1
     go_wp2_with fail
     have HB5 := Lib.hid HN5.out.hb
     obtain ⟨NB, hNB⟩ : ∃ x, x = w5.heap.size := ⟨_, rfl⟩
     have HO5 := Lib.hid (show Or6 w5 w5 NB (.slice none 0 0) (insAll m ax (l.take 0)) from ⟨by rw [List.take_zero]; exact Own.nil _ _ _ _ _, Below.refl _ _, by rw [hNB]; exact Nat.le_refl _⟩)
     have HNB := Lib.hid hNB
     have HLM := Lib.hid (show ln ≤ 5000 by have h1 := HLN.out.2.2; have h2 := HLE.out; omega)
     clear hNB
     go_loopg [9, 10] ln (fun r n9 n10 wr => ∃ (k : Nat) (vo : Value), k + r = ln ∧ n9 = vo ∧ n10 = .int .i64 (k : Int) ∧ Hid (Or6 w5 wr NB vo (insAll m ax (l.take k))))
     case atStart => exact ⟨0, _, by omega, rfl, rfl, HO5⟩
     case round =>
      obtain ⟨k, vo, hkr, rfl, rfl, hin⟩ := hrel
      have HO := hin
      have HB6 := Lib.hid (HB5.out.trans ((show Below w5.heap.size w5 wr by rw [← HNB.out]; exact hin.out.kb).mono HB5.out.size))
      have HP6 := Lib.hid (vec_step HP5.out (show Below w5.heap.size w5 wr by rw [← HNB.out]; exact hin.out.kb))
      have HZ6 := Lib.hid (vec_step HZ5.out (show Below w5.heap.size w5 wr by rw [← HNB.out]; exact hin.out.kb))
      have HN6 := Lib.hid (vec_step HN5.out.row (show Below w5.heap.size w5 wr by rw [← HNB.out]; exact hin.out.kb))
      obtain ⟨ao, no, co, hvo⟩ := hin.out.o.slice_
      subst hvo
      clear hin
      by_cases hk : k < ln
      ·
       have d1 : decide ((k : Int) < (ln : Int)) = true := decide_eq_true (by omega)
       have d1b : decide (k < ln) = true := decide_eq_true hk
       have hkl : k < l.length := by have := HLE.out; omega
       have HMS := Lib.hid (show ln - (k + 1) < gk by omega)
       have HKR := Lib.hid (show k + 1 + (ln - (k + 1)) = ln by omega)
       have HNXL := Lib.hid (insAll_next m ax l k hkl)
       have hLen := insAll_len m ax (l.take k)
       rw [List.length_take, show min k l.length = k by omega] at hLen
       have hno : no = k := by have h1 := HO.out.o.slice_len; omega
       subst hno
       obtain ⟨L, hL⟩ : ∃ x, x = insAll m ax (l.take no) := ⟨_, rfl⟩
       rw [← hL] at HNXL hLen
       have HO1 := Lib.hid (show Or6 w5 wr NB (.slice ao no co) L by rw [hL]; exact HO.out)
       have HLN2 := Lib.hid hLen
       obtain ⟨i0, hi0⟩ : ∃ x, x = l[no] := ⟨_, rfl⟩
       rw [← hi0] at HNXL
       have HIE := Lib.hid hi0
       have HI0 := Lib.hid (show i0 < 9223372036854775808 by rw [hi0]; exact HBD.out _ (List.getElem_mem _))
       have z0 : wr.cell? ⟨lb, lo + no, none⟩ = some (.int .i64 (i0 : Int)) := by
        have h1 := (HB6.out.cell (p := ⟨lb, lo + no, none⟩) HLB.out).trans (HLC.out no hkl)
        rw [← hi0] at h1
        exact h1
       have f0 := fun d os => cell_regrown z0 d os
       have p0 := fun d os => cell_regrown (cell_row HP6.out 0 _ rfl) d os
       have p1 := fun d os => cell_regrown (cell_row HP6.out 1 _ rfl) d os
       have p2 := fun d os => cell_regrown (cell_row HP6.out 2 _ rfl) d os
       have Q1 := Lib.hid (qb (P := Tryz.prog) (W := wr) (fun w2 hb => CY.out w2 (HB6.out.trans (hb.mono HB6.out.size)) i0 HI0.out ax HBYA.out))
       obtain ⟨X, hX⟩ : ∃ x, x = keyF m ax i0 := ⟨_, rfl⟩
       rw [← hX] at Q1
       have HX := Lib.hid hX
       clear HO hL hLen hi0 hkr hX
       go_upto_region 13 with (fail)
       refine wp_region_quiet_below (by kernel_rfl) (by kernel_rfl) ?_
       repeat (go_big_quiet_step (first | (with_reducible exact Q1.out _ _)))
       refine wpQuiet_nil ?_
       first | (rintro _ ⟨⟨dq, osq⟩, rfl⟩) | (rintro ⟨dq, osq⟩)
       have hb := below_regrown wr dq osq
       obtain ⟨x1, hW⟩ : ∃ ww, ww = grow (redrawn wr dq) osq := ⟨_, rfl⟩
       rw [← hW] at hb ⊢
       have HO2 := Lib.hid (HO1.out.step hb)
       have HB7 := Lib.hid (HB6.out.trans (hb.mono HB6.out.size))
       have HP7 := Lib.hid (vec_step HP6.out hb)
       clear hW hb f0 p0 p1 p2 Q1 z0 HO1 HB6 HP6 HZ6 HN6
       clear wr
       go_upto_block 4 with (fail)
       obtain ⟨ps, hps⟩ : ∃ x, x = posF m ax i0 L := ⟨_, rfl⟩
       have hple := pos_le m ax i0 L
       rw [← hps] at hple
       have HPS := Lib.hid (And.intro hps (And.intro (pos_less m ax i0 L) (pos_stop m ax i0 L)))
       have HPL := Lib.hid (show ps ≤ no by have h1 := HLN2.out; omega)
       clear hps hple
       go_cut [12] from 63 to 101 (fun n12 wc => n12 = .int .i64 (ps : Int) ∧ Hid (Below x1.heap.size x1 wc))
       case first =>
        go_wp2_with fail
        go_loopg [12] ps (fun r n12 wr => ∃ a : Nat, a + r = ps ∧ n12 = .int .i64 (a : Int) ∧ Hid (Below x1.heap.size x1 wr))
        case atStart => exact ⟨0, by omega, rfl, Lib.hid (Below.refl _ _)⟩
        case round =>
         obtain ⟨a, har, rfl, hin⟩ := hrel
         have HI8 := Lib.hid hin.out
         have HO3 := Lib.hid (HO2.out.step hin.out)
         have HB8 := Lib.hid (HB7.out.trans (hin.out.mono HB7.out.size))
         have HP8 := Lib.hid (vec_step HP7.out hin.out)
         clear hin
         by_cases ha : a < no
         ·
          have d2 : decide ((a : Int) < (no : Int)) = true := decide_eq_true (by omega)
          have d2b : decide (a < no) = true := decide_eq_true ha
          have haL : a < L.length := by have := HLN2.out; omega
          obtain ⟨og, cp, eo, -, -, -, hcell, -, -⟩ := HO3.out.o.at_ (by omega)
          simp only [Value.slice.injEq] at eo
          obtain ⟨rfl, -, -⟩ := eo
          have z1 := hcell a haL
          obtain ⟨y, hy⟩ : ∃ x, x = L[a] := ⟨_, rfl⟩
          rw [← hy] at z1
          have HYB := Lib.hid (show y < 9223372036854775808 by rw [hy]; exact HO3.out.o.bound _ (List.getElem_mem haL))
          have HYL := Lib.hid (show (a < ps → ltF m ax y i0 = true) ∧ (a = ps → ¬ ltF m ax y i0 = true) from ⟨fun h => by rw [hy]; exact HPS.out.2.1 a haL (by rw [← HPS.out.1]; exact h), fun h => by subst h; rw [hy]; have h1 := HPS.out.1; subst h1; exact HPS.out.2.2 haL⟩)
          have z0 : wr.cell? ⟨lb, lo + no, none⟩ = some (.int .i64 (i0 : Int)) := by
           have h1 := (HB8.out.cell (p := ⟨lb, lo + no, none⟩) HLB.out).trans (HLC.out no hkl)
           rw [← HIE.out] at h1
           exact h1
          have f0 := fun d os => cell_regrown z0 d os
          have f1 := fun d os => cell_regrown z1 d os
          have p0 := fun d os => cell_regrown (cell_row HP8.out 0 _ rfl) d os
          have p1 := fun d os => cell_regrown (cell_row HP8.out 1 _ rfl) d os
          have p2 := fun d os => cell_regrown (cell_row HP8.out 2 _ rfl) d os
          have Q1 := Lib.hid (qb (P := Tryz.prog) (W := wr) (fun w2 hb => CY.out w2 (HB8.out.trans (hb.mono HB8.out.size)) y HYB.out ax HBYA.out))
          have HLT := Lib.hid (show ltF m ax y i0 = (decide (keyF m ax y < X) || (decide (keyF m ax y = X) && decide (y < i0))) by rw [HX.out]; rfl)
          obtain ⟨KY, hKY⟩ : ∃ x, x = keyF m ax y := ⟨_, rfl⟩
          rw [← hKY] at Q1 HLT
          have HAL := Lib.hid (show a ≤ ps ∧ a + gk = ps by omega)
          have HKN := Lib.hid (show a < no from ha)
          have HN5K := Lib.hid (show no < 5000 by have h1 := HLM.out; omega)
          clear hy hKY z0 z1 hcell haL
          by_cases l1 : KY < X
          ·
           have d3 : decide (KY < X) = true := decide_eq_true l1
           have HAP := Lib.hid (show a < ps by
            rcases Nat.lt_or_ge a ps with h | h
            ·
             exact h
            ·
             exact absurd (show ltF m ax y i0 = true by rw [HLT.out, d3]; simp) (HYL.out.2 (by have := HAL.out; omega)))
           have i5 : IntKind.i64.wrap ((a : Int) + 1) = ((a + 1 : Nat) : Int) := by have h1 := HKN.out; have h2 := HN5K.out; rw [wrap_in (by omega) (by omega)]; omega
           have HG1 := Lib.hid (show ps - (a + 1) < gk by have h1 := HAL.out; have h2 := HAP.out; omega)
           have HG2 := Lib.hid (show a + 1 + (ps - (a + 1)) = ps by have h2 := HAP.out; omega)
           go_upto_region 15 with (fail)
           refine wp_region_quiet_below (by kernel_rfl) (by kernel_rfl) ?_
           repeat (go_big_quiet_step (first | (with_reducible exact Q1.out _ _)))
           refine wpQuiet_nil ?_
           first | (rintro _ ⟨⟨dq, osq⟩, rfl⟩) | (rintro ⟨dq, osq⟩)
           have hb := below_regrown wr dq osq
           obtain ⟨x2, hW⟩ : ∃ ww, ww = grow (redrawn wr dq) osq := ⟨_, rfl⟩
           rw [← hW] at hb ⊢
           have HI9 := Lib.hid (HI8.out.trans (hb.mono HI8.out.size))
           clear hW hb
           go_wp2_with fail
           go_roundg (ps - (a + 1))
           case measure => exact HG1.out
           case rel => exact ⟨a + 1, HG2.out, by first | rfl | go_num, HI9⟩
          ·
           have d3 : decide (KY < X) = false := decide_eq_false l1
           by_cases l2 : KY = X
           ·
            have d4 : (KY == X) = true := beq_iff_eq.2 l2
            have d4b : decide (KY = X) = true := decide_eq_true l2
            by_cases l3 : y < i0
            ·
             have d5 : decide ((y : Int) < (i0 : Int)) = true := decide_eq_true (by omega)
             have d5b : decide (y < i0) = true := decide_eq_true l3
             have HAP := Lib.hid (show a < ps by
              rcases Nat.lt_or_ge a ps with h | h
              ·
               exact h
              ·
               exact absurd (show ltF m ax y i0 = true by rw [HLT.out, d3, d4b, d5b]; simp) (HYL.out.2 (by have := HAL.out; omega)))
             have i5 : IntKind.i64.wrap ((a : Int) + 1) = ((a + 1 : Nat) : Int) := by have h1 := HKN.out; have h2 := HN5K.out; rw [wrap_in (by omega) (by omega)]; omega
             have HG1 := Lib.hid (show ps - (a + 1) < gk by have h1 := HAL.out; have h2 := HAP.out; omega)
             have HG2 := Lib.hid (show a + 1 + (ps - (a + 1)) = ps by have h2 := HAP.out; omega)
             go_upto_region 15 with (fail)
             refine wp_region_quiet_below (by kernel_rfl) (by kernel_rfl) ?_
             repeat (go_big_quiet_step (first | (with_reducible exact Q1.out _ _)))
             refine wpQuiet_nil ?_
             first | (rintro _ ⟨⟨dq, osq⟩, rfl⟩) | (rintro ⟨dq, osq⟩)
             have hb := below_regrown wr dq osq
             obtain ⟨x2, hW⟩ : ∃ ww, ww = grow (redrawn wr dq) osq := ⟨_, rfl⟩
             rw [← hW] at hb ⊢
             have HI9 := Lib.hid (HI8.out.trans (hb.mono HI8.out.size))
             clear hW hb
             go_wp2_with fail
             go_roundg (ps - (a + 1))
             case measure => exact HG1.out
             case rel => exact ⟨a + 1, HG2.out, by first | rfl | go_num, HI9⟩
            ·
             have d5 : decide ((y : Int) < (i0 : Int)) = false := decide_eq_false (by omega)
             have d5b : decide (y < i0) = false := decide_eq_false l3
             have HAP := Lib.hid (show a = ps by
              rcases Nat.lt_or_ge a ps with h | h
              ·
               exact absurd (HYL.out.1 h) (by rw [HLT.out, d3, d4b, d5b]; simp)
              ·
               have := HAL.out; omega)
             go_upto_region 15 with (fail)
             refine wp_region_quiet_below (by kernel_rfl) (by kernel_rfl) ?_
             repeat (go_big_quiet_step (first | (with_reducible exact Q1.out _ _)))
             refine wpQuiet_nil ?_
             first | (rintro _ ⟨⟨dq, osq⟩, rfl⟩) | (rintro ⟨dq, osq⟩)
             have hb := below_regrown wr dq osq
             obtain ⟨x2, hW⟩ : ∃ ww, ww = grow (redrawn wr dq) osq := ⟨_, rfl⟩
             rw [← hW] at hb ⊢
             have HI9 := Lib.hid (HI8.out.trans (hb.mono HI8.out.size))
             clear hW hb
             go_wp2_with fail
             go_meet
             case rel => exact ⟨by rw [HAP.out], HI9⟩
           ·
            have d4 : (KY == X) = false := beq_eq_false_iff_ne.2 l2
            have d4b : decide (KY = X) = false := decide_eq_false l2
            have HAP := Lib.hid (show a = ps by
             rcases Nat.lt_or_ge a ps with h | h
             ·
              exact absurd (HYL.out.1 h) (by rw [HLT.out, d3, d4b]; simp)
             ·
              have := HAL.out; omega)
            go_upto_region 15 with (fail)
            refine wp_region_quiet_below (by kernel_rfl) (by kernel_rfl) ?_
            repeat (go_big_quiet_step (first | (with_reducible exact Q1.out _ _)))
            refine wpQuiet_nil ?_
            first | (rintro _ ⟨⟨dq, osq⟩, rfl⟩) | (rintro ⟨dq, osq⟩)
            have hb := below_regrown wr dq osq
            obtain ⟨x2, hW⟩ : ∃ ww, ww = grow (redrawn wr dq) osq := ⟨_, rfl⟩
            rw [← hW] at hb ⊢
            have HI9 := Lib.hid (HI8.out.trans (hb.mono HI8.out.size))
            clear hW hb
            go_wp2_with fail
            go_meet
            case rel => exact ⟨by rw [HAP.out], HI9⟩
         ·
          have d2 : decide ((a : Int) < (no : Int)) = false := decide_eq_false (by omega)
          have d2b : decide (a < no) = false := decide_eq_false ha
          have HAP := Lib.hid (show a = ps by have := HPL.out; omega)
          have Q1 := trivial
          clear har ha
          go_upto_region 15 with (fail)
          refine wp_region_quiet_below (by kernel_rfl) (by kernel_rfl) ?_
          repeat (go_big_quiet_step (fail))
          refine wpQuiet_nil ?_
          first | (rintro _ ⟨⟨dq, osq⟩, rfl⟩) | (rintro ⟨dq, osq⟩)
          have hb := below_regrown wr dq osq
          obtain ⟨x2, hW⟩ : ∃ ww, ww = grow (redrawn wr dq) osq := ⟨_, rfl⟩
          rw [← hW] at hb ⊢
          have HI9 := Lib.hid (HI8.out.trans (hb.mono HI8.out.size))
          clear hW hb
          go_wp2_with fail
          go_meet
          case rel => exact ⟨by rw [HAP.out], HI9⟩
       case rest =>
        obtain ⟨rfl, hin⟩ := hcut
        have HO3 := Lib.hid (HO2.out.step hin.out)
        clear hin HO2 HB7 HP7
        clear x1
        have HO4 := Lib.hid (HO3.out.step (ext_alloc wc (.cells #[.int .i64 ((0 : Nat) : Int)] 3)))
        have R1 := Lib.hid (nums_one .i64 9223372036854775808 3 wc 0 (by decide))
        have HA := Lib.hid (show (L.length + [0].length) * 8 ≤ 140737488355328 by have h1 := HLN2.out; have h2 := HLM.out; simp only [List.length_cons, List.length_nil]; omega)
        have HA2 := Lib.hid (show L.length + [0].length ≤ 140737488355328 by have h1 := HLN2.out; have h2 := HLM.out; simp only [List.length_cons, List.length_nil]; omega)
        go_upto_region 18 with (at_builtin; refine wpList_append_nums_at rfl (.tmp 102) (.tmp 103) 22 3 rfl .i64 9223372036854775808 8 NB ints (.slice ao no co) L rfl HO4.out.o _ [0] rfl R1.out HA.out HA2.out HO4.out.nb ?_; intro v7 w7 hown7 hgr7 hv7; have HO5' := Lib.hid (HO4.out.grown hgr7 hown7); obtain ⟨a7, n7, c7, rfl⟩ := hown7.slice_; clear hown7 hgr7 hv7)
        have HN7 := Lib.hid (show n7 = no + 1 by have h1 := HO5'.out.o.slice_len; have h2 := HLN2.out; simp only [List.length_append, List.length_cons, List.length_nil] at h1; omega)
        have HS6 := Lib.hid (show Or6 w5 w7 NB (.slice a7 n7 c7) (shF L no) by have h1 := sh_start L; rw [HLN2.out] at h1; rw [h1]; exact HO5'.out)
        have HN5L := Lib.hid (show no < 5000 by have h1 := HLM.out; omega)
        have i8 : IntKind.i64.wrap ((n7 : Int) - 1) = (no : Int) := by have h1 := HN7.out; have h2 := HN5L.out; rw [wrap_in (by omega) (by omega)]; omega
        clear HO5' HO3 HO4 R1 HA HA2
        go_wp2_with fail
        go_loopg [13] (no - ps) (fun r n13 wr => ∃ j : Nat, ps + r = j ∧ n13 = .int .i64 (j : Int) ∧ Hid (j ≤ no ∧ Or6 w5 wr NB (.slice a7 n7 c7) (shF L j)))
        case atStart => exact ⟨no, by have := HPL.out; omega, rfl, Lib.hid ⟨Nat.le_refl _, HS6.out⟩⟩
        case round =>
         obtain ⟨j, hjr, rfl, hin⟩ := hrel
         have HJN := Lib.hid hin.out.1
         have HOJ := Lib.hid hin.out.2
         have hl7 := sh_len L j (by have h1 := HLN2.out; have h2 := HJN.out; omega)
         rw [HLN2.out] at hl7
         clear hin
         obtain ⟨g, cp, eo, -, hbg, -, hcell, hfr, hset⟩ := HOJ.out.o.at_ (by omega)
         simp only [Value.slice.injEq] at eo
         obtain ⟨rfl, -, -⟩ := eo
         by_cases hj : ps < j
         ·
          have d2 : decide ((ps : Int) < (j : Int)) = true := decide_eq_true (by omega)
          have d2b : decide (ps < j) = true := decide_eq_true hj
          obtain ⟨j1, hj1⟩ : ∃ j1, j = j1 + 1 := ⟨j - 1, by omega⟩
          have hjn := HJN.out
          have hj8 : j < (shF L j).length := by omega
          have hj9 : j1 < (shF L j).length := by omega
          have hjl : j1 < L.length := by have h1 := HLN2.out; have h2 := HJN.out; omega
          obtain ⟨y, hy⟩ : ∃ x, x = L[j1] := ⟨_, rfl⟩
          have hy2 : L[j1]? = some y := by rw [hy]; exact List.getElem?_eq_getElem hjl
          have hy3 : (shF L j)[j1]'hj9 = y := by
           have h1 := sh_at L j j1 (by have h1 := HLN2.out; have h2 := HJN.out; omega) (by omega)
           rw [hy2, List.getElem?_eq_getElem hj9] at h1
           exact Option.some.inj h1
          have z1 := hcell j1 hj9
          rw [hy3] at z1
          have z2 := hcell j hj8
          obtain ⟨y9, hy9⟩ : ∃ x, x = (shF L j)[j]'hj8 := ⟨_, rfl⟩
          rw [← hy9] at z2
          have t2 := hfr j
          have y1' : j1 < n7 := by have h1 := HN7.out; have h2 := HJN.out; omega
          have y2' : j < n7 := by have h1 := HN7.out; have h2 := HJN.out; omega
          have hyb : y < 9223372036854775808 := by have h1 := HOJ.out.o.bound y (by rw [← hy3]; exact List.getElem_mem _); exact h1
          have HOK := Lib.hid (HOJ.out.set hbg (hset j y hyb))
          have HJ1 := Lib.hid (show (shF L j).set j y = shF L j1 by rw [hj1]; exact sh_next L j1 (by omega) y hy2)
          have i9 : IntKind.i64.wrap ((j : Int) - 1) = (j1 : Int) := by have h2 := HN5L.out; have h3 := HJN.out; rw [wrap_in (by omega) (by omega)]; omega
          have HGA := Lib.hid (show j1 - ps < gk by omega)
          have HGB := Lib.hid (show ps + (j1 - ps) = j1 ∧ j1 ≤ no by have h3 := HJN.out; omega)
          clear hcell hfr hset hl7 hbg hy2 hy3 hy9 hyb hy hjl hj8 hj9 hjn hj1
          go_wp2_with fail
          go_roundg (j1 - ps)
          case measure => exact HGA.out
          case rel => exact ⟨j1, HGB.out.1, by first | rfl | go_num, Lib.hid ⟨HGB.out.2, by have h := HOK.out; rw [HJ1.out] at h; exact h⟩⟩
         ·
          have d2 : decide ((ps : Int) < (j : Int)) = false := decide_eq_false (by omega)
          have d2b : decide (ps < j) = false := decide_eq_false hj
          have hje : j = ps := by omega
          have hpn : ps ≤ no := HPL.out
          have y2' : ps < n7 := by have h1 := HN7.out; omega
          have y3' : no < ln := hk
          have HBJ := Lib.hid (HB5.out.trans ((show Below w5.heap.size w5 wr by rw [← HNB.out]; exact HOJ.out.kb).mono HB5.out.size))
          have z0 : wr.cell? ⟨lb, lo + no, none⟩ = some (.int .i64 (i0 : Int)) := by
           have h1 := (HBJ.out.cell (p := ⟨lb, lo + no, none⟩) HLB.out).trans (HLC.out no hkl)
           rw [← HIE.out] at h1
           exact h1
          have hj8 : ps < (shF L j).length := by omega
          have z2 := hcell ps hj8
          obtain ⟨y9, hy9⟩ : ∃ x, x = (shF L j)[ps]'hj8 := ⟨_, rfl⟩
          rw [← hy9] at z2
          have t2 := hfr ps
          have HOK := Lib.hid (HOJ.out.set hbg (hset ps i0 HI0.out))
          have HEQ := Lib.hid (show (shF L j).set ps i0 = insAll m ax (l.take (no + 1)) by
           have h1 := sh_end m ax i0 L
           rw [← HPS.out.1] at h1
           rw [HNXL.out, hje]; exact h1)
          have i10 : IntKind.i64.wrap ((no : Int) + 1) = ((no + 1 : Nat) : Int) := by have h2 := HN5L.out; rw [wrap_in (by omega) (by omega)]; omega
          clear hcell hfr hset hl7 hbg hy9 hj8 hje hpn
          go_wp2_with fail
          go_roundg (ln - (no + 1))
          case measure => exact HMS.out
          case rel => exact ⟨no + 1, _, HKR.out, rfl, by first | rfl | go_num, Lib.hid (by have h := HOK.out; rw [HEQ.out] at h; exact h)⟩
      ·
       have hkn : k = ln := by omega
       have d1 : decide ((k : Int) < (ln : Int)) = false := decide_eq_false (by omega)
       have d1b : decide (k < ln) = false := decide_eq_false hk
       have HOL := Lib.hid (show Or6 w5 wr NB (.slice ao no co) (sortF m ax l) by
        have h := HO.out
        rw [hkn, HLE.out, List.take_length, insAll_is] at h
        exact h)
       have HNO := Lib.hid (show no = ln by have h1 := HOL.out.o.slice_len; rw [sort_length] at h1; have h2 := HLE.out; omega)
       obtain rfl : ln = no := HNO.out.symm
       clear HNO
       have HNB5 := Lib.hid (show B ≤ NB by have h1 := HBW.out; have h2 := HB5.out.size; have h3 := HNB.out; omega)
       obtain ⟨og, cp, eo, hcap, hbg, -, -, -, -⟩ := HOL.out.o.at_ (by rw [sort_length]; exact hl0)
       simp only [Value.slice.injEq] at eo
       obtain ⟨rfl, -, rfl⟩ := eo
       have hSO : Sb B wr og := sf_own HOL.out.o HNB5.out og 0 ln co rfl
       have HSO := Lib.hid hSO
       have HNM := Lib.hid HOL.out.o.nums
       have HCP := Lib.hid (show ln ≤ co by rw [sort_length] at hcap; have h2 := HLE.out; omega)
       have HSL := Lib.hid (show (sortF m ax l).length = ln by rw [sort_length]; exact HLE.out.symm)
       obtain ⟨SL, hSL⟩ : ∃ x, x = sortF m ax l := ⟨_, rfl⟩
       rw [← hSL] at HNM HSL
       obtain ⟨hf, hhf⟩ : ∃ x, x = ln / 2 := ⟨_, rfl⟩
       obtain ⟨TA, hTA⟩ : ∃ T, T = treeF m n (SL.take hf) := ⟨_, rfl⟩
       obtain ⟨TB, hTB⟩ : ∃ T, T = treeF m n (SL.drop hf) := ⟨_, rfl⟩
       have HTR := Lib.hid (show treeF m (n + 1) l = .node l TA TB by
        have e1 : hf = l.length / 2 := by rw [hhf, HLE.out]
        rw [hTA, hTB, hSL, e1, HAX.out, HBL.out]
        conv => lhs; unfold treeF
        rw [if_neg (by rw [← HLE.out]; exact HL2.out)])
       have HST2 := Lib.hid (show l.length + stepsT TA + stepsT TB ≤ 1000000 by have h := HST.out; rw [HTR.out] at h; exact h)
       have HHF := Lib.hid (show hf * 2 ≤ ln ∧ 1 ≤ hf ∧ hf < ln ∧ ln ≤ n + 1 by have h1 := HL2.out; have h2 := HLN.out; have h3 := HLE.out; omega)
       have wq : IntKind.i64.wrap ((ln : Int) / 2) = (hf : Int) := by have h1 := HLM.out; rw [wrap_in (by omega) (by omega)]; omega
       have WQ := Lib.hid wq
       have HQ := Lib.hid hhf
       have HNA := Lib.hid (HNM.out.take hf (by have h1 := HHF.out; omega) (by have h1 := HSL.out; omega) (by simp))
       have hND := HNM.out.drop hf (by have h1 := HHF.out; omega)
       rw [Nat.zero_add] at hND
       have HND := Lib.hid hND
       obtain ⟨sa, hsa⟩ : ∃ x, x = stepsT TA := ⟨_, rfl⟩
       obtain ⟨sb, hsb⟩ : ∃ x, x = stepsT TB := ⟨_, rfl⟩
       have HSS := Lib.hid (And.intro hsa hsb)
       have CA := Lib.hid (fun w2 (hb : Below wr.heap.size wr w2) => (show Calls Tryz.prog 27 #[.agg #[.slice a0 n0 c0, .slice a1 n1 c1, .slice a2 n2 c2], .slice (some ⟨og, 0, none⟩) hf co] w2 (fun e w' => ∃ cs, e = .returned (.tuple #[.agg cs.toArray, .int .i64 (sa : Int)]) ∧ NodeZ B m w' TA cs ∧ Below w2.heap.size w2 w') by
        have h := IH.out (SL.take hf) (.slice (some ⟨og, 0, none⟩) hf co) w2 (HM.out.below (HB6.out.trans (hb.mono HB6.out.size))) (HNA.out.below hb (Nat.le_refl _)) (fun b off n c e => by simp only [Value.slice.injEq, Option.some.injEq, Addr.mk.injEq] at e; obtain ⟨⟨rfl, -, -⟩, -, -⟩ := e; exact HSO.out.below hb) (Nat.le_trans HBW.out (Nat.le_trans HB6.out.size hb.size)) (by rw [List.length_take, HSL.out]; have h1 := HHF.out; omega) (by rw [List.length_take, HSL.out]; have h1 := HHF.out; omega) (by rw [List.length_take, HSL.out]; have h1 := HHF.out; have h2 := HLM.out; omega) (fun T e => by rw [e, ← hTA]; have h1 := HST2.out; omega)
        rw [← hTA, ← hsa] at h
        exact h))
       have CD := Lib.hid (fun w2 (hb : Below wr.heap.size wr w2) => (show Calls Tryz.prog 27 #[.agg #[.slice a0 n0 c0, .slice a1 n1 c1, .slice a2 n2 c2], .slice (some ⟨og, hf, none⟩) (ln - hf) (co - hf)] w2 (fun e w' => ∃ cs, e = .returned (.tuple #[.agg cs.toArray, .int .i64 (sb : Int)]) ∧ NodeZ B m w' TB cs ∧ Below w2.heap.size w2 w') by
        have h := IH.out (SL.drop hf) (.slice (some ⟨og, hf, none⟩) (ln - hf) (co - hf)) w2 (HM.out.below (HB6.out.trans (hb.mono HB6.out.size))) (HND.out.below hb (Nat.le_refl _)) (fun b off n c e => by simp only [Value.slice.injEq, Option.some.injEq, Addr.mk.injEq] at e; obtain ⟨⟨rfl, -, -⟩, -, -⟩ := e; exact HSO.out.below hb) (Nat.le_trans HBW.out (Nat.le_trans HB6.out.size hb.size)) (by rw [List.length_drop, HSL.out]; have h1 := HHF.out; omega) (by rw [List.length_drop, HSL.out]; have h1 := HHF.out; omega) (by rw [List.length_drop, HSL.out]; have h2 := HLM.out; omega) (fun T e => by rw [e, ← hTB]; have h1 := HST2.out; omega)
        rw [← hTB, ← hsb] at h
        exact h))
       have HTA := Lib.hid (show TA.l = SL.take hf by rw [hTA]; exact tree_l m _ _)
       have HTB := Lib.hid (show TB.l = SL.drop hf by rw [hTB]; exact tree_l m _ _)
       have HG6 := Lib.hid (show g6 ≠ w.heap.size + 1 ∧ B ≤ w.heap.size + 1 by have h1 := HGE.out; have h2 := HBW.out; omega)
       clear hkr hkn hk HO hcap hbg hSO hSL hhf hTA hTB wq hND hsa hsb HOL HNM HNA HND HP5 HZ5 HN5 HO5 CB CY HBYA HOB
       go_upto_region 23 with (fail)
       clear d1 d1b
       refine wp_region_k3 (n := 8) 159 (kN m B wr.heap.size TA sa (.agg #[.slice a0 n0 c0, .slice a1 n1 c1, .slice a2 n2 c2]) (.slice (some ⟨og, 0, none⟩) ln co) (.slice (some ⟨lb, lo, none⟩) ln lc) (.int .i64 (ln : Int)) (.int .i64 (hf : Int)) (.slice (some ⟨og, 0, none⟩) hf co)) ⟨11, 14, 10, 136, 8, 77, #[]⟩ (by kernel_rfl) rfl (by kernel_rfl) (kN_mono _ _ _ _ _ _ _ _ _ _ _) (kN_stab _ _ _ _ _ _ _ _ _ _ _) (fun _ _ h => h) (kN_row _ _ _ _ _ _ _ _ _ _ _) ?hsj ?hst ?_
       case hsj =>
        intro o ho
        simp only [List.getElem?_toArray, List.getElem?_cons_succ, List.getElem?_cons_zero, Option.some.injEq] at ho
        subst ho
        exact ⟨⟨77, rfl, by kernel_rfl⟩, rfl⟩
       case hst =>
        intro A hA F
        have HA_ := Lib.hid hA
        have HA2 := hA
        simp only [putsL, Act.put, List.setIfInBounds_toArray, List.set_cons_succ, List.set_cons_zero, Nat.reduceAdd, outs3, kN, List.getD_cons_succ, List.getD_cons_zero, K3.out] at HA2
        have HA3 := Lib.hid HA2
        clear hA HA2
        refine ⟨.inr ?s0, .inr ?s1, .inr ?s2, .inr ?s3, .inr ?s4, .inr ?s5, .inr ?s6, .inr ?s7, .inr ?s8, .inr ?s9, .inr ?s10, .inl rfl, .inr ?s12, trivial⟩
        case s0 =>
         refine st_valA HA_.out F rfl (d := 129) (v := (.agg #[.slice a0 n0 c0, .slice a1 n1 c1, .slice a2 n2 c2])) rfl (by decide) (fun _ _ h => nomatch h) (look3 (by kernel_rfl)) (fun _ => rfl) ?_
         intro W1 hW1
         rw [← HA3.out]
         have z0 := fun d os => cell_regrown (cell_row (vec_step HP6.out hW1) 0 _ rfl) d os
         have z1 := fun d os => cell_regrown (cell_row (vec_step HP6.out hW1) 1 _ rfl) d os
         have z2 := fun d os => cell_regrown (cell_row (vec_step HP6.out hW1) 2 _ rfl) d os
         go_big_quiet_op
         exact rfl
        case s1 =>
         refine st_valA HA_.out F rfl (d := 130) (v := (.slice (some ⟨og, 0, none⟩) ln co)) rfl (by decide) (fun _ _ h => nomatch h) (look3 (by kernel_rfl)) (fun _ => rfl) ?_
         intro W1 hW1
         rw [← HA3.out]
         go_big_quiet_op
         exact rfl
        case s2 =>
         refine st_valA HA_.out F rfl (d := 131) (v := (.slice (some ⟨lb, lo, none⟩) ln lc)) rfl (by decide) (fun _ _ h => nomatch h) (look3 (by kernel_rfl)) (fun _ => rfl) ?_
         intro W1 hW1
         rw [← HA3.out]
         go_big_quiet_op
         exact rfl
        case s3 =>
         refine st_valA HA_.out F rfl (d := 132) (v := (.int .i64 (ln : Int))) rfl (by decide) (fun _ _ h => nomatch h) (look3 (by kernel_rfl)) (fun _ => rfl) ?_
         intro W1 hW1
         rw [← HA3.out]
         go_big_quiet_op
         exact rfl
        case s4 =>
         refine st_valA HA_.out F rfl (d := 133) (v := (.int .i64 (hf : Int))) rfl (by decide) (fun _ _ h => nomatch h) (look3 (by kernel_rfl)) (fun _ => rfl) ?_
         intro W1 hW1
         rw [← HA3.out]
         have wq := WQ.out
         go_big_quiet_op
         exact rfl
        case s5 =>
         refine st_valA HA_.out F rfl (d := 134) (v := (.slice (some ⟨og, 0, none⟩) hf co)) rfl (by decide) (fun _ _ h => nomatch h) (look3 (by kernel_rfl)) (fun _ => rfl) ?_
         intro W1 hW1
         rw [← HA3.out]
         have h4 : hf ≤ ln := by have h1 := HHF.out; omega
         have h3 : hf ≤ co := Nat.le_trans h4 HCP.out
         have h2 := HCP.out
         have h6 : ¬ co = hf := by have h1 := HHF.out; omega
         go_big_quiet_op
         exact rfl
        case s6 =>
         intro b w1 hb hd hk
         have e0 : b.eval (.tmp 129) = .agg #[.slice a0 n0 c0, .slice a1 n1 c1, .slice a2 n2 c2] := hd 129 (by decide) 0 rfl
         have e1 : b.eval (.tmp 134) = (.slice (some ⟨og, 0, none⟩) hf co) := hd 134 (by decide) 5 rfl
         rw [call_run (f := 27) (fn := Tryz.f27) rfl rfl Tryz.func27 rfl rfl w1]
         simp only [List.map_toArray, List.map_nil, List.map_cons, e0, e1]
         show Calls Tryz.prog 27 #[.agg #[.slice a0 n0 c0, .slice a1 n1 c1, .slice a2 n2 c2], (.slice (some ⟨og, 0, none⟩) hf co)] w1 _
         refine (CA.out w1 hb).mono ?_
         rintro e w9 ⟨cs, rfl, h1, h2⟩
         exact ⟨_, rfl, ⟨cs, rfl, h1⟩, h2⟩
        case s7 =>
         intro b w1 hb hd hk
         obtain ⟨cs, e, h⟩ := hd 135 (by decide) 6 rfl
         rw [move_run rfl w1]
         exact ⟨⟨cs, e, h⟩, Below.refl _ _⟩
        case s8 =>
         intro b w1 hb hd hk
         obtain ⟨cs, e, h⟩ := hd 128 (by decide) 7 rfl
         rw [extract_run rfl e rfl w1]
         exact ⟨⟨cs, rfl, h⟩, Below.refl _ _⟩
        case s9 =>
         intro b w1 hb hd hk
         obtain ⟨cs, e, h⟩ := hd 128 (by decide) 7 rfl
         rw [extract_run rfl e rfl w1]
         exact ⟨rfl, Below.refl _ _⟩
        case s10 =>
         intro b w1 hb hd hk
         rw [alloc_run rfl (alloc_node w1)]
         exact ⟨⟨w1.heap.size, _, rfl, hb.size, heap_alloc_new _ _, rfl⟩, ext_alloc _ _⟩
        case s12 =>
         intro b w1 hb hd hk
         have e0 : b.eval (.tmp 137) = .int .i64 (sa : Int) := hd 137 (by decide) 9 rfl
         rw [Qk.assign_run rfl w1]
         exact ⟨e0, Below.refl _ _⟩
       intro V x1 hb hV hs
       obtain ⟨g14, rw9, hg1, hg2, hg3⟩ := hs (by decide)
       obtain ⟨cs1, e8, hn8⟩ : ∃ cs : List Value, V 8 = .agg cs.toArray ∧ NodeZ B m x1 TA cs := hV 8 (by decide) (by decide)
       dsimp only at hg1 hg2 hg3
       obtain rfl : rw9 = cs1.toArray := by have h := hg2.symm.trans e8; simpa using h
       have e0 : V 0 = (.agg #[.slice a0 n0 c0, .slice a1 n1 c1, .slice a2 n2 c2]) := hV 0 (by decide) (by decide)
       have e1 : V 1 = (.slice (some ⟨og, 0, none⟩) ln co) := hV 1 (by decide) (by decide)
       have e2 : V 2 = (.slice (some ⟨lb, lo, none⟩) ln lc) := hV 2 (by decide) (by decide)
       have e3 : V 3 = (.int .i64 (ln : Int)) := hV 3 (by decide) (by decide)
       have e4 : V 4 = (.int .i64 (hf : Int)) := hV 4 (by decide) (by decide)
       have e5 : V 5 = (.slice (some ⟨og, 0, none⟩) hf co) := hV 5 (by decide) (by decide)
       have e9 : V 9 = (.int .i64 (sa : Int)) := hV 9 (by decide) (by decide)
       have e12 : V 12 = (.int .i64 (sa : Int)) := hV 12 (by decide) (by decide)
       clear hV hs hg2
       simp only [putsL, Act.put, List.setIfInBounds_toArray, List.set_cons_succ, List.set_cons_zero, Nat.reduceAdd, hg1, e0, e1, e2, e3, e4, e5, e8, e9, e12, ptr]
       clear hg1 e0 e1 e2 e3 e4 e5 e8 e9 e12
       generalize V 6 = q66
       generalize V 7 = q67
       have HP7 := Lib.hid (vec_step HP6.out hb)
       have HZ7 := Lib.hid (vec_step HZ6.out hb)
       have HN7 := Lib.hid (vec_step HN6.out hb)
       have HB7 := Lib.hid (HB6.out.trans (hb.mono HB6.out.size))
       have HBR := Lib.hid hb
       have HNA := Lib.hid hn8
       have H14 := Lib.hid hg3
       clear hn8 hg3
       clear hb HP6 HZ6 HN6 HB6
       go_upto_region 24 with (fail)
       refine wp_region_k3 (n := 8) 159 (kN m B x1.heap.size TB sb (.agg #[.slice a0 n0 c0, .slice a1 n1 c1, .slice a2 n2 c2]) (.slice (some ⟨og, 0, none⟩) ln co) (.slice (some ⟨lb, lo, none⟩) ln lc) (.int .i64 (ln : Int)) (.int .i64 (hf : Int)) (.slice (some ⟨og, hf, none⟩) (ln - hf) (co - hf))) ⟨11, 16, 10, 146, 8, 77, #[]⟩ (by kernel_rfl) rfl (by kernel_rfl) (kN_mono _ _ _ _ _ _ _ _ _ _ _) (kN_stab _ _ _ _ _ _ _ _ _ _ _) (fun _ _ h => h) (kN_row _ _ _ _ _ _ _ _ _ _ _) ?hsj ?hst ?_
       case hsj =>
        intro o ho
        simp only [List.getElem?_toArray, List.getElem?_cons_succ, List.getElem?_cons_zero, Option.some.injEq] at ho
        subst ho
        exact ⟨⟨77, rfl, by kernel_rfl⟩, rfl⟩
       case hst =>
        intro A hA F
        have HA_ := Lib.hid hA
        have HA2 := hA
        simp only [putsL, Act.put, List.setIfInBounds_toArray, List.set_cons_succ, List.set_cons_zero, Nat.reduceAdd, outs3, kN, List.getD_cons_succ, List.getD_cons_zero, K3.out] at HA2
        have HA3 := Lib.hid HA2
        clear hA HA2
        refine ⟨.inr ?s0, .inr ?s1, .inr ?s2, .inr ?s3, .inr ?s4, .inr ?s5, .inr ?s6, .inr ?s7, .inr ?s8, .inr ?s9, .inr ?s10, .inl rfl, .inr ?s12, trivial⟩
        case s0 =>
         refine st_valA HA_.out F rfl (d := 139) (v := (.agg #[.slice a0 n0 c0, .slice a1 n1 c1, .slice a2 n2 c2])) rfl (by decide) (fun _ _ h => nomatch h) (look3 (by kernel_rfl)) (fun _ => rfl) ?_
         intro W1 hW1
         rw [← HA3.out]
         have z0 := fun d os => cell_regrown (cell_row (vec_step HP7.out hW1) 0 _ rfl) d os
         have z1 := fun d os => cell_regrown (cell_row (vec_step HP7.out hW1) 1 _ rfl) d os
         have z2 := fun d os => cell_regrown (cell_row (vec_step HP7.out hW1) 2 _ rfl) d os
         go_big_quiet_op
         exact rfl
        case s1 =>
         refine st_valA HA_.out F rfl (d := 140) (v := (.slice (some ⟨og, 0, none⟩) ln co)) rfl (by decide) (fun _ _ h => nomatch h) (look3 (by kernel_rfl)) (fun _ => rfl) ?_
         intro W1 hW1
         rw [← HA3.out]
         go_big_quiet_op
         exact rfl
        case s2 =>
         refine st_valA HA_.out F rfl (d := 141) (v := (.slice (some ⟨lb, lo, none⟩) ln lc)) rfl (by decide) (fun _ _ h => nomatch h) (look3 (by kernel_rfl)) (fun _ => rfl) ?_
         intro W1 hW1
         rw [← HA3.out]
         go_big_quiet_op
         exact rfl
        case s3 =>
         refine st_valA HA_.out F rfl (d := 142) (v := (.int .i64 (ln : Int))) rfl (by decide) (fun _ _ h => nomatch h) (look3 (by kernel_rfl)) (fun _ => rfl) ?_
         intro W1 hW1
         rw [← HA3.out]
         go_big_quiet_op
         exact rfl
        case s4 =>
         refine st_valA HA_.out F rfl (d := 143) (v := (.int .i64 (hf : Int))) rfl (by decide) (fun _ _ h => nomatch h) (look3 (by kernel_rfl)) (fun _ => rfl) ?_
         intro W1 hW1
         rw [← HA3.out]
         have wq := WQ.out
         go_big_quiet_op
         exact rfl
        case s5 =>
         refine st_valA HA_.out F rfl (d := 144) (v := (.slice (some ⟨og, hf, none⟩) (ln - hf) (co - hf))) rfl (by decide) (fun _ _ h => nomatch h) (look3 (by kernel_rfl)) (fun _ => rfl) ?_
         intro W1 hW1
         rw [← HA3.out]
         have h4 : hf ≤ ln := by have h1 := HHF.out; omega
         have h3 : hf ≤ co := Nat.le_trans h4 HCP.out
         have h2 := HCP.out
         have h6 : ¬ co = hf := by have h1 := HHF.out; omega
         go_big_quiet_op
         exact rfl
        case s6 =>
         intro b w1 hb hd hk
         have e0 : b.eval (.tmp 139) = .agg #[.slice a0 n0 c0, .slice a1 n1 c1, .slice a2 n2 c2] := hd 139 (by decide) 0 rfl
         have e1 : b.eval (.tmp 144) = (.slice (some ⟨og, hf, none⟩) (ln - hf) (co - hf)) := hd 144 (by decide) 5 rfl
         rw [call_run (f := 27) (fn := Tryz.f27) rfl rfl Tryz.func27 rfl rfl w1]
         simp only [List.map_toArray, List.map_nil, List.map_cons, e0, e1]
         show Calls Tryz.prog 27 #[.agg #[.slice a0 n0 c0, .slice a1 n1 c1, .slice a2 n2 c2], (.slice (some ⟨og, hf, none⟩) (ln - hf) (co - hf))] w1 _
         refine (CD.out w1 (HBR.out.trans (hb.mono HBR.out.size))).mono ?_
         rintro e w9 ⟨cs, rfl, h1, h2⟩
         exact ⟨_, rfl, ⟨cs, rfl, h1⟩, h2⟩
        case s7 =>
         intro b w1 hb hd hk
         obtain ⟨cs, e, h⟩ := hd 145 (by decide) 6 rfl
         rw [move_run rfl w1]
         exact ⟨⟨cs, e, h⟩, Below.refl _ _⟩
        case s8 =>
         intro b w1 hb hd hk
         obtain ⟨cs, e, h⟩ := hd 138 (by decide) 7 rfl
         rw [extract_run rfl e rfl w1]
         exact ⟨⟨cs, rfl, h⟩, Below.refl _ _⟩
        case s9 =>
         intro b w1 hb hd hk
         obtain ⟨cs, e, h⟩ := hd 138 (by decide) 7 rfl
         rw [extract_run rfl e rfl w1]
         exact ⟨rfl, Below.refl _ _⟩
        case s10 =>
         intro b w1 hb hd hk
         rw [alloc_run rfl (alloc_node w1)]
         exact ⟨⟨w1.heap.size, _, rfl, hb.size, heap_alloc_new _ _, rfl⟩, ext_alloc _ _⟩
        case s12 =>
         intro b w1 hb hd hk
         have e0 : b.eval (.tmp 147) = .int .i64 (sb : Int) := hd 147 (by decide) 9 rfl
         rw [Qk.assign_run rfl w1]
         exact ⟨e0, Below.refl _ _⟩
       intro V x2 hb hV hs
       obtain ⟨g16, rw9, hg1, hg2, hg3⟩ := hs (by decide)
       obtain ⟨cs2, e8, hn8⟩ : ∃ cs : List Value, V 8 = .agg cs.toArray ∧ NodeZ B m x2 TB cs := hV 8 (by decide) (by decide)
       dsimp only at hg1 hg2 hg3
       obtain rfl : rw9 = cs2.toArray := by have h := hg2.symm.trans e8; simpa using h
       have e0 : V 0 = (.agg #[.slice a0 n0 c0, .slice a1 n1 c1, .slice a2 n2 c2]) := hV 0 (by decide) (by decide)
       have e1 : V 1 = (.slice (some ⟨og, 0, none⟩) ln co) := hV 1 (by decide) (by decide)
       have e2 : V 2 = (.slice (some ⟨lb, lo, none⟩) ln lc) := hV 2 (by decide) (by decide)
       have e3 : V 3 = (.int .i64 (ln : Int)) := hV 3 (by decide) (by decide)
       have e4 : V 4 = (.int .i64 (hf : Int)) := hV 4 (by decide) (by decide)
       have e5 : V 5 = (.slice (some ⟨og, hf, none⟩) (ln - hf) (co - hf)) := hV 5 (by decide) (by decide)
       have e9 : V 9 = (.int .i64 (sb : Int)) := hV 9 (by decide) (by decide)
       have e12 : V 12 = (.int .i64 (sb : Int)) := hV 12 (by decide) (by decide)
       clear hV hs hg2
       simp only [putsL, Act.put, List.setIfInBounds_toArray, List.set_cons_succ, List.set_cons_zero, Nat.reduceAdd, hg1, e0, e1, e2, e3, e4, e5, e8, e9, e12, ptr]
       clear hg1 e0 e1 e2 e3 e4 e5 e8 e9 e12
       generalize V 6 = q76
       generalize V 7 = q77
       have HP8 := Lib.hid (vec_step HP7.out hb)
       have HZ8 := Lib.hid (vec_step HZ7.out hb)
       have HN8 := Lib.hid (vec_step HN7.out hb)
       have HB8 := Lib.hid (HB7.out.trans (hb.mono HB7.out.size))
       have HNA2 := Lib.hid (NodeZ.below hb _ _ HNA.out)
       have HND := Lib.hid hn8
       have H14b := Lib.hid (vec_step H14.out hb)
       have H16 := Lib.hid hg3
       clear hn8 hg3 HNA H14 HBR CA CD
       clear hb HP7 HZ7 HN7 HB7
       go_upto_region 25 with (fail)
       clear HSO
       obtain ⟨b1, n1', c1', b2, n2', c2', e14⟩ := NodeZ.form HNA2.out
       obtain ⟨b3, n3', c3', b4, n4', c4', e16⟩ := NodeZ.form HND.out
       have HL1 := Lib.hid (show cs1.length = 8 by rw [e14]; rfl)
       have HL2' := Lib.hid (show cs2.length = 8 by rw [e16]; rfl)
       obtain ⟨bA, hbA⟩ : ∃ x, x = boxL m TA.l := ⟨_, rfl⟩
       obtain ⟨bB, hbB⟩ : ∃ x, x = boxL m TB.l := ⟨_, rfl⟩
       rw [← hbA] at e14
       rw [← hbB] at e16
       have r14 := H14b.out
       have r16 := H16.out
       rw [e14] at r14
       rw [e16] at r16
       have HE14 := Lib.hid e14
       have HE16 := Lib.hid e16
       have R14 := Lib.hid (show x2.heap[g14]? = some (.cells #[.slice b1 n1' c1', .int .i64 bA.lo.x, .int .i64 bA.lo.y, .int .i64 bA.lo.z, .int .i64 bA.hi.x, .int .i64 bA.hi.y, .int .i64 bA.hi.z, .slice b2 n2' c2'] 77) from r14)
       have R16 := Lib.hid (show x2.heap[g16]? = some (.cells #[.slice b3 n3' c3', .int .i64 bB.lo.x, .int .i64 bB.lo.y, .int .i64 bB.lo.z, .int .i64 bB.hi.x, .int .i64 bB.hi.y, .int .i64 bB.hi.z, .slice b4 n4' c4'] 77) from r16)
       clear hbA hbB e14 e16 r14 r16 H14b H16
       have d0 := cell_row R14.out 0 _ rfl
       have d1 := cell_row R14.out 1 _ rfl
       have d2 := cell_row R14.out 2 _ rfl
       have d3 := cell_row R14.out 3 _ rfl
       have d4 := cell_row R14.out 4 _ rfl
       have d5 := cell_row R14.out 5 _ rfl
       have d6 := cell_row R14.out 6 _ rfl
       have d7 := cell_row R14.out 7 _ rfl
       have e0 := cell_row R16.out 0 _ rfl
       have e1 := cell_row R16.out 1 _ rfl
       have e2 := cell_row R16.out 2 _ rfl
       have e3 := cell_row R16.out 3 _ rfl
       have e4 := cell_row R16.out 4 _ rfl
       have e5 := cell_row R16.out 5 _ rfl
       have e6 := cell_row R16.out 6 _ rfl
       have e7 := cell_row R16.out 7 _ rfl
       have hkn := heap_alloc_new x2 (.cells #[.slice b1 n1' c1', .int .i64 bA.lo.x, .int .i64 bA.lo.y, .int .i64 bA.lo.z, .int .i64 bA.hi.x, .int .i64 bA.hi.y, .int .i64 bA.hi.z, .slice b2 n2' c2', .slice b3 n3' c3', .int .i64 bB.lo.x, .int .i64 bB.lo.y, .int .i64 bB.lo.z, .int .i64 bB.hi.x, .int .i64 bB.hi.y, .int .i64 bB.hi.z, .slice b4 n4' c4'] 77)
       have hkx := ext_alloc x2 (.cells #[.slice b1 n1' c1', .int .i64 bA.lo.x, .int .i64 bA.lo.y, .int .i64 bA.lo.z, .int .i64 bA.hi.x, .int .i64 bA.hi.y, .int .i64 bA.hi.z, .slice b2 n2' c2', .slice b3 n3' c3', .int .i64 bB.lo.x, .int .i64 bB.lo.y, .int .i64 bB.lo.z, .int .i64 bB.hi.x, .int .i64 bB.hi.y, .int .i64 bB.hi.z, .slice b4 n4' c4'] 77)
       have N9 := vec_step HN8.out hkx
       have fz : (x2.alloc (.cells #[.slice b1 n1' c1', .int .i64 bA.lo.x, .int .i64 bA.lo.y, .int .i64 bA.lo.z, .int .i64 bA.hi.x, .int .i64 bA.hi.y, .int .i64 bA.hi.z, .slice b2 n2' c2', .slice b3 n3' c3', .int .i64 bB.lo.x, .int .i64 bB.lo.y, .int .i64 bB.lo.z, .int .i64 bB.hi.x, .int .i64 bB.hi.y, .int .i64 bB.hi.z, .slice b4 n4' c4'] 77)).frozen? ⟨g6, 7, none⟩ = false := frozen_of_row _ _ _ _ _ N9
       have k6 : (x2.alloc (.cells #[.slice b1 n1' c1', .int .i64 bA.lo.x, .int .i64 bA.lo.y, .int .i64 bA.lo.z, .int .i64 bA.hi.x, .int .i64 bA.hi.y, .int .i64 bA.hi.z, .slice b2 n2' c2', .slice b3 n3' c3', .int .i64 bB.lo.x, .int .i64 bB.lo.y, .int .i64 bB.lo.z, .int .i64 bB.hi.x, .int .i64 bB.hi.y, .int .i64 bB.hi.z, .slice b4 n4' c4'] 77)).cell? ⟨g6, 7, none⟩ = some (.slice none 0 0) := cell_row N9 7 _ rfl
       have HKN := Lib.hid hkn
       have HKX := Lib.hid hkx
       have HN9 := Lib.hid N9
       clear hkn hkx N9
       go_upto_region 26 with (fail)
       have hkp := (Keeps.refl (fun k => k = g6) (x2.alloc (.cells #[.slice b1 n1' c1', .int .i64 bA.lo.x, .int .i64 bA.lo.y, .int .i64 bA.lo.z, .int .i64 bA.hi.x, .int .i64 bA.hi.y, .int .i64 bA.hi.z, .slice b2 n2' c2', .slice b3 n3' c3', .int .i64 bB.lo.x, .int .i64 bB.lo.y, .int .i64 bB.lo.z, .int .i64 bB.hi.x, .int .i64 bB.hi.y, .int .i64 bB.hi.z, .slice b4 n4' c4'] 77))).setCell g6 7 (.slice (some ⟨x2.heap.size, 0, none⟩) 2 2) (.inl rfl)
       have m9 : ((x2.alloc (.cells #[.slice b1 n1' c1', .int .i64 bA.lo.x, .int .i64 bA.lo.y, .int .i64 bA.lo.z, .int .i64 bA.hi.x, .int .i64 bA.hi.y, .int .i64 bA.hi.z, .slice b2 n2' c2', .slice b3 n3' c3', .int .i64 bB.lo.x, .int .i64 bB.lo.y, .int .i64 bB.lo.z, .int .i64 bB.hi.x, .int .i64 bB.hi.y, .int .i64 bB.hi.z, .slice b4 n4' c4'] 77)).setCell ⟨g6, 7, none⟩ (.slice (some ⟨x2.heap.size, 0, none⟩) 2 2)).heap[g6]? = some (.cells #[.slice (some ⟨lb, lo, none⟩) ln lc, .int .i64 bl.lo.x, .int .i64 bl.lo.y, .int .i64 bl.lo.z, .int .i64 bl.hi.x, .int .i64 bl.hi.y, .int .i64 bl.hi.z, .slice (some ⟨x2.heap.size, 0, none⟩) 2 2] 77) := heap_setCell_same _ _ _ _ _ _ HN9.out
       obtain ⟨x4, hW⟩ : ∃ ww, ww = (x2.alloc (.cells #[.slice b1 n1' c1', .int .i64 bA.lo.x, .int .i64 bA.lo.y, .int .i64 bA.lo.z, .int .i64 bA.hi.x, .int .i64 bA.hi.y, .int .i64 bA.hi.z, .slice b2 n2' c2', .slice b3 n3' c3', .int .i64 bB.lo.x, .int .i64 bB.lo.y, .int .i64 bB.lo.z, .int .i64 bB.hi.x, .int .i64 bB.hi.y, .int .i64 bB.hi.z, .slice b4 n4' c4'] 77)).setCell ⟨g6, 7, none⟩ (.slice (some ⟨x2.heap.size, 0, none⟩) 2 2) := ⟨_, rfl⟩
       rw [← hW] at hkp m9 ⊢
       have HM9 := Lib.hid m9
       have HKP := Lib.hid hkp
       have HAW := Lib.hid (show Away B (fun k => k = g6) (x2.alloc (.cells #[.slice b1 n1' c1', .int .i64 bA.lo.x, .int .i64 bA.lo.y, .int .i64 bA.lo.z, .int .i64 bA.hi.x, .int .i64 bA.hi.y, .int .i64 bA.hi.z, .slice b2 n2' c2', .slice b3 n3' c3', .int .i64 bB.lo.x, .int .i64 bB.lo.y, .int .i64 bB.lo.z, .int .i64 bB.hi.x, .int .i64 bB.hi.y, .int .i64 bB.hi.z, .slice b4 n4' c4'] 77)) by intro k e; subst e; exact .inr ⟨_, HN9.out, rfl⟩)
       have HNA3 := Lib.hid (NodeZ.keep hkp HAW.out _ _ (NodeZ.below HKX.out _ _ HNA2.out))
       have HND3 := Lib.hid (NodeZ.keep hkp HAW.out _ _ (NodeZ.below HKX.out _ _ HND.out))
       have HK9 := Lib.hid (keep_cell hkp HKN.out (fun e => by have := Base.lt_of_heap HN8.out; omega))
       have HZ9 := Lib.hid (keep_cell hkp (vec_step HZ8.out HKX.out) (fun e => HG6.out.1 e.symm))
       have HB9 := Lib.hid (hkp.below w.heap.size (Nat.le_trans HB8.out.size HKX.out.size) (fun k e => by have := HGE.out; omega))
       have HB10 := Lib.hid ((HB8.out.trans (HKX.out.mono HB8.out.size)).trans HB9.out)
       have HKB := Lib.hid (show B ≤ x2.heap.size by have h1 := HBW.out; have h2 := HB8.out.size; omega)
       clear hkp m9 hW HKP HAW HNA2 HND HKN HKX HN9 HB9 HZ8 HN8 HB8 HP8 k6 fz R14 R16 d0 e0 d1 e1 d2 e2 d3 e3 d4 e4 d5 e5 d6 e6 d7 e7
       obtain ⟨kb, hkb⟩ : ∃ x, x = x2.heap.size := ⟨_, rfl⟩
       rw [← hkb] at HM9 HK9 HKB ⊢
       clear hkb
       obtain ⟨s1, hs1⟩ : ∃ x, x = ln + sa := ⟨_, rfl⟩
       obtain ⟨s2, hs2⟩ : ∃ x, x = s1 + sb := ⟨_, rfl⟩
       have hsb1 : s1 ≤ 1000000 ∧ s2 ≤ 1000000 := by have h1 := HST2.out; have h2 := HSS.out.1; have h3 := HSS.out.2; have h4 := HLE.out; omega
       have i1 : IntKind.i64.wrap ((ln : Int) + (sa : Int)) = (s1 : Int) := by rw [wrap_in (by omega) (by omega)]; omega
       have i2 : IntKind.i64.wrap ((s1 : Int) + (sb : Int)) = (s2 : Int) := by rw [wrap_in (by omega) (by omega)]; omega
       have HSE := Lib.hid (show s2 = stepsT (treeF m (n + 1) l) by rw [HTR.out]; show s2 = l.length + stepsT TA + stepsT TB; rw [← HSS.out.1, ← HSS.out.2, ← HLE.out, hs2, hs1])
       clear hs1 hs2 hsb1
       have t0 := cell_row HM9.out 0 _ rfl
       have t1 := cell_row HM9.out 1 _ rfl
       have t2 := cell_row HM9.out 2 _ rfl
       have t3 := cell_row HM9.out 3 _ rfl
       have t4 := cell_row HM9.out 4 _ rfl
       have t5 := cell_row HM9.out 5 _ rfl
       have t6 := cell_row HM9.out 6 _ rfl
       have t7 := cell_row HM9.out 7 _ rfl
       go_wp2_with (with_reducible refine store_nd rfl (.tmp 4) (.tmp 152) rfl rfl (w.heap.size + 1) (some ⟨lb, lo, none⟩) ln lc bl (some ⟨kb, 0, none⟩) 2 2 rfl rfl _ HZ9.out rfl ?_)
       refine bodyPost_ret (results_row_tmp rfl _ _ _ (w.heap.size + 1) 77 _ _ _ rfl (setRow_heap _ _ _ _ _ _ HZ9.out) Tryz.underlying77 node_size) rfl ?_
       have HBX := Lib.hid (below_setRow HB10.out (Nat.le_succ _) #[.slice (some ⟨lb, lo, none⟩) ln lc, .int .i64 bl.lo.x, .int .i64 bl.lo.y, .int .i64 bl.lo.z, .int .i64 bl.hi.x, .int .i64 bl.hi.y, .int .i64 bl.hi.z, .slice (some ⟨kb, 0, none⟩) 2 2])
       have HKY := Lib.hid (show (x4.setRow (w.heap.size + 1) #[.slice (some ⟨lb, lo, none⟩) ln lc, .int .i64 bl.lo.x, .int .i64 bl.lo.y, .int .i64 bl.lo.z, .int .i64 bl.hi.x, .int .i64 bl.hi.y, .int .i64 bl.hi.z, .slice (some ⟨kb, 0, none⟩) 2 2]).heap[kb]? = some (.cells #[.slice b1 n1' c1', .int .i64 bA.lo.x, .int .i64 bA.lo.y, .int .i64 bA.lo.z, .int .i64 bA.hi.x, .int .i64 bA.hi.y, .int .i64 bA.hi.z, .slice b2 n2' c2', .slice b3 n3' c3', .int .i64 bB.lo.x, .int .i64 bB.lo.y, .int .i64 bB.lo.z, .int .i64 bB.hi.x, .int .i64 bB.hi.y, .int .i64 bB.hi.z, .slice b4 n4' c4'] 77) from (setRow_other _ _ _ _ (fun e => by have h1 := HK9.out; rw [e, HZ9.out] at h1; simp at h1)).trans HK9.out)
       have HKC := Lib.hid (kids_cells (c1 := cs1) (c2 := cs2) (by rw [HE14.out, HE16.out]; rfl) HKY.out HL1.out)
       refine ⟨ncells (.slice (some ⟨lb, lo, none⟩) ln lc) bl (.slice (some ⟨kb, 0, none⟩) 2 2), ?_, ?_, HBX.out⟩
       ·
        rw [← HSE.out]; rfl
       ·
        rw [HTR.out]
        exact ⟨_, _, _, kb, 0, 2, cs1, cs2, by rw [HBL.out], ⟨HV.out.below HBX.out (Nat.le_refl _), HSF.out.below HBX.out⟩, ⟨HKB.out, _, HKY.out, fun cur e => by cases e; simp⟩, HL1.out, HL2'.out, HKC.out.1, HKC.out.2, NodeZ.set HZ9.out rfl _ _ HNA3.out, NodeZ.set HZ9.out rfl _ _ HND3.out⟩
end Go.Proofs.YtdaokkgenfpmhaaGreat.BvhZ

