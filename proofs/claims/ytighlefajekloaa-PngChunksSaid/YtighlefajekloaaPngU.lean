/- Package lightwelllaw09: PngChunks. -/
import Derived.Test.YtighlefajekloaaPl
import Derived.Test.YtighlefajekloaaPngV
import Derived.Test.YtighlefajekloaaOp
import Derived.Laws.BitsLemmas
set_option linter.unusedVariables false
set_option linter.unusedSimpArgs false
namespace Go.Proofs.Ytighlefajekloaa.PngU
open Go.RowKit Go.Sort Base Low NumSl NumAp Bits5 DefS DefO Rec PngM PngB PngD PngE PngG PngH PngK PngO PngL PngV PngW OpenPx Qb Qt
/-- 's[x:y]' -/
theorem wpList_slice_lh {P : Program} {w : World} {ops : Array Oper} {rest : List Oper} {o : Oper} {A : Act} {Q : Exit → Act → World → Prop} (hgd : o.guard = none) (T E : TypeId) (x lo hi : Operand)
    (ho : o.op = .slice T x (some lo) (some hi) none) (k : IntKind) (N bytes : Nat) (hT : NumSlice P T E k bytes) (a : Option Addr) (len cap : Nat) (l : List Nat) (hx : A.eval x = .slice a len cap) (hu : Nums k N w (.slice a len cap) l)
    (n m : Nat) (hl : A.eval lo = .int .i64 (n : Int)) (hh : A.eval hi = .int .i64 (m : Int)) (hnm : n ≤ m) (hn : m ≤ len)
    (h : ∀ v, Nums k N w v ((l.take m).drop n) → wpList P ops Q rest (A.put o.dst v) w) : wpList P ops Q (o :: rest) A w := by
  refine wpList_plain hgd fun K hK => ?_
  obtain ⟨h1, h2, h3⟩ := nums_len hu
  have hrun := run_slice_lh (P := P) w T a len cap (NumSlice.elem hT) .i64 .i64 (n : Int) (m : Int) (by omega) (by omega) (by omega)
  rw [run_size hT, Int.toNat_natCast, Int.toNat_natCast] at hrun
  obtain ⟨e1, e2⟩ := nums_cut hu n m hnm hn
  have hA := run_sliceAt_slice (P := P) w T (.slice a len cap) (some (.int .i64 (n : Int))) (some (.int .i64 (m : Int))) none (NumSlice.elem hT)
  unfold Oper.wp
  simp only [execOp, ho, hx, hl, hh, Option.map_none, Option.map_some]
  simp [hA, hrun, Result.andThen]
  exact hK _ _ (h _ e1)
/-- the law's first loop -/
structure L1 (w wr : World) (N b5 g a b n : Nat) (p : Px) (i : Nat) (va : Value) (all : List Nat) : Prop where
  bel : Below w.heap.size w wr
  lo : w.heap.size ≤ N
  box : wr.heap[b5]? = some (.cells (PngO.encP p).toArray 28)
  b5l : b5 < N
  own : Own .u8 256 5 N wr va all
  sz : N ≤ wr.heap.size
  enc : i < n → ∃ v rws at_ gz s B, En N wr g a b (n - i) v rws at_ gz s (decide (0 < i)) B ∧ B.length ≤ 5 * i ∧ chkR (n - i) rws at_ = true ∧ ∀ k, va.ownBlock = some k → ¬ (k = g ∨ k = gz ∨ s.own k ∨ v.ownBlock = some k)
theorem l1_put {w wr : World} {N b5 g a b n : Nat} {p : Px} {i : Nat} {va : Value} {all : List Nat} (h : L1 w wr N b5 g a b n p i va all) (hn : n = a * b) (ha : a ≤ 1024) (hb : b ≤ 1024) (hn9 : n ≤ 300) (hi : i < n) (hpo : p.ok) :
    Calls Try.prog 12 #[.pointer (some ⟨g, 0, none⟩), pxV p] wr fun e w' => ∃ y at_ bg B, e = .returned (.tuple #[y, .int .i64 0]) ∧ B.length ≤ 2000 ∧ Nums .u8 256 w' y (putL a b (n - i) at_ bg B (pxL p)) ∧ (∀ k, y.ownBlock = some k → wr.heap.size ≤ k) ∧ L1 w w' N b5 g a b n p (i + 1) va all := by
  obtain ⟨v, rws, at_, gz, s, B, hen, hB, hck, hsp⟩ := h.enc hi
  rw [show n - i = n - (i + 1) + 1 by omega] at hck
  obtain ⟨r0, rs, rfl, hlt, hck2⟩ := chkR_next hck
  have hni : n - i ≤ a * b := by omega
  refine (put_any N wr g a b (n - i) v r0 rs at_ gz s (decide (0 < i)) B hen ha hb (by omega) hni hlt h.sz (by omega) p.1 p.2.1 p.2.2.1 p.2.2.2 (Px.lt hpo)).mono ?_
  rintro e w' ⟨y, rfl, hy, hk, hnot, -⟩
  have hlowD : ∀ k, (k = g ∨ k = gz ∨ s.own k) → N ≤ k := fun k hk => by
    rcases hk with rfl | rfl | hk
    · exact hen.low
    · exact hen.zs.low
    · exact (hen.zs.ws.low k hk).1
  have h5 := h.b5l
  refine ⟨y, at_, _, B, rfl, by omega, hy.nums, fun k e => (hy.lt k e).1, ⟨h.bel.trans (hk.below _ h.bel.size (fun k e => Nat.le_trans h.lo (hlowD k e))), h.lo, (hk.block b5 (lt_of_heap h.box) (fun e => by have := hlowD b5 e; omega)).trans h.box, h5, h.own.frame hk (fun k e e2 => hsp k e (by
    rcases e2 with e2 | e2 | e2
    · exact .inl e2
    · exact .inr (.inl e2)
    · exact .inr (.inr (.inl e2)))), Nat.le_trans h.sz hk.size, fun hlt1 => ?_⟩⟩
  obtain ⟨v', s', hen', hs', hv'⟩ := hnot (by omega)
  rw [show n - i - 1 = n - (i + 1) by omega] at hen'
  rw [show decide (0 < i + 1) = true from decide_eq_true (Nat.succ_pos i)]
  refine ⟨v', _, _, gz, s', _, hen', ?_, hck2, fun k e e2 => ?_⟩
  · have := inL_len at_ p
    rw [List.length_append]
    have h9 : (inL at_ [p.1, p.2.1, p.2.2.1, p.2.2.2]).length ≤ 5 := this
    omega
  · have hka := (h.own.lt k e).2
    rcases e2 with e2 | e2 | e2 | e2
    · exact hsp k e (.inl e2)
    · exact hsp k e (.inr (.inl e2))
    · rcases hs' k e2 with h1 | h1
      · exact hsp k e (.inr (.inr (.inl h1)))
      · omega
    · exact hsp k e (.inr (.inr (.inr (hv' k e2))))
theorem l1_app {w wr : World} {N b5 g a b n : Nat} {p : Px} {j : Nat} {va : Value} {all : List Nat} (h : L1 w wr N b5 g a b n p j va all) {v' : Value} {all' : List Nat} {w' : World} (ho : Own .u8 256 5 N w' v' all') (hg : wr.grownBy w' va.ownBlock) (hf : v'.ownBlock = va.ownBlock ∨ ∀ b, v'.ownBlock = some b → wr.heap.size ≤ b) : L1 w w' N b5 g a b n p j v' all' := by
  have hk : Keeps (fun k => va.ownBlock = some k) wr w' := (Keeps.refl _ wr).grown hg (fun k hk => .inl hk)
  have h5 := h.b5l
  refine ⟨h.bel.trans (hk.below _ h.bel.size (fun k e => Nat.le_trans h.lo (h.own.lt k e).1)), h.lo, (hk.block b5 (lt_of_heap h.box) (fun e => by have := (h.own.lt b5 e).1; omega)).trans h.box, h5, ho, Nat.le_trans h.sz hk.size, fun hj => ?_⟩
  obtain ⟨v, rws, at_, gz, s, B, hen, hB, hck, hsp⟩ := h.enc hj
  refine ⟨v, rws, at_, gz, s, B, ⟨(hk.block g (lt_of_heap hen.row) (fun e => hsp g e (.inl rfl))).trans hen.row, hen.rows.frame hk (fun k e e2 => hsp k e2 (.inr (.inr (.inr e)))), hen.zs.frame hk (fun k e e2 => hsp k e2 (by
    rcases e with e | e
    · exact .inr (.inl e)
    · exact .inr (.inr (.inl e)))), hen.low, hen.ng, hen.ns, hen.rw⟩, hB, hck, fun k e e2 => ?_⟩
  rcases hf with hf | hf
  · exact hsp k (by rw [← hf]; exact e) e2
  · have h1 := hf k e
    rcases e2 with e2 | e2 | e2 | e2
    · have := lt_of_heap hen.row; omega
    · have := lt_of_heap hen.zs.row; omega
    · have := (hen.zs.ws.low k e2).2; omega
    · have hne : rws ≠ [] := fun e3 => by
        rw [e3, show n - j = n - j - 1 + 1 by omega] at hck
        simp [chkR] at hck
      obtain ⟨b7, o7, c7, e7, hlt7, -⟩ := hen.rows.cells hne
      rw [e7] at e2
      simp only [Value.ownBlock, Option.some.injEq] at e2
      omega
/-- the kind that was read last -/
def kS (C : List Ck) (k : Nat) : ByteArray := if k = 0 then { data := #[] } else strOf (C.getD (k - 1) ([], [])).1
theorem kS_next (C : List Ck) (k : Nat) (hk : k < C.length) : kS C (k + 1) = strOf (C[k]).1 := by
  unfold kS
  rw [if_neg (by omega), show k + 1 - 1 = k by omega, List.getD_eq_getElem?_getD, List.getElem?_eq_getElem hk]; rfl
theorem str_hdr : strOf kHDR = { data := #[73, 72, 68, 82] } := rfl
theorem str_end : strOf kEND = { data := #[73, 69, 78, 68] } := rfl
theorem kS_end {wd ht n : Nat} {all : List Nat} {C : List Ck} (h : CI wd ht n n all C) : kS C C.length = { data := #[73, 69, 78, 68] } ∧ 0 < C.length := by
  obtain ⟨D, rfl⟩ := h.last rfl
  refine ⟨?_, by simp⟩
  rw [← str_end, show (D ++ [(kEND, ([] : List Nat))]).length = D.length + 1 by simp, kS_next _ _ (by simp)]
  simp
theorem or_len (q2 q3 len : Nat) (h2 : q2 < 256) (h3 : q3 < 256) (hl : len = q2 * 256 + q3) : bits .or .i64 (bits .or .i64 (bits .or .i64 0 0) ((q2 : Int) * 256)) (q3 : Int) = (len : Int) := by
  have hw : ∀ n : Int, 0 ≤ n → n < 2 ^ 62 → IntKind.i64.wrap n = n := fun n h0 h1 => by rw [IntKind.wrap_i64]; omega
  have e0 : bits .or .i64 0 0 = 0 := by decide
  have e1 : bits .or .i64 0 ((q2 : Int) * 256) = 0 + (q2 : Int) * 256 := bits_join .i64 62 (by decide) hw 16 0 ((q2 : Int) * 256) (by omega) (by omega) (by omega) (by omega) (by omega) (by omega)
  rw [e0, e1, Int.zero_add, bits_join .i64 62 (by decide) hw 8 ((q2 : Int) * 256) (q3 : Int) (by omega) (by omega) (by omega) (by omega) (by omega) (by omega)]
  omega
theorem wsub (t z : Nat) (c : Int) (h : (z : Int) = (t : Int) - c) (hz : z < 1000000000) : IntKind.i64.wrap ((t : Int) - c) = (z : Int) := by rw [IntKind.wrap_i64]; omega
theorem wadd (t z : Nat) (c : Int) (h : (z : Int) = (t : Int) + c) (hz : z < 1000000000) : IntKind.i64.wrap ((t : Int) + c) = (z : Int) := by rw [IntKind.wrap_i64]; omega
set_option maxRecDepth 100000 in
set_option maxHeartbeats 4000000 in
theorem chunks_any (x y : Int) (hx : -9223372036854775808 ≤ x ∧ x ≤ 9223372036854775807) (hy : -9223372036854775808 ≤ y ∧ y ≤ 9223372036854775807) (v : Value) (w : World) (hv : IsPx w v) : Calls Try.prog 4 #[.int .i64 x, .int .i64 y, v] w fun e w' => e = .returned (.bool true) ∧ Below w.heap.size w w' := by
  obtain ⟨p, hpo, rfl⟩ := hv
  unfold pxV
  have HPO := Lib.hid hpo
  have HPX := Lib.hid (fun w => pick_any x 16 hx.1 hx.2 (by omega) w)
  have HPY := Lib.hid (fun w => pick_any y 16 hy.1 hy.2 (by omega) w)
  have hlx := pick_lt x 16 (by omega)
  have hly := pick_lt y 16 (by omega)
  generalize pick x 16 = kx at HPX hlx
  generalize pick y 16 = ky at HPY hly
  have e1 : IntKind.i64.wrap (1 + (kx : Int)) = ((kx + 1 : Nat) : Int) := by rw [IntKind.wrap_i64]; omega
  have e2 : IntKind.i64.wrap (1 + (ky : Int)) = ((ky + 1 : Nat) : Int) := by rw [IntKind.wrap_i64]; omega
  obtain ⟨a, ha⟩ : ∃ a, a = kx + 1 := ⟨_, rfl⟩
  obtain ⟨b, hb⟩ : ∃ b, b = ky + 1 := ⟨_, rfl⟩
  rw [← ha] at e1
  rw [← hb] at e2
  have ha1 : 1 ≤ a ∧ a ≤ 16 := by omega
  have hb1 : 1 ≤ b ∧ b ≤ 16 := by omega
  clear hx hy hpo ha hb
  go_enter Try.func4, Try.ntmps4
  have hb0 := ext_alloc w (.cells (PngO.encP p).toArray 28)
  have hr0 := heap_alloc_new w (.cells (PngO.encP p).toArray 28)
  simp only [PngO.encP] at hb0 hr0
  go_upto_region 1 with (fail)
  obtain ⟨W, hW⟩ : ∃ W, W = w.alloc (.cells #[.int .u8 (p.1 : Int), .int .u8 (p.2.1 : Int), .int .u8 (p.2.2.1 : Int), .int .u8 (p.2.2.2 : Int)] 28) := ⟨_, rfl⟩
  rw [← hW] at hb0 hr0 ⊢
  obtain ⟨b5, hb5⟩ : ∃ g, g = w.heap.size := ⟨_, rfl⟩
  rw [← hb5] at hr0 ⊢
  have HB0 := Lib.hid hb0
  have HR0 := Lib.hid hr0
  clear hW hb0 hr0 hb5
  go_wp2_with fail
  refine (HPX.out _).mono ?_
  rintro e w1 ⟨rfl, rfl⟩
  go_wp2_with fail
  refine (HPY.out _).mono ?_
  rintro e w1 ⟨rfl, rfl⟩
  obtain ⟨n, hn⟩ : ∃ n, n = a * b := ⟨_, rfl⟩
  have hn9 : n ≤ 16 * 16 := by rw [hn]; exact Nat.mul_le_mul ha1.2 hb1.2
  have hn1 : 1 ≤ n := by rw [hn]; exact Nat.mul_le_mul ha1.1 hb1.1
  have en : IntKind.i64.wrap ((a : Int) * (b : Int)) = (n : Int) := by rw [← Int.natCast_mul, ← hn, IntKind.wrap_i64]; omega
  have HN := Lib.hid hn
  obtain ⟨N, hN⟩ : ∃ N, N = W.heap.size := ⟨_, rfl⟩
  have HNW := Lib.hid hN
  have HNEW := Lib.hid (new_png N a b ha1.1 (by omega) hb1.1 (by omega) W (by omega))
  clear hn hN HPX HPY
  go_wp2_with fail
  refine HNEW.out.mono ?_
  rintro e w1 ⟨g, v, gz, s, rfl, hen, hb1', hfr⟩
  rw [← HN.out] at hen
  have HL := Lib.hid (show L1 w w1 N b5 g a b n p 0 (.slice none 0 0) [] from ⟨HB0.out.trans (hb1'.mono HB0.out.size), by rw [HNW.out]; exact HB0.out.size, (hb1'.block b5 (lt_of_heap HR0.out)).trans HR0.out, by rw [HNW.out]; exact lt_of_heap HR0.out, Own.nil _ _ _ _ _, by rw [HNW.out]; exact hb1'.size, fun _ => ⟨v, _, 0, gz, s, [], hen, by simp, by rw [Nat.sub_zero, HN.out]; exact chkR_all a b ha1.1 ha1.2 hb1.1 hb1.2, fun k e => by cases e⟩⟩)
  have HC := Lib.hid (ci_zero a b n (by omega))
  clear hen hb1' hfr HNEW HR0 HB0 HNW e1 e2
  go_wp2_with fail
  go_loopg [9, 10] n (fun r v9 v10 wr => ∃ (i : Nat) (all : List Nat) (C : List Ck), i + r = n ∧ v10 = .int .i64 (i : Int) ∧ Hid (L1 w wr N b5 g a b n p i v9 all) ∧ Hid (CI a b n i all C))
  case atStart => exact ⟨0, [], [], by omega, rfl, HL, HC⟩
  case round =>
    obtain ⟨i, all, C, hir, rfl, HI, HCI⟩ := hrel
    clear HL HC
    obtain ⟨aa, na, ca, rfl⟩ := HI.out.own.slice_
    by_cases hin : i < n
    · have d1 : decide ((i : Int) < (n : Int)) = true := decide_eq_true (by omega)
      have d1' : decide (i < n) = true := decide_eq_true hin
      have hbx := HI.out.box
      have y0 := cell_of_row _ _ 0 _ _ _ hbx
      have y1 := cell_of_row _ _ 1 _ _ _ hbx
      have y2 := cell_of_row _ _ 2 _ _ _ hbx
      have y3 := cell_of_row _ _ 3 _ _ _ hbx
      simp only [PngO.encP, List.getElem?_toArray, List.getElem?_cons_succ, List.getElem?_cons_zero] at y0 y1 y2 y3
      have HPS := Lib.hid (l1_put HI.out HN.out (by omega) (by omega) (by omega) hin HPO.out)
      unfold pxV at HPS
      have e8 : IntKind.i64.wrap ((i : Int) + 1) = ((i + 1 : Nat) : Int) := by rw [IntKind.wrap_i64]; omega
      clear hbx
      go_wp2_with fail
      refine HPS.out.mono ?_
      rintro e w3 ⟨yv, at_, bg, B, rfl, hB, hyn, hyl, hl1⟩
      have HCN := Lib.hid (ci_next HCI.out HN.out hin at_ bg B p hB)
      have hpl := put_len a b (n - i) at_ bg B p hB
      have hal := HCI.out.len
      have HYN := Lib.hid hyn
      have HL1 := Lib.hid hl1
      have hsz := hl1.sz
      have hi9 : i * 100000 ≤ 256 * 100000 := Nat.mul_le_mul_right _ (by omega)
      have HLa := Lib.hid (show (all.length + (putL a b (n - i) at_ bg B (pxL p)).length) * 1 ≤ 140737488355328 by omega)
      have HLb := Lib.hid (show all.length + (putL a b (n - i) at_ bg B (pxL p)).length ≤ 140737488355328 by omega)
      clear hyn hl1 hyl y0 y1 y2 y3 HPS HI HCI hal hpl hi9
      go_wp2_with (at_builtin; refine wpList_append_nums_at rfl (.tmp 45) (.tmp 46) 33 5 rfl .u8 256 1 N u8s (.slice aa na ca) all rfl HL1.out.own yv _ rfl HYN.out HLa.out HLb.out hsz ?_; intro v9_ w9_ h1_ h2_ h3_; have HL2 := Lib.hid (l1_app HL1.out h1_ h2_ h3_); clear h1_ h2_ h3_)
      go_roundg (gk - 1)
      case measure => omega
      case rel => exact ⟨i + 1, _, _, by omega, rfl, HL2, HCN⟩
    · have d1 : decide ((i : Int) < (n : Int)) = false := decide_eq_false (by omega)
      have d1' : decide (i < n) = false := decide_eq_false hin
      obtain rfl : i = n := by omega
      have hna := (nums_len HI.out.own.nums).1
      have hal := HCI.out.len
      have hi9 : i * 100000 ≤ 256 * 100000 := Nat.mul_le_mul_right _ (by omega)
      have hna9 : na ≤ 25600000 := by omega
      have HNA := Lib.hid hna
      have HNM := Lib.hid HI.out.own.nums
      have HBL := Lib.hid HI.out.bel
      have HTY := Lib.hid (own_tyB HI.out.own)
      clear hna hal hi9 HI
      obtain ⟨WL, rfl⟩ : ∃ ww, ww = wr := ⟨_, rfl⟩
      go_upto_region 14 with (fail)
      clear en d1 d1' hir hin
      go_loopg [13, 14] C.length (fun r v13 v14 ws => ∃ k : Nat, k + r = C.length ∧ v13 = .int .i64 ((atK C k : Nat) : Int) ∧ v14 = .string (kS C k) ∧ Hid (Below WL.heap.size WL ws))
      case atStart => exact ⟨0, by omega, rfl, rfl, Lib.hid (Below.refl _ _)⟩
      case round =>
        obtain ⟨k, hkr, rfl, rfl, HBS⟩ := hrel
        by_cases hk : k < C.length
        · obtain ⟨hat, hnx⟩ := at_k HCI.out hn1 k hk
          have hmo := at_mono HCI.out hn1 k (by omega)
          have hok := HCI.out.ok (C[k]) (List.getElem_mem hk)
          have hkn := kS_next C k hk
          have hc0 : k = 0 → C[k] = headC a b := fun h0 => by
            subst h0
            have := (HCI.out.more hn1).2
            rw [List.head?_eq_getElem?, List.getElem?_eq_getElem hk] at this
            exact Option.some.inj this
          obtain ⟨c, hc⟩ : ∃ c, c = C[k] := ⟨_, rfl⟩
          rw [← hc] at hat hnx hok hkn hc0
          obtain ⟨t, ht⟩ : ∃ t, t = atK C k := ⟨_, rfl⟩
          obtain ⟨len, hlen⟩ : ∃ l, l = c.2.length := ⟨_, rfl⟩
          have hb0 := hat.b0
          have hb1' := hat.b1
          have hb2 := hat.b2
          have hb3 := hat.b3
          have hfits := hat.fits
          have HKD := Lib.hid hat.kind
          rw [← ht] at hb0 hb1' hb2 hb3 hfits hnx hmo HKD ⊢
          rw [← hlen] at hb2 hb3 hfits hnx
          rw [← HNA.out] at hfits
          have hl65 : len < 65536 := by rw [hlen]; exact hok.2
          obtain ⟨q2, hq2⟩ : ∃ q, q = len / 256 := ⟨_, rfl⟩
          obtain ⟨q3, hq3⟩ : ∃ q, q = len % 256 := ⟨_, rfl⟩
          rw [← hq2] at hb2
          rw [← hq3] at hb3
          have hnum := HNM.out.below HBS.out (Nat.le_refl _)
          obtain ⟨bb, oo, ca', e, -, hcc⟩ := hnum.cells (by intro e; have := HNA.out; rw [e] at this; simp at this; omega)
          simp only [Value.slice.injEq] at e
          obtain ⟨rfl, -, -⟩ := e
          have hcell : ∀ j z, j < na → all.getD j 0 = z → wr.cell? ⟨bb, oo + j, none⟩ = some (.int .u8 (z : Int)) := fun j z hj hz => by
            have hj2 : j < all.length := by rw [← HNA.out]; exact hj
            rw [hcc j hj2, ← hz, List.getD_eq_getElem?_getD, List.getElem?_eq_getElem hj2]; rfl
          have HC := Lib.hid hc
          have HLEN := Lib.hid hlen
          have HT := Lib.hid ht
          have HNX := Lib.hid hnx
          have HKN := Lib.hid hkn
          have HC0 := Lib.hid hc0
          have HMO := Lib.hid hmo
          have q2l : q2 < 256 := by omega
          have q3l : q3 < 256 := by omega
          have HQ2 := Lib.hid hq2
          have HQ3 := Lib.hid hq3
          clear hc hlen ht hnx hkn hc0 hmo hok hat hcc hnum hq2 hq3
          obtain ⟨t1, ht1⟩ : ∃ x, x = t + 1 := ⟨_, rfl⟩
          obtain ⟨t2, ht2⟩ : ∃ x, x = t + 2 := ⟨_, rfl⟩
          obtain ⟨t3, ht3⟩ : ∃ x, x = t + 3 := ⟨_, rfl⟩
          obtain ⟨t4, ht4⟩ : ∃ x, x = t + 4 := ⟨_, rfl⟩
          obtain ⟨t8, ht8⟩ : ∃ x, x = t + 8 := ⟨_, rfl⟩
          obtain ⟨t12, ht12⟩ : ∃ x, x = t + 12 := ⟨_, rfl⟩
          rw [← ht1] at hb1'
          rw [← ht2] at hb2
          rw [← ht3] at hb3
          rw [← ht4, ← ht8] at HKD
          have c0 := hcell t 0 (by omega) hb0
          have c1 := hcell t1 0 (by omega) hb1'
          have c2 := hcell t2 q2 (by omega) hb2
          have c3 := hcell t3 q3 (by omega) hb3
          have l0 : t < na := by omega
          have l1 : t1 < na := by omega
          have l2 : t2 < na := by omega
          have l3 : t3 < na := by omega
          have l12 : t12 ≤ na := by omega
          have d12 : decide ((t12 : Int) ≤ (na : Int)) = true := decide_eq_true (by omega)
          have a1 : (t1 : Int) = (t : Int) + 1 := by omega
          have b1 : t1 < 1000000000 := by omega
          have a2 : (t2 : Int) = (t : Int) + 2 := by omega
          have b2 : t2 < 1000000000 := by omega
          have a3 : (t3 : Int) = (t : Int) + 3 := by omega
          have b3 : t3 < 1000000000 := by omega
          have a4 : (t4 : Int) = (t : Int) + 4 := by omega
          have b4 : t4 < 1000000000 := by omega
          have a8 : (t8 : Int) = (t : Int) + 8 := by omega
          have b8 : t8 < 1000000000 := by omega
          have a12 : (t12 : Int) = (t : Int) + 12 := by omega
          have b12 : t12 < 1000000000 := by omega
          have z0 : ∀ d os, (grow (redrawn wr d) os).cell? ⟨bb, oo + t, none⟩ = some (.int .u8 0) := fun d os => cell_regrown c0 d os
          have z1 : ∀ d os, (grow (redrawn wr d) os).cell? ⟨bb, oo + t1, none⟩ = some (.int .u8 0) := fun d os => cell_regrown c1 d os
          have z2 : ∀ d os, (grow (redrawn wr d) os).cell? ⟨bb, oo + t2, none⟩ = some (.int .u8 (q2 : Int)) := fun d os => cell_regrown c2 d os
          have z3 : ∀ d os, (grow (redrawn wr d) os).cell? ⟨bb, oo + t3, none⟩ = some (.int .u8 (q3 : Int)) := fun d os => cell_regrown c3 d os
          have HT12 := Lib.hid (And.intro ht4 (And.intro ht8 ht12))
          clear ht1 ht2 ht3 ht4 ht8 ht12 hb0 hb1' hb2 hb3 hcell c0 c1 c2 c3
          obtain ⟨r1, hr1⟩ : ∃ x, x = na - t := ⟨_, rfl⟩
          obtain ⟨r2, hr2⟩ : ∃ x, x = na - t - 12 := ⟨_, rfl⟩
          obtain ⟨nx, hnx⟩ : ∃ x, x = t12 + len := ⟨_, rfl⟩
          have HNX2 := Lib.hid (show atK C (k + 1) = nx by rw [HNX.out, hnx, HT12.out.2.2])
          have s1 : (r1 : Int) = (na : Int) - (t : Int) := by omega
          have s2 : (r2 : Int) = (r1 : Int) - 12 := by omega
          have s3 : (nx : Int) = (t12 : Int) + (len : Int) := by omega
          have u1 : r1 < 1000000000 := by omega
          have u2 : r2 < 1000000000 := by omega
          have u3 : nx < 1000000000 := by omega
          have m1 : ¬ r2 < len := by omega
          have m1' : decide ((r2 : Int) < (len : Int)) = false := decide_eq_false (by omega)
          have m2 : decide ((len : Int) < 0) = false := decide_eq_false (by omega)
          have h48 : t4 ≤ t8 := by omega
          have h8 : t8 ≤ na := by omega
          have HOR := Lib.hid (or_len q2 q3 len q2l q3l (by have := HQ2.out; have := HQ3.out; omega))
          obtain ⟨st, hst⟩ : ∃ x, x = strOf c.1 := ⟨_, rfl⟩
          have HST := Lib.hid hst.symm
          have hk8 : k = 0 ∧ ((t : Int) == 8) = true ∧ ((len : Int) == 13) = true ∧ st = { data := #[73, 72, 68, 82] } ∨ ((t : Int) == 8) = false := by
            by_cases h0 : k = 0
            · left
              have h1 := HC0.out h0
              refine ⟨h0, ?_, ?_, by rw [hst, h1]; exact str_hdr⟩
              · rw [HT.out, h0]; rfl
              · rw [HLEN.out, h1]; rfl
            · right
              have := HMO.out.2.1 (by omega)
              simp; omega
          have e20 : IntKind.i64.wrap ((na : Int) - (t : Int)) = (r1 : Int) := wsub na r1 t s1 u1
          have e21 : IntKind.i64.wrap ((r1 : Int) - 12) = (r2 : Int) := wsub r1 r2 12 s2 u2
          have e22 : IntKind.i64.wrap ((t12 : Int) + (len : Int)) = (nx : Int) := wadd t12 nx len s3 u3
          clear hr1 hr2 hnx hst s1 s2 s3 u1 u2 u3
          have e1 : IntKind.i64.wrap ((t : Int) + 1) = (t1 : Int) := wadd t t1 1 a1 b1
          have e2 : IntKind.i64.wrap ((t : Int) + 2) = (t2 : Int) := wadd t t2 2 a2 b2
          have e3 : IntKind.i64.wrap ((t : Int) + 3) = (t3 : Int) := wadd t t3 3 a3 b3
          have e4 : IntKind.i64.wrap ((t : Int) + 4) = (t4 : Int) := wadd t t4 4 a4 b4
          have e8 : IntKind.i64.wrap ((t : Int) + 8) = (t8 : Int) := wadd t t8 8 a8 b8
          have e12 : IntKind.i64.wrap ((t : Int) + 12) = (t12 : Int) := wadd t t12 12 a12 b12
          clear a1 a2 a3 a4 a8 a12 b1 b2 b3 b4 b8 b12
          go_upto_region 15 with (fail)
          refine wp_region_quiet_below (by kernel_rfl) (by kernel_rfl) ?_
          repeat (go_big_quiet_step (fail))
          refine wpQuiet_nil ?_
          first | (rintro _ ⟨⟨dq, osq⟩, rfl⟩) | (rintro ⟨dq, osq⟩)
          have hbq := below_regrown wr dq osq
          generalize grow (redrawn wr dq) osq = W2 at *
          have HB2 := Lib.hid (HBS.out.trans (hbq.mono HBS.out.size))
          have HNW := Lib.hid (HNM.out.below HB2.out (Nat.le_refl _))
          clear hbq z0 z1 z2 z3 HBS
          rcases hk8 with ⟨-, q8, q13, rfl⟩ | q8
          all_goals
            go_simp
            simp only [HOR.out]
            go_wp2_with (first
              | (refine wpList_slice_lh rfl 33 5 (.tmp 93) (.tmp 95) (.tmp 97) rfl .u8 256 1 u8s (some ⟨bb, oo, none⟩) na ca all rfl HNW.out t4 t8 rfl rfl h48 h8 ?_; intro v98 hv98; rw [HKD.out] at hv98; have HV98 := Lib.hid hv98; clear hv98)
              | (refine wpList_toString rfl 9 33 5 (.tmp 98) rfl Try.underlying9 Try.underlying33 Try.underlying5 v98 c.1 256 rfl HV98.out ?_; rw [HST.out]))
            go_roundg (gk - 1)
            case measure => omega
            case rel => exact ⟨k + 1, by omega, by rw [HNX2.out], by rw [HKN.out, HST.out], HB2⟩
        · obtain rfl : k = C.length := by omega
          have hke := kS_end HCI.out
          have hae := at_end HCI.out hn1
          obtain ⟨t, ht⟩ : ∃ t, t = atK C C.length := ⟨_, rfl⟩
          rw [← ht] at hae ⊢
          have htn : t = na := by rw [hae, HNA.out]
          subst htn
          obtain ⟨t12, ht12⟩ : ∃ x, x = t + 12 := ⟨_, rfl⟩
          have l12 : ¬ t12 ≤ t := by omega
          have d12 : decide ((t12 : Int) ≤ (t : Int)) = false := decide_eq_false (by omega)
          have a12 : (t12 : Int) = (t : Int) + 12 := by omega
          have b12 : t12 < 1000000000 := by omega
          have e12 : IntKind.i64.wrap ((t : Int) + 12) = (t12 : Int) := wadd t t12 12 a12 b12
          have hk1 := hke.1
          rw [hk1]
          clear hke hae ht ht12 a12 b12 hk1
          go_wp2_with fail
          refine (awake_any _).mono ?_
          rintro e w9 ⟨rfl, hb9⟩
          go_wp2_with fail
          go_ret
          exact ⟨rfl, (HBL.out.trans (HBS.out.mono HBL.out.size)).trans (hb9.mono (Nat.le_trans HBL.out.size HBS.out.size))⟩
end Go.Proofs.Ytighlefajekloaa.PngU
