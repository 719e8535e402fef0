/- Writers and readers through scripts: what each call keeps; and chapter 05's examples. -/
import Derived.Test.YtdjnpgkgiofnnaaBits6
import Derived.Test.YtdjnpgkgiofnnaaBitsG
set_option linter.unusedVariables false
set_option linter.unusedSimpArgs false
namespace Go.Proofs.Ytdjnpgkgiofnnaa.Bits7
open Go.RowKit BitsM Base Low Bits5 Bits6 BitsW BitsX BitsR BitsG

/-- a writer that was made behind w0, apart from the blocks D -/
structure WS (w0 w : World) (g : Nat) (v : Value) (V R T : Nat) (D : Nat → Prop) : Prop where
  wr : Wr w0.heap.size w g v V R T
  below : Below w0.heap.size w0 w
  free : ∀ b, D b → b < w.heap.size ∧ ¬ fp g v b
theorem WS.fp_low {w0 w : World} {g : Nat} {v : Value} {V R T : Nat} {D : Nat → Prop} (h : WS w0 w g v V R T D) : ∀ k, fp g v k → w0.heap.size ≤ k ∧ k < w.heap.size := by
  rintro k (rfl | hk)
  · exact ⟨h.wr.low, h.wr.lt⟩
  · exact h.wr.own.lt k hk
theorem WS.mono {w0 w : World} {g : Nat} {v : Value} {V R T : Nat} {D D' : Nat → Prop} (h : WS w0 w g v V R T D) (hD : ∀ b, D' b → D b) : WS w0 w g v V R T D' := ⟨h.wr, h.below, fun b hb => h.free b (hD b hb)⟩
/-- what only adds leaves the writer, and it is apart from what is added -/
theorem WS.ext {w0 w w' : World} {g : Nat} {v : Value} {V R T : Nat} {D : Nat → Prop} (h : WS w0 w g v V R T D) (hb : Below w.heap.size w w') : WS w0 w' g v V R T (fun k => D k ∨ (w.heap.size ≤ k ∧ k < w'.heap.size)) := by
  have hlow := h.fp_low
  refine ⟨h.wr.frame (Keeps.of_ext hb (fun _ => False)) (fun _ _ => id), h.below.trans (hb.mono h.below.size), ?_⟩
  rintro b (hd | ⟨h1, h2⟩)
  · exact ⟨Nat.lt_of_lt_of_le (h.free b hd).1 hb.size, (h.free b hd).2⟩
  · exact ⟨h2, fun hf => by have := hlow b hf; omega⟩
/-- what a writer's call leaves -/
theorem WS.step {w0 w w' : World} {g : Nat} {v v' : Value} {V R T V' R' T' : Nat} {D : Nat → Prop} (h : WS w0 w g v V R T D) (hw : Wr w0.heap.size w' g v' V' R' T') (hk : Keeps (fp g v) w w')
    (hv : v'.ownBlock = v.ownBlock ∨ ∀ b, v'.ownBlock = some b → w.heap.size ≤ b) : WS w0 w' g v' V' R' T' D ∧ Keeps (fun k => ¬ D k) w w' := by
  have hlow := h.fp_low
  refine ⟨⟨hw, ?_, ?_⟩, hk.mono (fun k hf hd => (h.free k hd).2 hf)⟩
  · exact h.below.trans (hk.below w0.heap.size h.below.size (fun k hf => (hlow k hf).1))
  · intro b hb
    obtain ⟨h1, h2⟩ := h.free b hb
    refine ⟨Nat.lt_of_lt_of_le h1 hk.size, ?_⟩
    rintro (rfl | hf)
    · exact h2 (.inl rfl)
    · rcases hv with hv | hv
      · exact h2 (.inr (hv.symm.trans hf))
      · have := hv b hf; omega
def WTo (w0 w : World) (g V R T : Nat) (D : Nat → Prop) (a : Value) (e : Ending) (w' : World) : Prop := e = .returned a ∧ ∃ v', WS w0 w' g v' V R T D ∧ Keeps (fun k => ¬ D k) w w'
theorem put_ws {w0 w : World} {g : Nat} {v : Value} {V R T : Nat} {D : Nat → Prop} (h : WS w0 w g v V R T D) (n k V' R' : Nat) (hk : k ≤ 32) (hn : n < 2 ^ k) (hR : 8 * T + R ≤ 562949953421312) (hV' : V' = V + n * 2 ^ R) (hR' : R' = R + k) (n' k' : Int) (en : n' = (n : Int)) (ek : k' = (k : Int)) :
    Calls Try.prog 7 #[.pointer (some ⟨g, 0, none⟩), .int .u32 n', .int .i64 k'] w (WTo w0 w g V' R' T D (.int .i64 0)) := by
  subst en ek hV' hR'
  refine (put_any _ g V R T v w h.wr n k hk hn hR).mono ?_
  rintro e w' ⟨rfl, v', hw, hkp, hv⟩
  exact ⟨rfl, v', h.step hw hkp hv⟩
theorem align_ws {w0 w : World} {g : Nat} {v : Value} {V R T : Nat} {D : Nat → Prop} (h : WS w0 w g v V R T D) (R' : Nat) (hR : 8 * T + R ≤ 562949953421312) (hR' : R' = R + (8 - R % 8) % 8) :
    Calls Try.prog 6 #[.pointer (some ⟨g, 0, none⟩)] w (WTo w0 w g V R' T D (.int .i64 0)) := by
  subst hR'
  refine (align_any _ g V R T v w h.wr hR).mono ?_
  rintro e w' ⟨rfl, v', hw, hkp, hv⟩
  exact ⟨rfl, v', h.step hw hkp hv⟩
def TTo (w0 w : World) (g V R T : Nat) (D : Nat → Prop) (l : List Nat) (e : Ending) (w' : World) : Prop :=
  ∃ u v', e = .returned u ∧ Nums .u8 256 w' u l ∧ WS w0 w' g v' V R T (fun k => D k ∨ u.ownBlock = some k) ∧ Keeps (fun k => ¬ D k) w w' ∧ ∀ b, u.ownBlock = some b → ¬ D b
theorem take_ws {w0 w : World} {g : Nat} {v : Value} {V R T : Nat} {D : Nat → Prop} (h : WS w0 w g v V R T D) (hR : 8 * T + R ≤ 562949953421312) :
    Calls Try.prog 8 #[.pointer (some ⟨g, 0, none⟩)] w (TTo w0 w g (V / 256 ^ (R / 8)) (R % 8) (T + R / 8) D (bytesN V (R / 8))) := by
  refine (take_any _ g V R T v w h.wr hR).mono ?_
  rintro e w' ⟨u, v', rfl, hn, hw, hkp, hv, hu⟩
  obtain ⟨h1, h2⟩ := h.step hw hkp hv
  refine ⟨u, v', rfl, hn, ⟨h1.wr, h1.below, ?_⟩, h2, fun b hb hd => (h.free b hd).2 (.inr (hu b hb).1)⟩
  rintro b (hb | hb)
  · exact h1.free b hb
  · obtain ⟨e1, e2⟩ := hu b hb
    refine ⟨Nat.lt_of_lt_of_le (h.wr.own.lt b e1).2 hkp.size, ?_⟩
    rintro (rfl | hf)
    · exact h.wr.apart e1
    · exact e2 hf
theorem WS.new (w : World) : WS w (w.alloc (.cells #[.bool true, .slice none 0 0, .int .i64 0] 46)) w.heap.size (.slice none 0 0) 0 0 0 (fun _ => False) :=
  ⟨Wr.new w _ (Nat.le_refl _), ext_alloc _ _, fun _ h => h.elim⟩
theorem Nums.keep {w w' : World} {u : Value} {l : List Nat} {D : Nat → Prop} (h : Nums .u8 256 w u l) (hk : Keeps (fun k => ¬ D k) w w') (hu : ∀ b, u.ownBlock = some b → D b) : Nums .u8 256 w' u l := h.frame hk (fun b hb hn => hn (hu b hb))
theorem Sq.keep {w w' : World} {u : Value} {l : List Bool} {D : Nat → Prop} (h : Sq w u l) (hk : Keeps (fun k => ¬ D k) w w') (hu : ∀ b, u.ownBlock = some b → D b) : Sq w' u l := ⟨h.sq.frame hk (fun b hb hn => hn (hu b hb)), fun b hb => Nat.lt_of_lt_of_le (h.lt b hb) hk.size⟩

/-- a reader that was made behind w0 -/
structure RS (w0 w : World) (g : Nat) (v : Value) (B : List Nat) (p : Nat) : Prop where
  rd : Rd w0.heap.size w g v B p
  below : Below w0.heap.size w0 w
def RTo (w0 : World) (g : Nat) (v : Value) (B : List Nat) (p : Nat) (a : Value) (e : Ending) (w' : World) : Prop := e = .returned a ∧ RS w0 w' g v B p
theorem RS.ext {w0 w w' : World} {g : Nat} {v : Value} {B : List Nat} {p : Nat} (h : RS w0 w g v B p) (hb : Below w.heap.size w w') : RS w0 w' g v B p :=
  ⟨⟨by rw [hb.block g h.rd.lt]; exact h.rd.blk, h.rd.own.frame (Keeps.of_ext hb (fun _ => False)) (fun _ _ => id), h.rd.low, h.rd.ok, h.rd.apart⟩, h.below.trans (hb.mono h.below.size)⟩
theorem RS.step {w0 w w' : World} {g : Nat} {v : Value} {B : List Nat} {p q : Nat} (h : RS w0 w g v B p) (hr : Rd w0.heap.size w' g v B q) (hk : Keeps (fun k => k = g) w w') : RS w0 w' g v B q :=
  ⟨hr, h.below.trans (hk.below w0.heap.size h.below.size (by rintro k rfl; exact h.rd.low))⟩
theorem newReader_rs (v : Value) (l : List Nat) (w : World) (hv : Nums .u8 256 w v l) (hl : l.length ≤ 140737488355328) :
    Calls Try.prog 11 #[v] w fun e w' => ∃ g v, e = .returned (.pointer (some ⟨g, 0, none⟩)) ∧ RS w w' g v l 0 := by
  refine (newReader_any v l w hv hl).mono ?_
  rintro e w' ⟨g, v, rfl, h1, h2⟩
  exact ⟨g, v, rfl, h1, h2⟩
theorem get_rs {w0 w : World} {g : Nat} {v : Value} {B : List Nat} {p : Nat} (h : RS w0 w g v B p) (k x : Nat) (hk : k ≤ 32) (hs : p + k ≤ 8 * B.length) (hB : B.length ≤ 70368744177664) (hx : x = valB B / 2 ^ p % 2 ^ k) (k' : Int) (ek : k' = (k : Int)) :
    Calls Try.prog 13 #[.pointer (some ⟨g, 0, none⟩), .int .i64 k'] w (RTo w0 g v B (p + k) (.tuple #[.int .u32 (x : Int), .int .i64 0])) := by
  subst ek hx
  refine (get_any _ g p v B w h.rd k hk hs hB).mono ?_
  rintro e w' ⟨rfl, h1, h2⟩
  exact ⟨rfl, h.step h1 h2⟩
theorem get_rs_short {w0 w : World} {g : Nat} {v : Value} {B : List Nat} {p : Nat} (h : RS w0 w g v B p) (k : Nat) (hk : k ≤ 32) (hs : 8 * B.length < p + k) (hB : B.length ≤ 70368744177664) (k' : Int) (ek : k' = (k : Int)) :
    Calls Try.prog 13 #[.pointer (some ⟨g, 0, none⟩), .int .i64 k'] w (RTo w0 g v B p (.tuple #[.int .u32 0, .int .i64 12])) := by
  subst ek
  refine (get_short _ g p v B w h.rd k hk hs hB).mono ?_
  rintro e w' ⟨rfl, h1, h2⟩
  exact ⟨rfl, h.step h1 h2⟩
theorem get_rs_bad {w0 w : World} {g : Nat} {v : Value} {B : List Nat} {p : Nat} (h : RS w0 w g v B p) (k : Int) (hbad : k < 0 ∨ 32 < k) :
    Calls Try.prog 13 #[.pointer (some ⟨g, 0, none⟩), .int .i64 k] w (RTo w0 g v B p (.tuple #[.int .u32 0, .int .i64 2])) := by
  refine (get_bad _ g p v B w h.rd k hbad).mono ?_
  rintro e w' ⟨rfl, h1, h2⟩
  exact ⟨rfl, h.step h1 h2⟩
theorem ralign_rs {w0 w : World} {g : Nat} {v : Value} {B : List Nat} {p : Nat} (h : RS w0 w g v B p) (hp : p ≤ 562949953421312) (q : Nat) (hq : q = p + (8 - p % 8) % 8) :
    Calls Try.prog 12 #[.pointer (some ⟨g, 0, none⟩)] w (RTo w0 g v B q (.int .i64 0)) := by
  subst hq
  refine (ralign_any _ g p v B w h.rd hp).mono ?_
  rintro e w' ⟨rfl, h1, h2⟩
  exact ⟨rfl, h.step h1 h2⟩

set_option maxRecDepth 100000 in
set_option maxHeartbeats 2000000 in
theorem awake_any (w : World) : Calls Try.prog 15 #[] w fun e w' => e = .returned (.bool true) ∧ Below w.heap.size w w' := by
  go_enter Try.func15, Try.ntmps15
  go_wp2_with fail
  refine (newWriter_any _).mono ?_
  rintro e w1 ⟨rfl, rfl⟩
  have h1 := WS.new w
  generalize w.alloc _ = w1 at *
  go_wp2_with fail
  refine (put_ws h1 5 3 5 3 (by omega) (by omega) (by omega) rfl rfl _ _ rfl rfl).mono ?_
  rintro e w2 ⟨rfl, v2, h2, -⟩
  go_wp2_with fail
  refine (put_ws h2 1 1 13 4 (by omega) (by omega) (by omega) rfl rfl _ _ rfl rfl).mono ?_
  rintro e w3 ⟨rfl, v3, h3, -⟩
  go_wp2_with fail
  refine (put_ws h3 0 4 13 8 (by omega) (by omega) (by omega) rfl rfl _ _ rfl rfl).mono ?_
  rintro e w4 ⟨rfl, v4, h4, -⟩
  go_wp2_with fail
  refine (take_ws h4 (by omega)).mono ?_
  rintro e w5 ⟨u5, v5, rfl, hu5, h5, -⟩
  go_wp2_with fail
  refine (put_ws h5 1 1 1 1 (by omega) (by omega) (by omega) rfl rfl _ _ rfl rfl).mono ?_
  rintro e w6 ⟨rfl, v6, h6, k6⟩
  have hu6 := Nums.keep hu5 k6 (fun b hb => .inr hb)
  go_wp2_with fail
  refine (align_ws h6 8 (by omega) rfl).mono ?_
  rintro e w7 ⟨rfl, v7, h7, k7⟩
  have hu7 := Nums.keep hu6 k7 (fun b hb => .inr hb)
  go_wp2_with fail
  refine (take_ws h7 (by omega)).mono ?_
  rintro e w8 ⟨t8, v8, rfl, ht8, h8, k8, -⟩
  have hu8 := Nums.keep hu7 k8 (fun b hb => .inr hb)
  go_wp2_with fail
  have h9 := h8.ext (ext_alloc w8 (.cells #[.int .u8 13] 5))
  have hu9 := hu8.below (ext_alloc w8 (.cells #[.int .u8 13] 5)) (Nat.le_refl _)
  have ht9 := ht8.below (ext_alloc w8 (.cells #[.int .u8 13] 5)) (Nat.le_refl _)
  have hn9 : Nums .u8 256 (w8.alloc (.cells #[.int .u8 13] 5)) (.slice (some ⟨w8.heap.size, 0, none⟩) 1 1) [13] := nums_one .u8 256 5 w8 13 (by omega)
  generalize w8.alloc _ = w9 at *
  refine (newReader_rs _ _ _ hn9 (by simp)).mono ?_
  rintro e w10 ⟨g, rv, rfl, h10⟩
  go_wp2_with fail
  refine (get_rs h10 3 5 (by omega) (by simp) (by simp) (by decide) _ rfl).mono ?_
  rintro e w11 ⟨rfl, h11⟩
  go_wp2_with fail
  refine (get_rs h11 5 1 (by omega) (by simp) (by simp) (by decide) _ rfl).mono ?_
  rintro e w12 ⟨rfl, h12⟩
  go_wp2_with fail
  refine (get_rs_short h12 1 (by omega) (by simp) (by simp) _ rfl).mono ?_
  rintro e w13 ⟨rfl, h13⟩
  go_wp2_with fail
  have hu13 := hu9.below h13.below (Nat.le_refl _)
  have ht13 := ht9.below h13.below (Nat.le_refl _)
  have hw13 := h9.ext h13.below
  have hx1 := ext_alloc w13 (.cells #[.int .u8 13] 5)
  refine (sameBytes_any _ _ _ _ _ (hu13.below hx1 (Nat.le_refl _)) (nums_one .u8 256 5 w13 13 (by omega))).mono ?_
  rintro e w14 ⟨rfl, rfl⟩
  rw [show decide (bytesN 13 (8 / 8) = [13]) = true from by decide]
  have ht14 := ht13.below hx1 (Nat.le_refl _)
  have hw14 := hw13.ext hx1
  have h14 := h13.ext hx1
  clear hu13 ht13 hw13 h13 h12 h11 h10 h9 hu9 ht9 hu8 ht8 hn9
  generalize w13.alloc _ = w14 at *
  go_wp2_with fail
  have hx2 := ext_alloc w14 (.cells #[.int .u8 1] 5)
  refine (sameBytes_any _ _ _ _ _ (ht14.below hx2 (Nat.le_refl _)) (nums_one .u8 256 5 _ 1 (by omega))).mono ?_
  rintro e w15 ⟨rfl, rfl⟩
  rw [show decide (bytesN 1 (8 / 8) = [1]) = true from by decide]
  go_wp2_with fail
  have hw15 := hw14.ext hx2
  have h15 := h14.ext hx2
  refine (put_bad _ _ _ _ _ _ _ hw15.wr 8 (by omega) 3 (by omega) (by omega) (.inr (.inr (by decide)))).mono ?_
  rintro e w16 ⟨rfl, rfl⟩
  go_wp2_with fail
  refine (bits_any _ _ _ _ _ _ _ hw15.wr).mono ?_
  rintro e w16 ⟨rfl, rfl⟩
  go_wp2_with fail
  refine (rat_any _ _ _ _ _ _ h15.rd).mono ?_
  rintro e w16 ⟨rfl, rfl⟩
  go_wp2_with fail
  go_ret
  exact ⟨rfl, hw15.below⟩
end Go.Proofs.Ytdjnpgkgiofnnaa.Bits7
