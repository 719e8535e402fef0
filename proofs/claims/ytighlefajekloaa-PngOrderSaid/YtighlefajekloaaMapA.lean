/- Maps whose keys are three bytes, from such a key to a row of integers. -/
import Derived.Test.YtighlefajekloaaBase
import Derived.Test.YtighlefajekloaaLow
import Derived.WideKeyPair
import Derived.WideKeyEntry
set_option linter.unusedVariables false
set_option linter.unusedSimpArgs false
namespace Go.Proofs.Ytighlefajekloaa.MapA
open Go Go.RowKit Go.WideMaps Go.WideElems Go.ChangeShapes Go.WideShapes Go.MapKept Base
open Go.ChangeMaps (setBlock heap_setBlock_same heap_setBlock_other modify_eq_set)
abbrev k3 (a b c : Nat) : Value := .agg #[.int .u8 (a : Int), .int .u8 (b : Int), .int .u8 (c : Int)]
theorem keyOf_three {P : Program} {k e : TypeId} {q : IntKind} (A : ArrKey P k e 3) (he : P.underlying e = some (.int q)) (hsz : ∃ m, P.types.size = m + 1) {a b c : Int} (wa : (Lit.int q a).wf = true) (wb : (Lit.int q b).wf = true) (wc : (Lit.int q c).wf = true) :
    keyOf P k (.agg #[.int q a, .int q b, .int q c]) = some (.string (keyBytes [.int q a, .int q b, .int q c])) := by
  have hkt := A.keyType hsz
  obtain ⟨m, hm⟩ := hsz
  unfold keyOf
  simp only [A.hu]
  rw [if_pos (by simp [hkt, Value.formed, A.hu, A.size]), hm]
  unfold Program.keyLits
  simp only [A.hu, Value.cells]
  rw [if_pos (by rw [A.size]; rfl), show List.range 3 = [0, 1, 2] from rfl, List.mapM_cons, List.mapM_cons, List.mapM_cons, List.mapM_nil]
  simp [A.one, Program.keyLits, he, wa, wb, wc]
theorem arr3 : ArrKey Try.prog 120 5 3 := ⟨Try.underlying120, by kernel_rfl, by kernel_rfl, by kernel_rfl⟩
theorem law3 : KeyLaw Try.prog 120 := arr3.law
theorem types_pos : ∃ m, Try.prog.types.size = m + 1 := ⟨Try.prog.types.size - 1, by
  have : 0 < Try.prog.types.size := by decide +kernel
  omega⟩
def Key (v : Value) : Prop := ∃ a b c : Nat, a < 256 ∧ b < 256 ∧ c < 256 ∧ v = k3 a b c
theorem wf8 (a : Nat) (h : a < 256) : (Lit.int .u8 (a : Int)).wf = true := WalkArith.wf_u8 (by omega)
theorem Key.of {v : Value} (h : Key v) : ∃ l, keyOf Try.prog 120 v = some l := by
  obtain ⟨a, b, c, ha, hb, hc, rfl⟩ := h
  exact ⟨_, keyOf_three arr3 Try.underlying5 types_pos (wf8 a ha) (wf8 b hb) (wf8 c hc)⟩
theorem map_type : Try.prog.underlying 91 = some (.map 120 23) := Try.underlying91
theorem zero_ints (u : World) : (zeroValue 23).run Try.prog u = .ok (.slice none 0 0) u := by kernel_rfl
/-- a row that is not empty -/
def Full (v : Value) : Prop := ∃ a n c, v = .slice a (n + 1) c
/-- a map at block g: V tells what stands at each key, nothing where there is none -/
structure Pl (w : World) (g : Nat) (V : Value → Value) : Prop where
  is_ : ∃ es clock, w.heap[g]? = some (.map es clock) ∧ Stamped es clock ∧ (∀ x ∈ es.toList, Key x.key ∧ x.val = V x.key) ∧ (∀ v, (∀ x ∈ es.toList, x.key ≠ v) → V v = .slice none 0 0) ∧ (∀ x ∈ es.toList, Full x.val)
theorem Pl.lt {w : World} {g : Nat} {V : Value → Value} (h : Pl w g V) : g < w.heap.size := by
  obtain ⟨es, clock, h1, -⟩ := h
  exact lt_of_heap h1
theorem Pl.keep {w w' : World} {g : Nat} {V : Value → Value} (h : Pl w g V) (e : w'.heap[g]? = w.heap[g]?) : Pl w' g V := by
  obtain ⟨es, clock, h1, h2⟩ := h
  exact ⟨es, clock, by rw [e]; exact h1, h2⟩
theorem Pl.new (w : World) : Pl (w.alloc (.map #[] 0)) w.heap.size (fun _ => .slice none 0 0) :=
  ⟨#[], 0, heap_alloc_new _ _, stamped_empty 0, by simp, fun _ _ => rfl, by simp⟩
theorem Pl.lookup {w : World} {g : Nat} {V : Value → Value} (h : Pl w g V) {v : Value} (hv : Key v) : (Instr.lookup 91 (.map (some g)) v false).run Try.prog w = .ok (V v) w := by
  obtain ⟨es, clock, hb, hs, hk, hn, hfu⟩ := h
  obtain ⟨l, hkey⟩ := hv.of
  rcases law3.find w hkey es.toList (fun x hx => (hk x hx).1.of) with ⟨h1, h2⟩ | ⟨j, e0, h1, h2, h3⟩
  · rw [hn v h2]
    simp [Instr.lookup, run_underlying map_type, MapKept.run_getObj_map hb, law3.check w _ hkey, h1, zero_ints, Result.andThen]
  · have hm : e0 ∈ es.toList := List.mem_of_getElem? h2
    have := (hk e0 hm).2
    rw [h3] at this
    rw [← this]
    simp [Instr.lookup, run_underlying map_type, MapKept.run_getObj_map hb, law3.check w _ hkey, h1, Result.andThen]
theorem key_one {l : List MapEntry} : (l.map (·.key)).Nodup → ∀ {x y : MapEntry}, x ∈ l → y ∈ l → x.key = y.key → x = y := by
  induction l with
  | nil => intro _ x y hx; simp at hx
  | cons a r ih =>
    intro hn x y hx hy e
    simp only [List.map_cons, List.nodup_cons] at hn
    rcases List.mem_cons.1 hx with e1 | hx1 <;> rcases List.mem_cons.1 hy with e2 | hy1
    · rw [e1, e2]
    · exact absurd (List.mem_map.2 ⟨y, hy1, by rw [← e, e1]⟩) hn.1
    · exact absurd (List.mem_map.2 ⟨x, hx1, by rw [e, e2]⟩) hn.1
    · exact ih hn.2 hx1 hy1 e
open Classical in
noncomputable def updV (V : Value → Value) (v val : Value) : Value → Value := fun u => if u = v then val else V u
theorem updV_same (V : Value → Value) (v val : Value) : updV V v val v = val := by simp [updV]
theorem updV_other (V : Value → Value) {v u : Value} (val : Value) (h : ¬ u = v) : updV V v val u = V u := by simp [updV, h]
/-- an entry, and what is stored there -/
theorem Pl.entry {w : World} {g : Nat} {V : Value → Value} (h : Pl w g V) {v : Value} (hv : Key v) :
    ∃ (st : Nat) (o1 : Obj), (Instr.mapEntry 91 (.map (some g)) v).run Try.prog w = .ok (.tuple #[V v, goInt st]) (setBlock w g o1) ∧
      ∀ (w2 : World) (val : Value), w2.heap[g]? = some o1 → Full val → ∃ o2, (Instr.entryStore 91 (.map (some g)) (goInt st) val).run Try.prog w2 = .ok () (setBlock w2 g o2) ∧ Pl (setBlock w2 g o2) g (updV V v val) := by
  obtain ⟨es, clock, hb, hs, hk, hn, hfu⟩ := h
  obtain ⟨l, hkey⟩ := hv.of
  obtain ⟨s1, s2, s3⟩ := hs
  rcases law3.find w hkey es.toList (fun x hx => (hk x hx).1.of) with ⟨h1, h2⟩ | ⟨j, e0, h1, h2, h3⟩
  · refine ⟨clock, .map (es.push ⟨v, .slice none 0 0, clock⟩) (clock + 1), ?_, fun w2 val hw2 hfv => ⟨.map (es.push ⟨v, val, clock⟩) (clock + 1), ?_, ?_⟩⟩
    · rw [hn v h2]
      simp [Instr.mapEntry, run_underlying map_type, MapKept.run_getObj_map hb, law3.check w false hkey, h1, zero_ints, MapKept.run_setObj_map _ hb, Result.andThen, setBlock]
    · have hidx : (es.push ⟨v, .slice none 0 0, clock⟩).findIdx? (fun e => ((e.born : Nat) : Int) == ((clock : Nat) : Int)) = some es.size := by
        rw [findIdx_arr]
        exact findIdx_born (l := (es.push ⟨v, .slice none 0 0, clock⟩).toList) (j := es.size) (e0 := ⟨v, .slice none 0 0, clock⟩) (by
          simp only [Array.toList_push, List.map_append, List.map_cons, List.map_nil]
          refine List.nodup_append.2 ⟨s2, by simp, fun a ha c hc e1 => ?_⟩
          simp only [List.mem_singleton] at hc
          obtain ⟨x, hx, rfl⟩ := List.mem_map.1 ha
          have := s1 x hx
          omega) (by simp)
      have hmod : (es.push ⟨v, .slice none 0 0, clock⟩).modify es.size (fun e => { e with val := val }) = es.push ⟨v, val, clock⟩ := by
        apply Array.ext'
        rw [Array.toList_modify, Array.toList_push, Array.toList_push, ← Array.length_toList, modify_last]
      simp [Instr.entryStore, MapKept.run_getObj_map hw2, asInt, asIntOf, goInt, hidx, hmod, MapKept.run_setObj_map _ hw2, Result.andThen, setBlock]
    · refine ⟨_, _, heap_setBlock_same hw2 _, stamped_push ⟨s1, s2, s3⟩ h2, fun x hx => ?_, fun u hu => ?_, fun x hx => by
        simp only [Array.toList_push, List.mem_append, List.mem_singleton] at hx
        rcases hx with hx | rfl
        · exact hfu x hx
        · exact hfv⟩
      · simp only [Array.toList_push, List.mem_append, List.mem_singleton] at hx
        rcases hx with hx | rfl
        · exact ⟨(hk x hx).1, by rw [updV_other _ _ (h2 x hx)]; exact (hk x hx).2⟩
        · exact ⟨hv, by rw [updV_same]⟩
      · have hne : ¬ u = v := fun e => hu ⟨v, val, clock⟩ (by simp) e.symm
        rw [updV_other _ _ hne]
        exact hn u (fun x hx => hu x (by simp only [Array.toList_push, List.mem_append]; exact .inl hx))
  · have hj : es[j]? = some e0 := by simpa using h2
    have hm0 : e0 ∈ es.toList := List.mem_of_getElem? h2
    have hsame : es.modify j (fun e => { e with key := v }) = es := by
      apply Array.ext'
      rw [Array.toList_modify, modify_eq_set _ _ _ _ h2]
      have : ({ e0 with key := v } : MapEntry) = e0 := by rw [← h3]
      rw [this]
      exact set_self _ _ _ h2
    refine ⟨e0.born, .map es clock, ?_, fun w2 val hw2 hfv => ⟨.map (es.modify j (fun e' => { e' with val := val })) clock, ?_, ?_⟩⟩
    · have hval := (hk e0 hm0).2
      rw [h3] at hval
      rw [← hval]
      simp [Instr.mapEntry, run_underlying map_type, MapKept.run_getObj_map hb, law3.check w false hkey, h1, hj, h3, law3.stays w hkey, hsame, MapKept.run_setObj_map _ hb, Result.andThen, setBlock]
    · have hidx : es.findIdx? (fun e => ((e.born : Nat) : Int) == ((e0.born : Nat) : Int)) = some j := by
        rw [findIdx_arr]
        exact findIdx_born s2 h2
      simp [Instr.entryStore, MapKept.run_getObj_map hw2, asInt, asIntOf, goInt, hidx, MapKept.run_setObj_map _ hw2, Result.andThen, setBlock]
    · have hl : (es.modify j (fun e' => { e' with val := val })).toList = es.toList.set j { e0 with val := val } := by rw [Array.toList_modify, modify_eq_set _ _ _ _ h2]
      have hs' : Stamped (es.modify j (fun e' => { e' with val := val })) clock := stamped_modify ⟨s1, s2, s3⟩ j _ (fun _ _ => rfl) (fun _ _ _ => rfl)
      have hjl : j < es.toList.length := by rw [List.getElem?_eq_some_iff] at h2; exact h2.1
      have hin : ({ e0 with val := val } : MapEntry) ∈ (es.modify j (fun e' => { e' with val := val })).toList := by
        rw [hl]; exact List.mem_set hjl _
      have hkeys : (es.toList.set j { e0 with val := val }).map (·.key) = es.toList.map (·.key) := by
        rw [List.map_set]
        exact set_self _ _ _ (by rw [List.getElem?_map, h2]; rfl)
      refine ⟨_, _, heap_setBlock_same hw2 _, hs', fun x hx => ?_, fun u hu => ?_, fun x hx => by
        rw [hl] at hx
        rcases List.mem_or_eq_of_mem_set hx with hx2 | rfl
        · exact hfu x hx2
        · exact hfv⟩
      · by_cases e : x.key = v
        · have : x = { e0 with val := val } := key_one hs'.2.2 hx hin (by rw [e]; exact h3.symm)
          rw [this]
          refine ⟨(hk e0 hm0).1, ?_⟩
          rw [show ({ e0 with val := val } : MapEntry).key = v from h3, updV_same]
        · rw [hl] at hx
          rcases List.mem_or_eq_of_mem_set hx with hx2 | rfl
          · exact ⟨(hk x hx2).1, by rw [updV_other _ _ e]; exact (hk x hx2).2⟩
          · exact absurd h3 e
      · have hne : ¬ u = v := fun e => hu _ hin (by rw [e]; exact h3)
        rw [updV_other _ _ hne]
        refine hn u fun x hx e => ?_
        have : x.key ∈ (es.toList.set j { e0 with val := val }).map (·.key) := by rw [hkeys]; exact List.mem_map.2 ⟨x, hx, rfl⟩
        obtain ⟨y, hy, hy2⟩ := List.mem_map.1 this
        exact hu y (by rw [hl]; exact hy) (by rw [hy2]; exact e)
end Go.Proofs.Ytighlefajekloaa.MapA
