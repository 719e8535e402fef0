/- From the form's own reading of an argument to this seat's words: an array of 32 bytes by value. -/
import Derived.Test.YtmdhekpfkligiaaRows
import Derived.Test.YtmdhekpfkligiaaNum
import Derived.Test.YtmdhekpfkligiaaOpen
set_option linter.unusedVariables false
set_option linter.unusedSimpArgs false
namespace Go.Proofs.Ytmdhekpfkligiaa.OpenArr
open Go.RowKit Go.ChangeShapes Go.WideShapes Go.ChangeAt Base Go.Proofs.Ytmdhekpfkligiaa.Row Num

def IsHash (w : World) (v : Value) : Prop := ∃ f : Nat → Nat, (∀ i, f i < 256) ∧ v = .agg (arr .u8 32 f)
theorem open_hash {H : Type} {enc : TypeId × Value → H} {W : World} {r : Reach} {b0 : Nat} {v : Value} {d : DataW H} {p : List MemPlace}
    (hv : Value.okWide Try.prog W r b0 23 v) (h : DataW.Trod enc Try.prog W 0 (fun _ => true) true 23 v d p) : IsHash W v := by
  simp only [Value.okWide, Try.underlying23] at hv
  obtain ⟨cs, rfl, hsz, _⟩ := hv
  have hc : Try.prog.cellsOf 23 = 32 := by kernel_rfl
  have hc1 : Try.prog.cellsOf 5 = 1 := by kernel_rfl
  rw [hc] at hsz
  obtain ⟨fuel, hf⟩ := h
  have hcells : (Value.agg cs).cells.toList = cs.toList := rfl
  obtain ⟨xs, m, _, _, hlen, hxs, hx⟩ := DataW.trod_array Try.underlying23 hf
  have each : ∀ i, i < 32 → ∃ n : Nat, n < 256 ∧ cs[i]? = some (.int .u8 (n : Int)) := by
    intro i hi
    have h2 := hx i hi
    rw [hc1, List.getElem?_eq_getElem (by omega)] at h2
    obtain ⟨z, e, _, wf⟩ := DataW.trod_int Try.underlying5 h2
    obtain ⟨n, rfl, hn⟩ := nat_u8 wf
    refine ⟨n, hn, ?_⟩
    have e2 : ((cs.toList.drop (i * 1)).take 1)[0]? = some (.int .u8 (n : Int)) := by
      have : (cs.toList.drop (i * 1)).take 1 = [.int .u8 (n : Int)] := e
      rw [this]; rfl
    rw [List.getElem?_take_of_lt (by omega), List.getElem?_drop, Nat.mul_one, Nat.add_zero, Array.getElem?_toList] at e2
    exact e2
  have choose : ∃ f : Nat → Nat, ∀ i, f i < 256 ∧ (i < 32 → cs[i]? = some (.int .u8 (f i : Int))) := by
    refine ⟨fun i => if h : i < 32 then (each i h).choose else 0, fun i => ?_⟩
    by_cases h : i < 32
    · simp only [h, dif_pos]
      exact ⟨(each i h).choose_spec.1, fun _ => (each i h).choose_spec.2⟩
    · simp only [h, dif_neg, not_false_eq_true]
      exact ⟨by omega, fun h' => absurd h' (by simp)⟩
  obtain ⟨f, hf'⟩ := choose
  refine ⟨f, fun i => (hf' i).1, ?_⟩
  congr 1
  apply Array.ext_getElem?
  intro i
  by_cases h : i < 32
  · rw [(hf' i).2 h, arr_at _ _ _ _ h]
  · rw [Array.getElem?_eq_none (by omega), Array.getElem?_eq_none (by rw [arr_size]; omega)]
end Go.Proofs.Ytmdhekpfkligiaa.OpenArr
