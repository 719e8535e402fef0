/- From the form's own reading of an argument to this seat's words: a slice of rays. -/
import Derived.Test.YtdaokkgenfpmhaaOp
import Derived.Test.YtdaokkgenfpmhaaOpenRay
set_option linter.unusedVariables false
set_option linter.unusedSimpArgs false
namespace Go.Proofs.Ytdaokkgenfpmhaa.OpenRays
open Go.RowKit Go.ChangeShapes Go.WideShapes Go.ChangeAt Base Go.Proofs.Ytdaokkgenfpmhaa.Row VecW FixM MeshM Rec HitM OpenMesh OpenRay
def encR (r : Ry) : List Value := [.int .i64 r.o.x, .int .i64 r.o.y, .int .i64 r.o.z, .int .i64 r.d.x, .int .i64 r.d.y, .int .i64 r.d.z]
theorem lenR (r : Ry) : (encR r).length = 6 := rfl
def IsRays (w : World) (v : Value) : Prop := ∃ l : List Ry, (∀ r ∈ l, r.ok) ∧ Recs 6 encR w v l
set_option maxRecDepth 100000 in
theorem open_rays {H : Type} {enc : TypeId × Value → H} {W : World} {r : Reach} {b0 : Nat} {v : Value} {d : DataW H} {p : List MemPlace}
    (hv : Value.okWide Try.prog W r b0 44 v) (h : DataW.Trod enc Try.prog W 0 (fun _ => true) true 44 v d p) : IsRays W v := by
  obtain ⟨a, len, cap, rfl⟩ := okWide_slice Try.underlying44 hv
  obtain ⟨fuel, hf⟩ := h
  exact recs_of (⟨⟨0, 0, 0⟩, ⟨0, 0, 0⟩⟩ : Ry) (ok := Ry.ok) Try.underlying44 (by kernel_rfl) (by decide) lenR (fun fuel cs x hl h => by
    obtain ⟨a, b, ha, hb, e⟩ := dec_two Try.underlying25 _ _ rfl rfl ⟨rfl, rfl⟩ ⟨rfl, rfl⟩ _ _ _ hl h
    exact ⟨⟨a, b⟩, ⟨ha, hb⟩, e⟩) hf
end Go.Proofs.Ytdaokkgenfpmhaa.OpenRays
