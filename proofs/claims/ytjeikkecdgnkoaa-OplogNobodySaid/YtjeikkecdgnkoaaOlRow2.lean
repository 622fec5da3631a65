/- Oplog: how one act that came in reads. -/
import Derived.Test.YtjeikkecdgnkoaaOlRow
namespace Go.Proofs.Ytjeikkecdgnkoaa
open Go.ChangeShapes Go.WideShapes Go.ChangeAt Go.RowKit Go.Deep
section
variable {H : Type} {enc : TypeId × Value → H} {w : World} {base : Nat} {spare : Nat → Bool} {held : Bool}
theorem open_act {v : Value} {d : DataW H} {p : List MemPlace} (h : DataW.Trod enc Try.prog w base spare held 42 v d p) : ∃ a : OAct, v = a.val := by
  obtain ⟨fuel, hf⟩ := h
  obtain ⟨a, ha⟩ := act_cells hf
  refine ⟨a, ?_⟩
  have hl : v.cells.size = 11 := by rw [← Array.length_toList, ha]; rfl
  cases v with
  | agg cs =>
    have e : cs = a.cells := by apply Array.ext'; simpa [Value.cells] using ha
    rw [e]; rfl
  | _ => simp [Value.cells] at hl
end
end Go.Proofs.Ytjeikkecdgnkoaa
