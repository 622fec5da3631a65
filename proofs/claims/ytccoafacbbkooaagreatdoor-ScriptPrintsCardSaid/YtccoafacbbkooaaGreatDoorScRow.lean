/- Script: how items that came in read; what the rows' proofs share. -/
import Derived.Test.YtccoafacbbkooaaGreatDoorScLf
import Derived.ProofKit
import Derived.OpenShut
import Derived.ShutString
import Derived.ChangeOld
import Derived.ChangeMaps5
import Derived.SizedLaws
import Derived.Deep.Slices
import Derived.Carry
namespace Go.Proofs.YtccoafacbbkooaaGreatDoor
open Go.ChangeShapes Go.WideShapes Go.ChangeAt Go.RowKit Go.Deep

theorem own : ownKnob Tryz.prog.godebug = none := by kernel_rfl
theorem laidOut : laidOutB Tryz.prog = true := by kernel_rfl
theorem bounds64 {n : Int} (h : (Lit.int .i64 n).wf = true) : In64 n := by
  have e1 : IntKind.i64.min = -9223372036854775808 := rfl
  have e2 : IntKind.i64.max = 9223372036854775807 := rfl
  simp [Lit.wf, e1, e2] at h
  exact h

section
variable {H : Type} {enc : TypeId × Value → H} {w : World} {base : Nat} {spare : Nat → Bool} {held : Bool}
theorem c3 : Tryz.prog.cellsOf 3 = 1 := by kernel_rfl
theorem cPol : Tryz.prog.cellsOf 23 = 2 := by kernel_rfl
theorem cCall : Tryz.prog.cellsOf 25 = 8 := by kernel_rfl
theorem cJob : Tryz.prog.cellsOf 27 = 3 := by kernel_rfl
theorem cItem : Tryz.prog.cellsOf 29 = 14 := by kernel_rfl
theorem bItem : Tryz.prog.bytesOf 29 = 112 := by kernel_rfl
theorem one_fits {n i : Nat} {cs : List Value} {xs : List (DataW H × List MemPlace)} (h : DataW.trod enc Tryz.prog w base spare held n 3 cs = xs[i]?) (hi : i < xs.length) : ∃ k, cs = [.int .i64 k] ∧ In64 k := by
  obtain ⟨k, h1, _, h2⟩ := DataW.trod_int Tryz.underlying3 (h.trans (List.getElem?_eq_getElem hi))
  exact ⟨k, h1, bounds64 h2⟩
set_option maxRecDepth 100000 in
theorem pol_cells {n : Nat} {cs : List Value} {x : DataW H × List MemPlace} (h : DataW.trod enc Tryz.prog w base spare held n 23 cs = some x) : ∃ a b : Int, cs = [.int .i64 a, .int .i64 b] ∧ In64 b := by
  obtain ⟨xs, m, rfl, -, hl, hx, hf⟩ := DataW.trod_struct Tryz.underlying23 h
  rw [cPol] at hl
  match cs, hl with
  | [y0, y1], _ =>
    have f0 := hf 0 _ rfl
    have f1 := hf 1 _ rfl
    simp only [List.getElem_toArray, List.getElem_cons_zero, List.getElem_cons_succ, c3, List.drop_zero, List.drop_succ_cons, List.take_succ_cons, List.take_zero] at f0 f1
    obtain ⟨a0, h0, _⟩ := one_fits f0 (by rw [hx]; decide)
    obtain ⟨a1, h1, g1⟩ := one_fits f1 (by rw [hx]; decide)
    simp only [List.cons.injEq, and_true] at h0 h1
    exact ⟨a0, a1, by rw [h0, h1], g1⟩
set_option maxRecDepth 100000 in
theorem call_cells {n : Nat} {cs : List Value} {x : DataW H × List MemPlace} (h : DataW.trod enc Tryz.prog w base spare held n 25 cs = some x) : ∃ a : Cl, cs = a.arr.toList ∧ In64 a.page ∧ In64 a.pages ∧ In64 a.pn ∧ In64 a.addr ∧ In64 a.byte := by
  obtain ⟨xs, m, rfl, -, hl, hx, hf⟩ := DataW.trod_struct Tryz.underlying25 h
  rw [cCall] at hl
  match cs, hl with
  | [y0, y1, y2, y3, y4, y5, y6, y7], _ =>
    have f0 := hf 0 _ rfl
    have f1 := hf 1 _ rfl
    have f2 := hf 2 _ rfl
    have f3 := hf 3 _ rfl
    have f4 := hf 4 _ rfl
    have f5 := hf 5 _ rfl
    have f6 := hf 6 _ rfl
    simp only [List.getElem_toArray, List.getElem_cons_zero, List.getElem_cons_succ, c3, cPol, List.drop_zero, List.drop_succ_cons, List.take_succ_cons, List.take_zero] at f0 f1 f2 f3 f4 f5 f6
    obtain ⟨a0, h0, _⟩ := one_fits f0 (by rw [hx]; decide)
    obtain ⟨a1, h1, g1⟩ := one_fits f1 (by rw [hx]; decide)
    obtain ⟨a2, h2, g2⟩ := one_fits f2 (by rw [hx]; decide)
    obtain ⟨a3, h3, _⟩ := one_fits f3 (by rw [hx]; decide)
    obtain ⟨a5, h5, g5⟩ := one_fits f5 (by rw [hx]; decide)
    obtain ⟨a6, h6, g6⟩ := one_fits f6 (by rw [hx]; decide)
    obtain ⟨b0, b1, h4, g4⟩ := pol_cells (f4.trans (List.getElem?_eq_getElem (by rw [hx]; decide)))
    simp only [List.cons.injEq, and_true] at h0 h1 h2 h3 h4 h5 h6
    exact ⟨⟨a0, a1, a2, a3, b0, b1, a5, a6⟩, by rw [h0, h1, h2, h3, h4.1, h4.2, h5, h6]; rfl, g1, g2, g4, g5, g6⟩
set_option maxRecDepth 100000 in
theorem job_cells {n : Nat} {cs : List Value} {x : DataW H × List MemPlace} (h : DataW.trod enc Tryz.prog w base spare held n 27 cs = some x) : ∃ a b c : Int, cs = [.int .i64 a, .int .i64 b, .int .i64 c] ∧ In64 b ∧ In64 c := by
  obtain ⟨xs, m, rfl, -, hl, hx, hf⟩ := DataW.trod_struct Tryz.underlying27 h
  rw [cJob] at hl
  match cs, hl with
  | [y0, y1, y2], _ =>
    have f0 := hf 0 _ rfl
    have f1 := hf 1 _ rfl
    have f2 := hf 2 _ rfl
    simp only [List.getElem_toArray, List.getElem_cons_zero, List.getElem_cons_succ, c3, List.drop_zero, List.drop_succ_cons, List.take_succ_cons, List.take_zero] at f0 f1 f2
    obtain ⟨a0, h0, _⟩ := one_fits f0 (by rw [hx]; decide)
    obtain ⟨a1, h1, g1⟩ := one_fits f1 (by rw [hx]; decide)
    obtain ⟨a2, h2, g2⟩ := one_fits f2 (by rw [hx]; decide)
    simp only [List.cons.injEq, and_true] at h0 h1 h2
    exact ⟨a0, a1, a2, by rw [h0, h1, h2], g1, g2⟩
set_option maxRecDepth 100000 in
theorem item_cells {n : Nat} {cs : List Value} {x : DataW H × List MemPlace} (h : DataW.trod enc Tryz.prog w base spare held n 29 cs = some x) : ∃ a : Itm, cs = a.arr.toList ∧ Wide a := by
  obtain ⟨xs, m, rfl, -, hl, hx, hf⟩ := DataW.trod_struct Tryz.underlying29 h
  rw [cItem] at hl
  match cs, hl with
  | [y0, y1, y2, y3, y4, y5, y6, y7, y8, y9, y10, y11, y12, y13], _ =>
    have f0 := hf 0 _ rfl
    have f1 := hf 1 _ rfl
    have f2 := hf 2 _ rfl
    have f3 := hf 3 _ rfl
    have f4 := hf 4 _ rfl
    simp only [List.getElem_toArray, List.getElem_cons_zero, List.getElem_cons_succ, c3, cCall, cJob, List.drop_zero, List.drop_succ_cons, List.take_succ_cons, List.take_zero] at f0 f1 f2 f3 f4
    obtain ⟨a0, h0, _⟩ := one_fits f0 (by rw [hx]; decide)
    obtain ⟨a1, h1, g1⟩ := one_fits f1 (by rw [hx]; decide)
    obtain ⟨c, h2, k1, k2, k3, k4, k5⟩ := call_cells (f2.trans (List.getElem?_eq_getElem (by rw [hx]; decide)))
    obtain ⟨j0, j1, j2, h3, l1, l2⟩ := job_cells (f3.trans (List.getElem?_eq_getElem (by rw [hx]; decide)))
    obtain ⟨a4, h4, g4⟩ := one_fits f4 (by rw [hx]; decide)
    obtain ⟨d0, d1, d2, d3, d4, d5, d6, d7⟩ := c
    simp only [Cl.arr, List.cons.injEq, and_true] at h0 h1 h2 h3 h4
    exact ⟨⟨a0, a1, ⟨d0, d1, d2, d3, d4, d5, d6, d7⟩, j0, j1, j2, a4⟩, by rw [h0, h1, h2.1, h2.2.1, h2.2.2.1, h2.2.2.2.1, h2.2.2.2.2.1, h2.2.2.2.2.2.1, h2.2.2.2.2.2.2.1, h2.2.2.2.2.2.2.2, h3.1, h3.2.1, h3.2.2, h4]; rfl, ⟨g1, g4, k1, k2, k3, k4, k5, l1, l2⟩⟩
set_option maxRecDepth 100000 in
theorem open_item {v : Value} {d : DataW H} {p : List MemPlace} (h : DataW.Trod enc Tryz.prog w base spare held 29 v d p) : ∃ a : Itm, v = .agg a.arr ∧ Wide a := by
  obtain ⟨fuel, hf⟩ := h
  obtain ⟨a, ha, hw⟩ := item_cells hf
  refine ⟨a, ?_, hw⟩
  have hl : v.cells.size = 14 := by rw [← Array.length_toList, ha]; rfl
  cases v with
  | agg cs =>
    have e : cs = a.arr := by apply Array.ext'; simpa [Value.cells] using ha
    rw [e]
  | _ => simp [Value.cells] at hl
end
end Go.Proofs.YtccoafacbbkooaaGreatDoor
