/- Combine: how acts that came in read; what the rows' proofs share. -/
import Derived.Test.YtaibhhppdmncfaaCbR
import Derived.Test.YtaibhhppdmncfaaChecked
import Derived.ProofKit
import Derived.OpenShut
import Derived.ShutString
import Derived.ChangeOld
import Derived.SizedLaws
import Derived.Deep.Slices
namespace Go.Proofs.Ytaibhhppdmncfaa
open Go.ChangeShapes Go.WideShapes Go.ChangeAt Go.RowKit Go.Deep

theorem own : ownKnob Try.prog.godebug = none := by kernel_rfl
theorem laidOut : laidOutB Try.prog = true := by kernel_rfl

section
variable {H : Type} {enc : TypeId × Value → H} {w : World} {base : Nat} {spare : Nat → Bool} {held : Bool}
theorem one_int {n i : Nat} {cs : List Value} {xs : List (DataW H × List MemPlace)} (h : DataW.trod enc Try.prog w base spare held n 3 cs = xs[i]?) (hi : i < xs.length) : ∃ k, cs = [.int .i64 k] := by
  obtain ⟨k, h1, _⟩ := DataW.trod_int Try.underlying3 (h.trans (List.getElem?_eq_getElem hi))
  exact ⟨k, h1⟩
theorem c3 : Try.prog.cellsOf 3 = 1 := by kernel_rfl
theorem c31 : Try.prog.cellsOf 31 = 2 := by kernel_rfl
theorem c33 : Try.prog.cellsOf 33 = 8 := by kernel_rfl
theorem c35 : Try.prog.cellsOf 35 = 11 := by kernel_rfl
theorem c23 : Try.prog.cellsOf 23 = 3 := by kernel_rfl
theorem b35 : Try.prog.bytesOf 35 = 88 := by kernel_rfl
theorem one_fits {n i : Nat} {cs : List Value} {xs : List (DataW H × List MemPlace)} (h : DataW.trod enc Try.prog w base spare held n 3 cs = xs[i]?) (hi : i < xs.length) : ∃ k, cs = [.int .i64 k] ∧ -9223372036854775808 ≤ k ∧ k ≤ 9223372036854775807 := by
  obtain ⟨k, h1, _, h2⟩ := DataW.trod_int Try.underlying3 (h.trans (List.getElem?_eq_getElem hi))
  exact ⟨k, h1, bounds_i64 h2⟩
theorem pol_cells {n : Nat} {cs : List Value} {x : DataW H × List MemPlace} (h : DataW.trod enc Try.prog w base spare held n 31 cs = some x) : ∃ a b : Int, cs = [.int .i64 a, .int .i64 b] := by
  obtain ⟨xs, m, rfl, -, hl, hx, hf⟩ := DataW.trod_struct Try.underlying31 h
  rw [c31] at hl
  match cs, hl with
  | [y0, y1], _ =>
    have f0 := hf 0 _ rfl
    have f1 := hf 1 _ rfl
    simp only [List.getElem_toArray, List.getElem_cons_zero, List.getElem_cons_succ, c3, List.drop_zero, List.drop_succ_cons, List.take_succ_cons, List.take_zero] at f0 f1
    obtain ⟨a0, h0⟩ := one_int f0 (by rw [hx]; decide)
    obtain ⟨a1, h1⟩ := one_int f1 (by rw [hx]; decide)
    simp only [List.cons.injEq, and_true] at h0 h1
    exact ⟨a0, a1, by rw [h0, h1]⟩
theorem call_cells {n : Nat} {cs : List Value} {x : DataW H × List MemPlace} (h : DataW.trod enc Try.prog w base spare held n 33 cs = some x) : ∃ a : Cl, cs = a.cells := by
  obtain ⟨xs, m, rfl, -, hl, hx, hf⟩ := DataW.trod_struct Try.underlying33 h
  rw [c33] at hl
  match cs, hl with
  | [y0, y1, y2, y3, y4, y5, y6, y7], _ =>
    have f0 := hf 0 _ rfl
    have f1 := hf 1 _ rfl
    have f2 := hf 2 _ rfl
    have f3 := hf 3 _ rfl
    have f4 := hf 4 _ rfl
    have f5 := hf 5 _ rfl
    have f6 := hf 6 _ rfl
    simp only [List.getElem_toArray, List.getElem_cons_zero, List.getElem_cons_succ, c3, c31, List.drop_zero, List.drop_succ_cons, List.take_succ_cons, List.take_zero] at f0 f1 f2 f3 f4 f5 f6
    obtain ⟨a0, h0⟩ := one_int f0 (by rw [hx]; decide)
    obtain ⟨a1, h1⟩ := one_int f1 (by rw [hx]; decide)
    obtain ⟨a2, h2⟩ := one_int f2 (by rw [hx]; decide)
    obtain ⟨a3, h3⟩ := one_int f3 (by rw [hx]; decide)
    obtain ⟨a5, h5⟩ := one_int f5 (by rw [hx]; decide)
    obtain ⟨a6, h6⟩ := one_int f6 (by rw [hx]; decide)
    obtain ⟨b0, b1, h4⟩ := pol_cells (f4.trans (List.getElem?_eq_getElem (by rw [hx]; decide)))
    simp only [List.cons.injEq, and_true] at h0 h1 h2 h3 h4 h5 h6
    exact ⟨⟨a0, a1, a2, a3, b0, b1, a5, a6⟩, by rw [h0, h1, h2, h3, h4.1, h4.2, h5, h6]; rfl⟩
theorem act_cells {n : Nat} {cs : List Value} {x : DataW H × List MemPlace} (h : DataW.trod enc Try.prog w base spare held n 35 cs = some x) : ∃ a : CAct, cs = a.cells.toList ∧ a.fits := by
  obtain ⟨xs, m, rfl, -, hl, hx, hf⟩ := DataW.trod_struct Try.underlying35 h
  rw [c35] at hl
  match cs, hl with
  | [y0, y1, y2, y3, y4, y5, y6, y7, y8, y9, y10], _ =>
    have f0 := hf 0 _ rfl
    have f1 := hf 1 _ rfl
    have f2 := hf 2 _ rfl
    have f3 := hf 3 _ rfl
    simp only [List.getElem_toArray, List.getElem_cons_zero, List.getElem_cons_succ, c3, c33, List.drop_zero, List.drop_succ_cons, List.take_succ_cons, List.take_zero] at f0 f1 f2 f3
    obtain ⟨a0, h0⟩ := one_int f0 (by rw [hx]; decide)
    obtain ⟨a1, h1, hft⟩ := one_fits f1 (by rw [hx]; decide)
    obtain ⟨a2, h2⟩ := call_cells (f2.trans (List.getElem?_eq_getElem (by rw [hx]; decide)))
    obtain ⟨a3, h3⟩ := one_int f3 (by rw [hx]; decide)
    simp only [Cl.cells, List.cons.injEq, and_true] at h0 h1 h2 h3
    exact ⟨⟨a0, a1, a2, a3⟩, by rw [h0, h1, h2.1, h2.2.1, h2.2.2.1, h2.2.2.2.1, h2.2.2.2.2.1, h2.2.2.2.2.2.1, h2.2.2.2.2.2.2.1, h2.2.2.2.2.2.2.2, h3]; rfl, hft⟩
theorem open_act {v : Value} {d : DataW H} {p : List MemPlace} (h : DataW.Trod enc Try.prog w base spare held 35 v d p) : ∃ a : CAct, v = a.val := by
  obtain ⟨fuel, hf⟩ := h
  obtain ⟨a, ha, _⟩ := act_cells hf
  refine ⟨a, ?_⟩
  have hl : v.cells.size = 11 := by rw [← Array.length_toList, ha]; rfl
  cases v with
  | agg cs =>
    have e : cs = a.cells := by apply Array.ext'; simpa [Value.cells] using ha
    rw [e]
  | _ => simp [Value.cells] at hl
theorem giv_cells {n : Nat} {cs : List Value} {x : DataW H × List MemPlace} (h : DataW.trod enc Try.prog w base spare held n 23 cs = some x) : ∃ a : Giv, cs = a.cells.toList := by
  obtain ⟨xs, m, rfl, -, hl, hx, hf⟩ := DataW.trod_struct Try.underlying23 h
  rw [c23] at hl
  match cs, hl with
  | [y0, y1, y2], _ =>
    have f0 := hf 0 _ rfl
    have f1 := hf 1 _ rfl
    have f2 := hf 2 _ rfl
    simp only [List.getElem_toArray, List.getElem_cons_zero, List.getElem_cons_succ, c3, List.drop_zero, List.drop_succ_cons, List.take_succ_cons, List.take_zero] at f0 f1 f2
    obtain ⟨a0, h0⟩ := one_int f0 (by rw [hx]; decide)
    obtain ⟨a1, h1⟩ := one_int f1 (by rw [hx]; decide)
    obtain ⟨a2, h2⟩ := one_int f2 (by rw [hx]; decide)
    simp only [List.cons.injEq, and_true] at h0 h1 h2
    exact ⟨⟨a0, a1, a2⟩, by rw [h0, h1, h2]; rfl⟩
theorem open_giv {v : Value} {d : DataW H} {p : List MemPlace} (h : DataW.Trod enc Try.prog w base spare held 23 v d p) : ∃ a : Giv, v = a.val := by
  obtain ⟨fuel, hf⟩ := h
  obtain ⟨a, ha⟩ := giv_cells hf
  refine ⟨a, ?_⟩
  have hl : v.cells.size = 3 := by rw [← Array.length_toList, ha]; rfl
  cases v with
  | agg cs =>
    have e : cs = a.cells := by apply Array.ext'; simpa [Value.cells] using ha
    rw [e]
  | _ => simp [Value.cells] at hl
theorem open_acts {r : Reach} {b0 : Nat} {v : Value} {d : DataW H} {p : List MemPlace} (hv : Value.okWide Try.prog w r b0 24 v) (h : DataW.Trod enc Try.prog w base spare held 24 v d p)
    (hsz : ∀ els sp, d = .slice els sp → (els.length + sp.length) * Try.prog.bytesOf 35 ≤ reachBytes) : ∃ A cap l, v = .slice A (List.length l) cap ∧ ActsAt w A l := by
  obtain ⟨A, len, cap, rfl⟩ := okWide_slice Try.underlying24 hv
  obtain ⟨fuel, hf⟩ := h
  rcases open_slice Try.underlying24 hf with ⟨hcs, _⟩ | ⟨a, len', cap', m, n, D, Pl, hcs, hb, hl, hm, hmm, hx, hi⟩
  · simp [Value.cells] at hcs
    obtain ⟨rfl, rfl, rfl⟩ := hcs
    exact ⟨none, 0, [], rfl, acts_nil _ _⟩
  · simp [Value.cells] at hcs
    obtain ⟨rfl, rfl, rfl⟩ := hcs
    simp only [Prod.mk.injEq] at hx
    have hs := hsz _ _ hx.1
    have hlm : len ≤ m := by rw [hmm]; split <;> omega
    have hall : ∀ i, i < len → ∃ a' : CAct, a'.fits ∧ ∀ j v, a'.cells[j]? = some v → w.cell? (a.add (i * 11 + j)) = some v := by
      intro i hil
      obtain ⟨cs', hc, ht⟩ := hi i (by omega)
      obtain ⟨a', rfl, hft⟩ := act_cells ht
      rw [c35] at hc
      obtain ⟨_, hcl, hat⟩ := World.cells?_some hc
      refine ⟨a', hft, fun j v hj => ?_⟩
      have hj' : j < 11 := (Array.getElem?_eq_some_iff.1 hj).1
      rw [← Go.Deep.add_add, hat j hj']
      simpa using hj
    have hinst : Inhabited CAct := ⟨⟨0, 0, default, 0⟩⟩
    obtain ⟨f, hf'⟩ := choose_lt hall
    refine ⟨some a, cap, (List.range len).map f, by simp, ?_, ?_, fun h0 => ?_⟩
    · simp only [List.length_map, List.length_range] at hs ⊢
      rw [b35] at hs
      unfold reachBytes at hs
      omega
    · intro a' ha'
      obtain ⟨i', hi', rfl⟩ := List.mem_map.1 ha'
      exact (hf' i' (List.mem_range.1 hi')).1
    · simp at h0
      have hc0 := (hf' 0 (by omega)).2 0 _ (show (CAct.cells _)[0]? = some (.int .i64 (CAct.do_ _)) from rfl)
      obtain ⟨bl, off, spot⟩ := a
      have hspot : spot = none := by simpa [Addr.add] using World.cell?_spot hc0
      subst hspot
      refine ⟨bl, off, rfl, ?_, ?_⟩
      · have := World.block_lt_of_cell? w _ hc0
        simpa [Addr.add] using this
      · intro i a' hi' j v hj
        simp only [List.getElem?_map, Option.map_eq_some_iff] at hi'
        obtain ⟨i', hi', rfl⟩ := hi'
        have hil : i' = i ∧ i < len := by
          have := List.getElem?_eq_some_iff.1 hi'
          simp at this
          omega
        obtain ⟨rfl, hil⟩ := hil
        have := (hf' i' hil).2 j v hj
        rw [add_off] at this
        rw [Nat.add_assoc]
        exact this
end
end Go.Proofs.Ytaibhhppdmncfaa
