/- Tlb: how acts that came in read; what the rows' proofs share. -/
import Derived.Test.YtgmmnekepelomaaTlR
import Derived.Test.YtgmmnekepelomaaChecked
import Derived.ProofKit
import Derived.OpenShut
import Derived.ShutString
import Derived.ChangeOld
import Derived.SizedLaws
import Derived.Deep.Slices
namespace Go.Proofs.Ytgmmnekepelomaa
open Go.ChangeShapes Go.WideShapes Go.ChangeAt Go.RowKit Go.Deep

theorem own : ownKnob Try.prog.godebug = none := by kernel_rfl
theorem laidOut : laidOutB Try.prog = true := by kernel_rfl

section
variable {H : Type} {enc : TypeId × Value → H} {w : World} {base : Nat} {spare : Nat → Bool} {held : Bool}
theorem one_int {n i : Nat} {cs : List Value} {xs : List (DataW H × List MemPlace)} (h : DataW.trod enc Try.prog w base spare held n 3 cs = xs[i]?) (hi : i < xs.length) : ∃ k, cs = [.int .i64 k] := by
  obtain ⟨k, h1, _⟩ := DataW.trod_int Try.underlying3 (h.trans (List.getElem?_eq_getElem hi))
  exact ⟨k, h1⟩
theorem one_bool {n i : Nat} {cs : List Value} {xs : List (DataW H × List MemPlace)} (h : DataW.trod enc Try.prog w base spare held n 4 cs = xs[i]?) (hi : i < xs.length) : ∃ k, cs = [.bool k] := by
  obtain ⟨k, h1, _⟩ := DataW.trod_bool Try.underlying4 (h.trans (List.getElem?_eq_getElem hi))
  exact ⟨k, h1⟩
theorem c3 : Try.prog.cellsOf 3 = 1 := by kernel_rfl
theorem c4 : Try.prog.cellsOf 4 = 1 := by kernel_rfl
theorem c30 : Try.prog.cellsOf 30 = 4 := by kernel_rfl
theorem c32 : Try.prog.cellsOf 32 = 7 := by kernel_rfl
theorem b32 : Try.prog.bytesOf 32 = 56 := by kernel_rfl
theorem tr_cells {n : Nat} {cs : List Value} {x : DataW H × List MemPlace} (h : DataW.trod enc Try.prog w base spare held n 30 cs = some x) : ∃ a : Tr, cs = a.cells := by
  obtain ⟨xs, m, rfl, -, hl, hx, hf⟩ := DataW.trod_struct Try.underlying30 h
  rw [c30] at hl
  match cs, hl with
  | [y0, y1, y2, y3], _ =>
    have f0 := hf 0 _ rfl
    have f1 := hf 1 _ rfl
    have f2 := hf 2 _ rfl
    have f3 := hf 3 _ rfl
    simp only [List.getElem_toArray, List.getElem_cons_zero, List.getElem_cons_succ, c3, c4, List.drop_zero, List.drop_succ_cons, List.take_succ_cons, List.take_zero] at f0 f1 f2 f3
    obtain ⟨a0, h0⟩ := one_int f0 (by rw [hx]; decide)
    obtain ⟨a1, h1⟩ := one_int f1 (by rw [hx]; decide)
    obtain ⟨a2, h2⟩ := one_int f2 (by rw [hx]; decide)
    obtain ⟨a3, h3⟩ := one_bool f3 (by rw [hx]; decide)
    simp only [List.cons.injEq, and_true] at h0 h1 h2 h3
    exact ⟨⟨a0, a1, a2, a3⟩, by rw [h0, h1, h2, h3]; rfl⟩
theorem open_tr {v : Value} {d : DataW H} {p : List MemPlace} (h : DataW.Trod enc Try.prog w base spare held 30 v d p) : ∃ a : Tr, v = a.val := by
  obtain ⟨fuel, hf⟩ := h
  obtain ⟨a, ha⟩ := tr_cells hf
  refine ⟨a, ?_⟩
  have hl : v.cells.size = 4 := by rw [← Array.length_toList, ha]; rfl
  cases v with
  | agg cs =>
    have e : cs = a.cells.toArray := by apply Array.ext'; simpa [Value.cells] using ha
    rw [e]
  | _ => simp [Value.cells] at hl
theorem act_cells {n : Nat} {cs : List Value} {x : DataW H × List MemPlace} (h : DataW.trod enc Try.prog w base spare held n 32 cs = some x) : ∃ a : TAct, cs = a.cells.toList := by
  obtain ⟨xs, m, rfl, -, hl, hx, hf⟩ := DataW.trod_struct Try.underlying32 h
  rw [c32] at hl
  match cs, hl with
  | [y0, y1, y2, y3, y4, y5, y6], _ =>
    have f0 := hf 0 _ rfl
    have f1 := hf 1 _ rfl
    have f2 := hf 2 _ rfl
    have f3 := hf 3 _ rfl
    simp only [List.getElem_toArray, List.getElem_cons_zero, List.getElem_cons_succ, c3, c30, List.drop_zero, List.drop_succ_cons, List.take_succ_cons, List.take_zero] at f0 f1 f2 f3
    obtain ⟨a0, h0⟩ := one_int f0 (by rw [hx]; decide)
    obtain ⟨a1, h1⟩ := tr_cells (f1.trans (List.getElem?_eq_getElem (by rw [hx]; decide)))
    obtain ⟨a2, h2⟩ := one_int f2 (by rw [hx]; decide)
    obtain ⟨a3, h3⟩ := one_int f3 (by rw [hx]; decide)
    simp only [Tr.cells, List.cons.injEq, and_true] at h0 h1 h2 h3
    exact ⟨⟨a0, a1, a2, a3⟩, by rw [h0, h1.1, h1.2.1, h1.2.2.1, h1.2.2.2, h2, h3]; rfl⟩
theorem open_acts {r : Reach} {b0 : Nat} {v : Value} {d : DataW H} {p : List MemPlace} (hv : Value.okWide Try.prog w r b0 22 v) (h : DataW.Trod enc Try.prog w base spare held 22 v d p)
    (hsz : ∀ els sp, d = .slice els sp → (els.length + sp.length) * Try.prog.bytesOf 32 ≤ reachBytes) : ∃ A cap l, v = .slice A (List.length l) cap ∧ ActsAt w A l := by
  obtain ⟨A, len, cap, rfl⟩ := okWide_slice Try.underlying22 hv
  obtain ⟨fuel, hf⟩ := h
  rcases open_slice Try.underlying22 hf with ⟨hcs, _⟩ | ⟨a, len', cap', m, n, D, Pl, hcs, hb, hl, hm, hmm, hx, hi⟩
  · simp [Value.cells] at hcs
    obtain ⟨rfl, rfl, rfl⟩ := hcs
    exact ⟨none, 0, [], rfl, by simp, fun h => by simp at h⟩
  · simp [Value.cells] at hcs
    obtain ⟨rfl, rfl, rfl⟩ := hcs
    simp only [Prod.mk.injEq] at hx
    have hs := hsz _ _ hx.1
    have hlm : len ≤ m := by rw [hmm]; split <;> omega
    have hall : ∀ i, i < len → ∃ a' : TAct, ∀ j v, a'.cells[j]? = some v → w.cell? (a.add (i * 7 + j)) = some v := by
      intro i hil
      obtain ⟨cs', hc, ht⟩ := hi i (by omega)
      obtain ⟨a', rfl⟩ := act_cells ht
      rw [c32] at hc
      obtain ⟨_, hcl, hat⟩ := World.cells?_some hc
      refine ⟨a', fun j v hj => ?_⟩
      have hj' : j < 7 := (Array.getElem?_eq_some_iff.1 hj).1
      rw [← Go.Deep.add_add, hat j hj']
      simpa using hj
    have hinst : Inhabited TAct := ⟨⟨0, default, 0, 0⟩⟩
    obtain ⟨f, hf'⟩ := choose_lt hall
    refine ⟨some a, cap, (List.range len).map f, by simp, ?_, fun h0 => ?_⟩
    · simp only [List.length_map, List.length_range] at hs ⊢
      rw [b32] at hs
      unfold reachBytes at hs
      omega
    · simp at h0
      have hc0 := hf' 0 (by omega) 0 _ (show (TAct.cells _)[0]? = some (.int .i64 (TAct.do_ _)) from rfl)
      obtain ⟨bl, off, spot⟩ := a
      have hspot : spot = none := by simpa [Addr.add] using World.cell?_spot hc0
      subst hspot
      refine ⟨bl, off, rfl, ?_, ?_⟩
      · have := World.block_lt_of_cell? w _ hc0
        simpa [Addr.add] using this
      · intro i a' hi' j v hj
        simp only [List.getElem?_map, Option.map_eq_some_iff] at hi'
        obtain ⟨i', hi', rfl⟩ := hi'
        have hil : i' = i ∧ i < len := by
          have := List.getElem?_eq_some_iff.1 hi'
          simp at this
          omega
        obtain ⟨rfl, hil⟩ := hil
        have := hf' i' hil j v hj
        rw [add_off] at this
        rw [Nat.add_assoc]
        exact this
end
end Go.Proofs.Ytgmmnekepelomaa
