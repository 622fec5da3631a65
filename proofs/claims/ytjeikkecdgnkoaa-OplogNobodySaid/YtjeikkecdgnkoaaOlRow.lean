/- Oplog: how acts that came in read; what the rows' proofs share. -/
import Derived.Test.YtjeikkecdgnkoaaOlK
import Derived.Test.YtjeikkecdgnkoaaChecked
import Derived.ProofKit
import Derived.OpenShut
import Derived.ShutString
import Derived.ChangeOld
import Derived.SizedLaws
import Derived.Deep.Slices
namespace Go.Proofs.Ytjeikkecdgnkoaa
open Go.ChangeShapes Go.WideShapes Go.ChangeAt Go.RowKit Go.Deep

theorem own : ownKnob Try.prog.godebug = none := by kernel_rfl
theorem laidOut : laidOutB Try.prog = true := by kernel_rfl

section
variable {H : Type} {enc : TypeId × Value → H} {w : World} {base : Nat} {spare : Nat → Bool} {held : Bool}
theorem one_int {n i : Nat} {cs : List Value} {xs : List (DataW H × List MemPlace)} (h : DataW.trod enc Try.prog w base spare held n 3 cs = xs[i]?) (hi : i < xs.length) : ∃ k, cs = [.int .i64 k] := by
  obtain ⟨k, h1, _⟩ := DataW.trod_int Try.underlying3 (h.trans (List.getElem?_eq_getElem hi))
  exact ⟨k, h1⟩
theorem one_bool {n i : Nat} {cs : List Value} {xs : List (DataW H × List MemPlace)} (h : DataW.trod enc Try.prog w base spare held n 4 cs = xs[i]?) (hi : i < xs.length) : ∃ k, cs = [.bool k] := by
  obtain ⟨k, h1, _⟩ := DataW.trod_bool Try.underlying4 (h.trans (List.getElem?_eq_getElem hi))
  exact ⟨k, h1⟩
theorem c3 : Try.prog.cellsOf 3 = 1 := by kernel_rfl
theorem c4 : Try.prog.cellsOf 4 = 1 := by kernel_rfl
theorem c31 : Try.prog.cellsOf 31 = 2 := by kernel_rfl
theorem c33 : Try.prog.cellsOf 33 = 8 := by kernel_rfl
theorem c35 : Try.prog.cellsOf 35 = 9 := by kernel_rfl
theorem c42 : Try.prog.cellsOf 42 = 11 := by kernel_rfl
theorem b42 : Try.prog.bytesOf 42 = 88 := by kernel_rfl
theorem pol_cells {n : Nat} {cs : List Value} {x : DataW H × List MemPlace} (h : DataW.trod enc Try.prog w base spare held n 31 cs = some x) : ∃ a b, cs = [.int .i64 a, .int .i64 b] := by
  obtain ⟨xs, m, rfl, -, hl, hx, hf⟩ := DataW.trod_struct Try.underlying31 h
  rw [c31] at hl
  match cs, hl with
  | [c0, c1], _ =>
    have f0 := hf 0 _ rfl
    have f1 := hf 1 _ rfl
    simp only [List.getElem_toArray, List.getElem_cons_zero, List.getElem_cons_succ, c3, List.drop_zero, List.drop_succ_cons, List.take_succ_cons, List.take_zero] at f0 f1
    obtain ⟨a, ha⟩ := one_int f0 (by rw [hx]; decide)
    obtain ⟨b, hb⟩ := one_int f1 (by rw [hx]; decide)
    simp only [List.cons.injEq, and_true] at ha hb
    exact ⟨a, b, by rw [ha, hb]⟩
theorem call_cells {n : Nat} {cs : List Value} {x : DataW H × List MemPlace} (h : DataW.trod enc Try.prog w base spare held n 33 cs = some x) :
    ∃ a0 a1 a2 a3 a4 a5 a6 a7, cs = [.int .i64 a0, .int .i64 a1, .int .i64 a2, .int .i64 a3, .int .i64 a4, .int .i64 a5, .int .i64 a6, .int .i64 a7] := by
  obtain ⟨xs, m, rfl, -, hl, hx, hf⟩ := DataW.trod_struct Try.underlying33 h
  rw [c33] at hl
  match cs, hl with
  | [c0, c1, c2, c3', c4', c5, c6, c7], _ =>
    have f0 := hf 0 _ rfl
    have f1 := hf 1 _ rfl
    have f2 := hf 2 _ rfl
    have f3 := hf 3 _ rfl
    have f4 := hf 4 _ rfl
    have f5 := hf 5 _ rfl
    have f6 := hf 6 _ rfl
    simp only [List.getElem_toArray, List.getElem_cons_zero, List.getElem_cons_succ, c3, c31, List.drop_zero, List.drop_succ_cons, List.take_succ_cons, List.take_zero] at f0 f1 f2 f3 f4 f5 f6
    obtain ⟨a0, h0⟩ := one_int f0 (by rw [hx]; decide)
    obtain ⟨a1, h1⟩ := one_int f1 (by rw [hx]; decide)
    obtain ⟨a2, h2⟩ := one_int f2 (by rw [hx]; decide)
    obtain ⟨a3, h3⟩ := one_int f3 (by rw [hx]; decide)
    obtain ⟨a4, a5, h4⟩ := pol_cells (f4.trans (List.getElem?_eq_getElem (by rw [hx]; decide)))
    obtain ⟨a6, h6⟩ := one_int f5 (by rw [hx]; decide)
    obtain ⟨a7, h7⟩ := one_int f6 (by rw [hx]; decide)
    simp only [List.cons.injEq, and_true] at h0 h1 h2 h3 h4 h6 h7
    exact ⟨a0, a1, a2, a3, a4, a5, a6, a7, by rw [h0, h1, h2, h3, h4.1, h4.2, h6, h7]⟩
theorem ent_cells {n : Nat} {cs : List Value} {x : DataW H × List MemPlace} (h : DataW.trod enc Try.prog w base spare held n 35 cs = some x) : ∃ e : Ent, cs = e.cells := by
  obtain ⟨xs, m, rfl, -, hl, hx, hf⟩ := DataW.trod_struct Try.underlying35 h
  rw [c35] at hl
  match cs, hl with
  | [c0, c1, c2, c3', c4', c5, c6, c7, c8], _ =>
    have f0 := hf 0 _ rfl
    have f1 := hf 1 _ rfl
    simp only [List.getElem_toArray, List.getElem_cons_zero, List.getElem_cons_succ, c3, c33, List.drop_zero, List.drop_succ_cons, List.take_succ_cons, List.take_zero] at f0 f1
    obtain ⟨a0, a1, a2, a3, a4, a5, a6, a7, h0⟩ := call_cells (f0.trans (List.getElem?_eq_getElem (by rw [hx]; decide)))
    obtain ⟨a8, h8⟩ := one_int f1 (by rw [hx]; decide)
    simp only [List.cons.injEq, and_true] at h0 h8
    obtain ⟨h0, h1, h2, h3, h4, h5, h6, h7⟩ := h0
    exact ⟨⟨a0, a1, a2, a3, a4, a5, a6, a7, a8⟩, by rw [h0, h1, h2, h3, h4, h5, h6, h7, h8]; rfl⟩
theorem act_cells {n : Nat} {cs : List Value} {x : DataW H × List MemPlace} (h : DataW.trod enc Try.prog w base spare held n 42 cs = some x) : ∃ a : OAct, cs = a.cells.toList := by
  obtain ⟨xs, m, rfl, -, hl, hx, hf⟩ := DataW.trod_struct Try.underlying42 h
  rw [c42] at hl
  match cs, hl with
  | c0 :: c1 :: rest, hl =>
    have hr : rest.length = 9 := by simpa using hl
    have f0 := hf 0 _ rfl
    have f1 := hf 1 _ rfl
    have f2 := hf 2 _ rfl
    simp only [List.getElem_toArray, List.getElem_cons_zero, List.getElem_cons_succ, c3, c4, c35, List.drop_zero, List.drop_succ_cons, List.take_succ_cons, List.take_zero] at f0 f1 f2
    rw [List.take_of_length_le (by omega)] at f2
    obtain ⟨a0, h0⟩ := one_bool f0 (by rw [hx]; decide)
    obtain ⟨a1, h1⟩ := one_int f1 (by rw [hx]; decide)
    obtain ⟨e, h2⟩ := ent_cells (f2.trans (List.getElem?_eq_getElem (by rw [hx]; decide)))
    simp only [List.cons.injEq, and_true] at h0 h1
    exact ⟨⟨a0, a1, e⟩, by rw [h0, h1, h2]; rfl⟩

theorem open_acts {r : Reach} {b0 : Nat} {v : Value} {d : DataW H} {p : List MemPlace} (hv : Value.okWide Try.prog w r b0 22 v) (h : DataW.Trod enc Try.prog w base spare held 22 v d p)
    (hsz : ∀ els sp, d = .slice els sp → (els.length + sp.length) * Try.prog.bytesOf 42 ≤ reachBytes) : ∃ A cap l, v = .slice A (List.length l) cap ∧ ActsAt w A l := by
  obtain ⟨A, len, cap, rfl⟩ := okWide_slice Try.underlying22 hv
  obtain ⟨fuel, hf⟩ := h
  rcases open_slice Try.underlying22 hf with ⟨hcs, _⟩ | ⟨a, len', cap', m, n, D, Pl, hcs, hb, hl, hm, hmm, hx, hi⟩
  · simp [Value.cells] at hcs
    obtain ⟨rfl, rfl, rfl⟩ := hcs
    exact ⟨none, 0, [], rfl, by simp, fun h => by simp at h⟩
  · simp [Value.cells] at hcs
    obtain ⟨rfl, rfl, rfl⟩ := hcs
    simp only [Prod.mk.injEq] at hx
    have hs := hsz _ _ hx.1
    have hlm : len ≤ m := by rw [hmm]; split <;> omega
    have hall : ∀ i, i < len → ∃ a' : OAct, ∀ j v, a'.cells[j]? = some v → w.cell? (a.add (i * 11 + j)) = some v := by
      intro i hil
      obtain ⟨cs', hc, ht⟩ := hi i (by omega)
      obtain ⟨a', rfl⟩ := act_cells ht
      rw [c42] at hc
      obtain ⟨_, hcl, hat⟩ := World.cells?_some hc
      refine ⟨a', fun j v hj => ?_⟩
      have hj' : j < 11 := (Array.getElem?_eq_some_iff.1 hj).1
      rw [← Go.Deep.add_add, hat j hj']
      simpa using hj
    have hinst : Inhabited OAct := ⟨⟨true, 0, ⟨0, 0, 0, 0, 0, 0, 0, 0, 0⟩⟩⟩
    obtain ⟨f, hf'⟩ := choose_lt hall
    refine ⟨some a, cap, (List.range len).map f, by simp, ?_, fun h0 => ?_⟩
    · simp only [List.length_map, List.length_range] at hs ⊢
      rw [b42] at hs
      unfold reachBytes at hs
      omega
    · simp at h0
      have hc0 := hf' 0 (by omega) 0 _ (OAct.c0 _)
      obtain ⟨bl, off, spot⟩ := a
      have hspot : spot = none := by simpa [Addr.add] using World.cell?_spot hc0
      subst hspot
      refine ⟨bl, off, rfl, ?_, ?_⟩
      · have := World.block_lt_of_cell? w _ hc0
        simpa [Addr.add] using this
      · intro i a' hi' j v hj
        simp only [List.getElem?_map, Option.map_eq_some_iff] at hi'
        obtain ⟨i', hi', rfl⟩ := hi'
        have hil : i' = i ∧ i < len := by
          have := List.getElem?_eq_some_iff.1 hi'
          simp at this
          omega
        obtain ⟨rfl, hil⟩ := hil
        have := hf' i' hil j v hj
        rw [add_off] at this
        rw [Nat.add_assoc]
        exact this
end
end Go.Proofs.Ytjeikkecdgnkoaa
