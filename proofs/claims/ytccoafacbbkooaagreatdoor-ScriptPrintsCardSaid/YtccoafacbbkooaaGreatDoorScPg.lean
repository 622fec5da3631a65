/- Script: how a slice of items that came in reads. -/
import Derived.Test.YtccoafacbbkooaaGreatDoorScPf
namespace Go.Proofs.YtccoafacbbkooaaGreatDoor
open Go.ChangeShapes Go.WideShapes Go.ChangeAt Go.RowKit Go.Deep

section
variable {H : Type} {enc : TypeId × Value → H} {w : World} {base : Nat} {spare : Nat → Bool} {held : Bool}
set_option maxRecDepth 100000 in
theorem open_items {r : Reach} {b0 : Nat} {v : Value} {d : DataW H} {p : List MemPlace} (hv : Value.okWide Tryz.prog w r b0 37 v) (h : DataW.Trod enc Tryz.prog w base spare held 37 v d p)
    (hsz : ∀ els sp, d = .slice els sp → (els.length + sp.length) * Tryz.prog.bytesOf 29 ≤ reachBytes) :
    ∃ A cap l, v = .slice A (List.length l) cap ∧ ItemsAt w A l ∧ (∀ x ∈ l, Wide x) ∧ (A = none → l = [] ∧ cap = 0) := by
  obtain ⟨A, len, cap, rfl⟩ := okWide_slice Tryz.underlying37 hv
  obtain ⟨fuel, hf⟩ := h
  rcases open_slice Tryz.underlying37 hf with ⟨hcs, _⟩ | ⟨a, len', cap', m, n, D, Pl, hcs, hb, hl, hm, hmm, hx, hi⟩
  · simp [Value.cells] at hcs
    obtain ⟨rfl, rfl, rfl⟩ := hcs
    exact ⟨none, 0, [], rfl, ⟨by simp, fun h => by simp at h⟩, (fun a h => by cases h), fun _ => ⟨rfl, rfl⟩⟩
  · simp [Value.cells] at hcs
    obtain ⟨rfl, rfl, rfl⟩ := hcs
    simp only [Prod.mk.injEq] at hx
    have hs := hsz _ _ hx.1
    have hlm : len ≤ m := by rw [hmm]; split <;> omega
    have hall : ∀ i, i < len → ∃ a' : Itm, Wide a' ∧ ∀ j v, a'.arr[j]? = some v → w.cell? (a.add (i * 14 + j)) = some v := by
      intro i hil
      obtain ⟨cs', hc, ht⟩ := hi i (by omega)
      obtain ⟨a', rfl, hft⟩ := item_cells ht
      rw [cItem] at hc
      obtain ⟨_, hcl, hat⟩ := World.cells?_some hc
      refine ⟨a', hft, fun j v hj => ?_⟩
      have hj' : j < 14 := (Array.getElem?_eq_some_iff.1 hj).1
      rw [← Go.Deep.add_add, hat j hj']
      simpa using hj
    have hinst : Inhabited Itm := ⟨i0⟩
    obtain ⟨f, hf'⟩ := choose_lt hall
    refine ⟨some a, cap, (List.range len).map f, by simp, ⟨?_, fun h0 => ?_⟩, ?_, fun h => by cases h⟩
    · simp only [List.length_map, List.length_range] at hs ⊢
      rw [bItem] at hs
      unfold reachBytes at hs
      omega
    · simp at h0
      have hc0 := (hf' 0 (by omega)).2 0 _ (show (Itm.arr _)[0]? = some (.int .i64 (Itm.kind _)) from rfl)
      obtain ⟨bl, off, spot⟩ := a
      have hspot : spot = none := by simpa [Addr.add] using World.cell?_spot hc0
      subst hspot
      refine ⟨bl, off, rfl, ?_, ?_⟩
      · have := World.block_lt_of_cell? w _ hc0
        simpa [Addr.add] using this
      · intro i a' hi' j v hj
        simp only [List.getElem?_map, Option.map_eq_some_iff] at hi'
        obtain ⟨i', hi', rfl⟩ := hi'
        have hil : i' = i ∧ i < len := by
          have := List.getElem?_eq_some_iff.1 hi'
          simp at this
          omega
        obtain ⟨rfl, hil⟩ := hil
        have := (hf' i' hil).2 j v hj
        rw [add_off] at this
        rw [Nat.add_assoc]
        exact this
    · intro a' ha'
      obtain ⟨i', hi', rfl⟩ := List.mem_map.1 ha'
      exact (hf' i' (List.mem_range.1 hi')).1
end
end Go.Proofs.YtccoafacbbkooaaGreatDoor
