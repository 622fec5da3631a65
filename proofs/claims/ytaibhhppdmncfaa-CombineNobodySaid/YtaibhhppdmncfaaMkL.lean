/- Loops over iterators within a loop: the marks that they leave in the frame. For every seat. -/
import Derived.Test.YtaibhhppdmncfaaRfL
import Derived.Sort.LoopGhostIn
namespace Go.Proofs.Ytaibhhppdmncfaa
open Go.RowKit Go.Shelf

def marks (Ds : List Nat) : List Deferred := Ds.map fun D => { target := .collected D, args := #[] }
/-- Those marks stand in memory, each in a block of its own from B on. -/
structure Marked (W : World) (B : Nat) (Ds : List Nat) : Prop where
  nd : Ds.Nodup
  at_ : ∀ D ∈ Ds, B ≤ D ∧ W.heap[D]? = some (.deferred (some []))
theorem Marked.nil (W : World) (B : Nat) : Marked W B [] := ⟨List.nodup_nil, fun _ h => by cases h⟩
theorem Marked.lt {W : World} {B : Nat} {Ds : List Nat} (h : Marked W B Ds) {D : Nat} (hD : D ∈ Ds) : D < W.heap.size := (Array.getElem?_eq_some_iff.1 (h.at_ D hD).2).1
theorem Marked.keep {W W' : World} {B : Nat} {Ds : List Nat} (h : Marked W B Ds) (hk : ∀ D ∈ Ds, W'.heap[D]? = W.heap[D]?) : Marked W' B Ds := ⟨h.nd, fun D hD => ⟨(h.at_ D hD).1, (hk D hD).trans (h.at_ D hD).2⟩⟩
theorem Marked.below {W W' : World} {B : Nat} {Ds : List Nat} (h : Marked W B Ds) (hb : Below W.heap.size W W') : Marked W' B Ds := h.keep fun D hD => hb.block D (h.lt hD)
/-- A store into a cell hits none. -/
theorem Marked.keeps {W W' : World} {B : Nat} {Ds : List Nat} (h : Marked W B Ds) (hb : KeepsOthers W W') : Marked W' B Ds := ⟨h.nd, fun D hD => ⟨(h.at_ D hD).1, hb.same D _ (h.at_ D hD).2 rfl⟩⟩
theorem Marked.grown {W W' : World} {B C : Nat} {Ds : List Nat} {row : Option Nat} (h : Marked W B Ds) (hC : ∀ D ∈ Ds, D < C) (hg : W.grownBy W' row) (hr : ∀ r, row = some r → C ≤ r ∧ ∃ o : Obj, W.heap[r]? = some o ∧ o.isCells = false) : Marked W' B Ds :=
  h.keep fun D hD => hg.block D (h.lt hD) (fun e => by have := (hr D e.symm).1; have := hC D hD; omega)
theorem Marked.cons {W : World} {B D : Nat} {Ds : List Nat} (h : Marked W B Ds) (hB : B ≤ D) (hD : W.heap[D]? = some (.deferred (some []))) (hn : ∀ E ∈ Ds, E < D) : Marked W B (D :: Ds) :=
  ⟨List.nodup_cons.2 ⟨fun h1 => Nat.lt_irrefl _ (hn D h1), h.nd⟩, fun E hE => by
    rcases List.mem_cons.1 hE with rfl | hE
    · exact ⟨hB, hD⟩
    · exact h.at_ E hE⟩

section
variable {P : Program} {F : Fence} {n : Nat} {fn : Func} {tmps : Array Value} {R : Ending → World → Prop}
theorem leaves_marks (u : FrameMode) (hu : u ≠ .run) (B : Nat) : ∀ (Ds : List Nat) (w : World), Marked w B Ds → (∀ w', Only (· ∈ Ds) w w' → LeavesInM F n P fn tmps R [] u w') → LeavesInM F n P fn tmps R (marks Ds) u w
  | [], w, _, h => h w (Only.refl _ w)
  | D :: Ds, w, hm, h => by
    refine ⟨hu, .inl ⟨D, _, rfl, run_takeDeferred (hm.at_ D List.mem_cons_self).2, ?_⟩⟩
    have hnd := List.nodup_cons.1 hm.nd
    have hblk : ∀ k, k ≠ D → (w.putObj D (.deferred none)).heap[k]? = w.heap[k]? := fun k hk => by simp [World.putObj, Ne.symm hk]
    have hsz : (w.putObj D (.deferred none)).heap.size = w.heap.size := by simp [World.putObj]
    have hO : Only (· = D) w (w.putObj D (.deferred none)) := ⟨rfl, rfl, rfl, Nat.le_of_eq hsz.symm, fun k _ hk => hblk k hk⟩
    refine leaves_marks u hu B Ds _ ⟨hnd.2, fun E hE => ⟨(hm.at_ E (List.mem_cons_of_mem _ hE)).1, ?_⟩⟩ (fun w' hw => h w' ((hO.mono (fun k hk => by subst hk; exact List.mem_cons_self)).trans (hw.mono (fun k hk => List.mem_cons_of_mem _ hk))))
    rw [hblk E (fun e => hnd.1 (e ▸ hE))]
    exact (hm.at_ E (List.mem_cons_of_mem _ hE)).2
theorem Blk.past {w w' : World} {B : Nat} {Ds : List Nat} {g : Nat} {t : TypeId} {cs : Array Value} (h : Blk w g t cs) (hm : Marked w B Ds) (ho : Only (· ∈ Ds) w w') : Blk w' g t cs :=
  h.only ho fun hg => by
    have := (hm.at_ g hg).2
    unfold Blk at h
    rw [h] at this
    cases this
theorem below_past {w0 w w' : World} {B : Nat} {Ds : List Nat} (h : Below B w0 w) (hm : Marked w B Ds) (ho : Only (· ∈ Ds) w w') (hB : B ≤ w.heap.size) : Below B w0 w' :=
  h.trans (ho.below hB fun k hk => (hm.at_ k hk).1)
end
end Go.Proofs.Ytaibhhppdmncfaa
