/- Loops over iterators at the wide fence, where a body may turn any block of a given set. For every seat. -/
import Derived.Test.YtaibhhppdmncfaaRfL
namespace Go.Proofs.Ytaibhhppdmncfaa
open Go.RowKit Go.Shelf

theorem only_putObj {S : Nat → Prop} {a W : World} (h : Only S a W) {D : Nat} (hD : S D ∨ a.heap.size ≤ D) (o : Obj) : Only S a (W.putObj D o) :=
  ⟨h.os, h.tape, h.output, by simpa using h.size, fun k hk hn => (World.putObj_heap_other (by
    rintro rfl
    rcases hD with hD | hD
    · exact hn hD
    · omega)).trans (h.block k hk hn)⟩
theorem own_kept {B : Nat} {W W' : World} {row : Option Nat} {base : Nat} {e : TypeId} {size n : Nat} {v : Value} {xs : List Value} (h : W.ownsRow base e size v n xs) (hg : W.grownBy W' row) (hr : ∀ r, row = some r → B ≤ r ∧ ∃ o : Obj, W.heap[r]? = some o ∧ o.isCells = false) : W'.ownsRow base e size v n xs := by
  refine ⟨h.1, ?_⟩
  rcases h.2 with hn | ⟨g, cap, cur, rfl, hbb, hgg, rest⟩
  · exact .inl hn
  · exact .inr ⟨g, cap, cur, rfl, hbb, blk_kept (t := e) (cs := cur) hgg hg hr, rest⟩
theorem keepsOthers_grown {W W' : World} {row : Option Nat} (hg : W.grownBy W' row) (hr : ∀ r, row = some r → ∃ t cs fz, W.heap[r]? = some (.cells cs t fz)) : KeepsOthers W W' :=
  ⟨hg.size, fun k o hk ho => by
    refine (hg.block k (Array.getElem?_eq_some_iff.1 hk).1 (fun e => ?_)).trans hk
    obtain ⟨t, cs, fz, h⟩ := hr k e.symm
    rw [h] at hk
    injection hk with hk
    subst hk
    cases ho⟩
theorem own_cells {w : World} {base : Nat} {e : TypeId} {size n : Nat} {v : Value} {xs : List Value} (h : w.ownsRow base e size v n xs) : ∀ r, v.ownBlock = some r → ∃ t cs fz, w.heap[r]? = some (.cells cs t fz) := by
  intro r hr
  rcases h.2 with ⟨rfl, _⟩ | ⟨g, cap, cur, rfl, _, hg, _⟩
  · simp [Value.ownBlock] at hr
  · have : g = r := by simpa [Value.ownBlock] using hr
    subst this
    exact ⟨_, _, _, hg⟩
theorem own_onlyk {S : Nat → Prop} {B : Nat} {w A A' : World} {row : Option Nat} (h : Only S w A) (hB : ∀ r, B ≤ r → S r ∨ w.heap.size ≤ r) (hg : A.grownBy A' row) (hr : ∀ r, row = some r → B ≤ r ∧ ∃ o : Obj, A.heap[r]? = some o ∧ o.isCells = false) : Only S w A' :=
  h.grown hg (fun r e => hB r (hr r e).1)

theorem rangeO {P : Program} {n : Nat} {α : Type} {g : Operand} {ps : Array Tmp} {assign body : Code} {Q : Exit → Act → World → Prop} {a : Act} {w : World} (h1 : 1 ≤ n)
    {gf : Nat} {lb : Array Value} (hg : a.eval g = .func (.func gf) #[] lb) (eg : ∀ args w, (callFunc gf args).run P w = .ok (.enter gf args) w)
    {encs : α → Array Value} {K : Nat → Prop} (hK : ∀ k, w.heap.size ≤ k → K k) {S Sp : List α → Prop} {N : Nat} (hseq : SeqStopsK Fence.wide (n - 1) P gf lb encs (Only K) S Sp N w) (hps : ∀ x, (encs x).size = ps.size)
    (I : List α → World → Prop) (Ix : Code → List α → World → Prop) (hI : OwnFrom w.heap.size I) (hIx : ∀ c, OwnFrom w.heap.size (Ix c)) (h0 : I [] w)
    (Ax : Array Value → α → Act → World → Prop) (hAx : ∀ T x a', OwnFrom w.heap.size (fun (_ : Unit) W => Ax T x a' W))
    (hassign : ∀ (l : Nat) (pre : List α) (x : α) (W : World) (KK : Act → World → Prop), w.heap.size ≤ W.heap.size → I pre W → (∀ a' W', KeepsFrom w.heap.size W W' → Only K W W' → I pre W' → Ax a.tmps x a' W' → KK a' W') →
      assign.wpIn (Fence.wide.inRound l) (n - 1 - 1) P (Exit.then KK (fun _ _ _ => False)) { tmps := (ps.zip (encs x)).foldl (fun t (p, v) => t.setIfInBounds p v) a.tmps, defers := [] } W)
    (hbody : ∀ (l : Nat) (pre : List α) (x : α) (a' : Act) (W : World), w.heap.size ≤ W.heap.size → I pre W → Ax a.tmps x a' W → pre.length < N → body.wpIn (Fence.wide.inRound l) (n - 1 - 1) P (ownPostG w.heap.size (Only K) I Ix (pre ++ [x]) W) a' W)
    (hdone : ∀ (D : Nat) (xs : List α) (W : World), w.heap.size ≤ D → w.heap.size ≤ W.heap.size → S xs → I xs W → W.heap[D]? = some (.deferred (some [])) → Q .normal { a with defers := { target := .collected D, args := #[] } :: a.defers } W)
    (hstop : ∀ (D : Nat) (c : Code) (pre : List α) (W : World), w.heap.size ≤ D → w.heap.size ≤ W.heap.size → Sp pre → Ix c pre W → W.heap[D]? = some (.deferred (some [])) → c.wpIn Fence.wide n P Q { a with defers := { target := .collected D, args := #[] } :: a.defers } W) :
    (Code.rangeFunc g ps assign body).wpIn Fence.wide n P Q a w := by
  refine wpIn_rangeFunc_ownH rfl h1 hg trivial eg hseq (fun h k => h.trans k) (fun W l o o' hl _ _ _ => only_putObj (Only.refl _ W) (.inl (hK l hl)) o') (Below.refl _ _) hps (fun pre W => w.heap.size ≤ W.heap.size ∧ I pre W) (fun c pre W => w.heap.size ≤ W.heap.size ∧ Ix c pre W)
    (fun s A B row hs hg hr => ⟨Nat.le_trans hs.1 hg.size, hI s A B row hs.2 hg hr⟩) (fun c s A B row hs hg hr => ⟨Nat.le_trans hs.1 hg.size, hIx c s A B row hs.2 hg hr⟩) ⟨Nat.le_refl _, h0⟩ (Ax a.tmps) (hAx a.tmps) ?_ ?_ ?_ ?_
  · exact fun l pre x W KK hi hk => hassign l pre x W KK hi.1 hi.2 (fun a' W' hf hb hi' hx => hk a' W' hf hb ⟨Nat.le_trans hi.1 hf.size, hi'⟩ hx)
  · intro l pre x a' W _ _ hi hx hlt
    refine Code.wpIn_mono ?_ (hbody l pre x a' W hi.1 hi.2 hx hlt)
    intro e a2 W' h
    cases e with
    | normal => exact ⟨h.1, h.2.1, Nat.le_trans hi.1 h.1.size, h.2.2⟩
    | ret => exact ⟨h.1, Nat.le_trans hi.1 h.1.size, h.2⟩
    | exit id => exact ⟨h.1, Nat.le_trans hi.1 h.1.size, h.2⟩
    | goto t => exact ⟨h.1, Nat.le_trans hi.1 h.1.size, h.2⟩
    | panic c => exact h
    | outgrown => exact h
  · exact fun D xs W hD hs hi hk => hdone D xs W hD hi.1 hs hi.2 hk
  · exact fun D c pre W hD hs hi hk => hstop D c pre W hD hi.1 hs hi.2 hk
end Go.Proofs.Ytaibhhppdmncfaa
