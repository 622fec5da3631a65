/- A region that draws its order and whose last operation waits for all others: the others draw, the last one stands behind them. For every seat. -/
import Derived.Test.YtfekllnalacggaaL0
import Derived.Deep.RegionHeld3
namespace Go.Proofs.Ytfekllnalacggaa
open Go.RowKit

section
variable {P : Program} {l : List Oper} {o : Oper} {Q : Exit → Act → World → Prop}

def snocQ (P : Program) (o : Oper) (Q : Exit → Act → World → Prop) : Exit → Act → World → Prop
  | .normal, a, w => o.wp P a w (fun a w => Q .normal a w) Q
  | e, a, w => Q e a w
/-- What is asked of the operations, by counting. -/
def snocB (l : List Oper) (o : Oper) : Bool :=
  o.guard.isNone && (o.after.all fun e => !Region.binds .any e || decide (e.on < l.length)) &&
  ((List.range l.length).all fun i => o.after.any fun e => Region.binds .any e && e.on == i) &&
  ((List.range l.length).all fun i => match l.toArray[i]? with
    | some x => (x.after.all fun e => !Region.binds .any e || decide (e.on < i)) && (match x.guard with | none => true | some (j, _) => decide (j < l.length))
    | none => false)

structure SnocOk (l : List Oper) (o : Oper) : Prop where
  g : o.guard = none
  low : ∀ e ∈ o.after, Region.binds .any e = true → e.on < l.length
  all : ∀ i, i < l.length → ∃ e ∈ o.after, Region.binds .any e = true ∧ e.on = i
  each : ∀ i x, l.toArray[i]? = some x → (∀ e ∈ x.after, Region.binds .any e = true → e.on < i) ∧ ∀ j b, x.guard = some (j, b) → j < l.length
theorem snoc_ok (h : snocB l o = true) : SnocOk l o := by
  unfold snocB at h
  simp only [Bool.and_eq_true] at h
  obtain ⟨⟨⟨h1, h2⟩, h3⟩, h4⟩ := h
  refine ⟨by simpa using h1, fun e he hb => ?_, fun i hi => ?_, fun i x hx => ?_⟩
  · have := (Array.all_eq_true_iff_forall_mem.1 h2) e he
    rw [hb] at this
    simpa using this
  · obtain ⟨e, he, hb⟩ := Array.any_eq_true'.1 (List.all_eq_true.1 h3 i (List.mem_range.2 hi))
    simp only [Bool.and_eq_true, beq_iff_eq] at hb
    exact ⟨e, he, hb.1, hb.2⟩
  · have hi : i < l.length := by simpa using (Array.getElem?_eq_some_iff.1 hx).1
    have h5 := List.all_eq_true.1 h4 i (List.mem_range.2 hi)
    rw [hx] at h5
    simp only [Bool.and_eq_true] at h5
    refine ⟨fun e he hb => ?_, fun j b hg => ?_⟩
    · have := (Array.all_eq_true_iff_forall_mem.1 h5.1) e he
      rw [hb] at this
      simpa using this
    · have h6 := h5.2
      rw [hg] at h6
      simpa using h6

theorem ops_lt {i : Nat} (h : i < l.length) : (l ++ [o]).toArray[i]? = l.toArray[i]? := by
  simp only [List.getElem?_toArray]
  exact List.getElem?_append_left h
theorem ops_last : (l ++ [o]).toArray[l.length]? = some o := by simp
theorem push_lt {listed : Array Bool} {i : Nat} {d : Bool} (h : i < listed.size) : (listed.push false).getD i d = listed.getD i d := by
  simp only [Array.getD_eq_getD_getElem?]
  rw [Array.getElem?_push_lt h, Array.getElem?_eq_getElem h]

theorem ready_snoc (hok : SnocOk l o) {listed : Array Bool} (hs : listed.size = l.length) {i : Nat} (hi : i < l.length) :
    i ∈ Region.ready .any (l ++ [o]).toArray (listed.push false) ↔ i ∈ Region.ready .any l.toArray listed := by
  rw [mem_ready, mem_ready, push_lt (by omega), ops_lt hi]
  refine and_congr Iff.rfl (exists_congr fun x => and_congr_right fun hx => ?_)
  have hx' := hok.each i x hx
  refine forall_congr' fun e => forall_congr' fun he => forall_congr' fun hb => ?_
  have := hx'.1 e he hb
  rw [push_lt (by omega)]
/-- Nothing is ready: all is listed. -/
theorem all_listed (hok : SnocOk l o) {listed : Array Bool} (h : Region.ready .any l.toArray listed = []) : ∀ n i, i ≤ n → i < l.length → listed.getD i true = true := by
  intro n
  induction n using Nat.strongRecOn with
  | _ n ih =>
    intro i hin hi
    cases hl : listed.getD i true with
    | true => rfl
    | false =>
      exfalso
      have hx : l.toArray[i]? = some l[i] := by simp [hi]
      have hr : i ∈ Region.ready .any l.toArray listed := mem_ready.2 ⟨hl, _, hx, fun e he hb => by
        have h1 := (hok.each i _ hx).1 e he hb
        have h2 := ih e.on (by omega) e.on (Nat.le_refl _) (by omega)
        have hsz : i < listed.size := by
          rcases Nat.lt_or_ge i listed.size with h3 | h3
          · exact h3
          · simp [Array.getD_eq_getD_getElem?, Array.getElem?_eq_none h3] at hl
        simp only [Array.getD_eq_getD_getElem?] at h2 ⊢
        rw [Array.getElem?_eq_getElem (by omega)] at h2 ⊢
        exact h2⟩
      rw [h] at hr
      cases hr
theorem snocQ_wp {x : Oper} {a : Act} {w : World} {K : Act → World → Prop} (h : x.wp P a w K (snocQ P o Q)) : x.wp P a w K Q := by
  unfold Oper.wp at *
  generalize (execOp a.eval x).run P w = r at *
  cases r with
  | ok n w' =>
    cases n <;> simp only [Oper.upon] at h ⊢ <;>
      first
        | exact h
        | exact Calls.mono h (fun e w'' he => by cases e <;> exact he)
  | halt x w' => cases x <;> simp only [Oper.upon] at h ⊢ <;> exact h
theorem ready_none {ops : Array Oper} {listed : Array Bool} (h : ∀ j, listed.getD j true = true) : Region.ready .any ops listed = [] := by
  rw [List.eq_nil_iff_forall_not_mem]
  intro j hj
  have := (mem_ready.1 hj).1
  rw [h j] at this
  cases this
theorem wanted_snoc (hok : SnocOk l o) {i : Nat} {x : Oper} (hx : l.toArray[i]? = some x) (tmps : Array Value) :
    Region.wanted x (yielded (l ++ [o]).toArray tmps) = Region.wanted x (yielded l.toArray tmps) := by
  unfold Region.wanted
  split
  · rfl
  · rename_i j b hg
    have := (hok.each i x hx).2 j b hg
    unfold yielded
    rw [ops_lt this]

theorem last_snoc (hok : SnocOk l o) {listed : Array Bool} (hs : listed.size = l.length) {f : Nat} {a : Act} {w : World} (hr : Region.ready .any l.toArray listed = []) (h : snocQ P o Q .normal a w) :
    wpAny P .any (l ++ [o]).toArray Q (f + 1) (listed.push false) a w := by
  have hall := fun i hi => all_listed hok hr i i (Nat.le_refl _) hi
  have hlast : l.length ∈ Region.ready .any (l ++ [o]).toArray (listed.push false) := mem_ready.2 ⟨by simp [Array.getD_eq_getD_getElem?, ← hs], o, ops_last, fun e he hb => by
    have h1 := hok.low e he hb
    rw [push_lt (by omega)]
    have h2 := hall e.on h1
    simp only [Array.getD_eq_getD_getElem?] at h2 ⊢
    rw [Array.getElem?_eq_getElem (by omega)] at h2 ⊢
    exact h2⟩
  refine ⟨fun h0 => (by rw [h0] at hlast; cases hlast), fun i hi => ?_⟩
  have hi' : i < l.length + 1 := by
    obtain ⟨_, x, hx, _⟩ := mem_ready.1 hi
    simpa using (Array.getElem?_eq_some_iff.1 hx).1
  by_cases hin : i < l.length
  · have := (ready_snoc hok hs hin).1 hi
    rw [hr] at this
    cases this
  · obtain rfl : i = l.length := by omega
    unfold wpOp
    rw [ops_last]
    have hw : Region.wanted o (yielded (l ++ [o]).toArray a.tmps) = true := by unfold Region.wanted; rw [hok.g]
    simp only [hw, if_true]
    refine .inl (Oper.wp_mono (fun a w hq => ?_) h)
    have hnone : Region.ready .any (l ++ [o]).toArray ((listed.push false).setIfInBounds l.length true) = [] := ready_none fun j => by
      simp only [Array.getD_eq_getD_getElem?, Array.getElem?_setIfInBounds]
      by_cases hj : l.length = j
      · subst hj; simp [← hs]
      · rw [if_neg hj]
        by_cases hj2 : j < l.length
        · have h2 := hall j hj2
          simp only [Array.getD_eq_getD_getElem?] at h2
          rw [Array.getElem?_push_lt (by omega)]
          rwa [Array.getElem?_eq_getElem (by omega)] at h2
        · rw [Array.getElem?_eq_none (by simp; omega)]; rfl
    cases f with
    | zero => exact ⟨hnone, hq⟩
    | succ f => exact ⟨fun _ => hq, fun i hi => by rw [hnone] at hi; cases hi⟩

theorem wpAny_snoc (hok : SnocOk l o) : ∀ (f : Nat) (listed : Array Bool) (a : Act) (w : World), listed.size = l.length → wpAny P .any l.toArray (snocQ P o Q) f listed a w → wpAny P .any (l ++ [o]).toArray Q (f + 1) (listed.push false) a w
  | 0, listed, a, w, hs, h => last_snoc hok hs h.1 h.2
  | f + 1, listed, a, w, hs, h => by
    by_cases hr : Region.ready .any l.toArray listed = []
    · exact last_snoc hok hs hr (h.1 hr)
    · refine ⟨fun h0 => ?_, fun i hi => ?_⟩
      · obtain ⟨i, hi⟩ := List.exists_mem_of_ne_nil _ hr
        have hil : i < l.length := by
          obtain ⟨_, x, hx, _⟩ := mem_ready.1 hi
          simpa using (Array.getElem?_eq_some_iff.1 hx).1
        have := (ready_snoc hok hs hil).2 hi
        rw [h0] at this
        cases this
      · have hi' : i < l.length + 1 := by
          obtain ⟨_, x, hx, _⟩ := mem_ready.1 hi
          simpa using (Array.getElem?_eq_some_iff.1 hx).1
        by_cases hin : i < l.length
        · have hi2 := (ready_snoc hok hs hin).1 hi
          have h2 := h.2 i hi2
          have hx : l.toArray[i]? = some l[i] := by simp [hin]
          unfold wpOp at h2 ⊢
          rw [ops_lt hin]
          rw [hx] at h2 ⊢
          simp only [wanted_snoc hok hx] at h2 ⊢
          have hset : (listed.push false).setIfInBounds i true = (listed.setIfInBounds i true).push false := by
            apply Array.ext'
            simp [List.set_append_left, hs, hin]
          rw [hset]
          have hrec := fun a w => wpAny_snoc hok f (listed.setIfInBounds i true) a w (by simpa using hs)
          split
          · rename_i hw
            rw [if_pos hw] at h2
            rcases h2 with h2 | h2
            · exact .inl (Oper.wp_mono hrec (snocQ_wp h2))
            · exact .inr h2
          · rename_i hw
            rw [if_neg hw] at h2
            exact hrec _ _ h2
        · exfalso
          obtain rfl : i = l.length := by omega
          obtain ⟨_, x, hx, hall⟩ := mem_ready.1 hi
          rw [ops_last] at hx
          cases hx
          obtain ⟨j, hj⟩ := List.exists_mem_of_ne_nil _ hr
          obtain ⟨hjl, x, hx, _⟩ := mem_ready.1 hj
          have hjn : j < l.length := by simpa using (Array.getElem?_eq_some_iff.1 hx).1
          obtain ⟨e, he, hb, rfl⟩ := hok.all j hjn
          have h3 := hall e he hb
          rw [push_lt (by omega)] at h3
          simp only [Array.getD_eq_getD_getElem?] at h3 hjl
          rw [Array.getElem?_eq_getElem (by omega)] at h3 hjl
          simp at h3 hjl
          rw [h3] at hjl
          cases hjl

/-! ### The head reads under S, the tail stands in one order, the last one behind all -/
/-- The operations, one behind the other, each reading in every world that meets S; then C. -/
def stH (P : Program) (ops : Array Oper) (S : World → Prop) (C : Act → Prop) : List Oper → Act → Prop
  | [], a => C a
  | x :: rest, a => ∃ v, YieldsIf P ops S x v a ∧ stH P ops S C rest (a.put x.dst v)
@[irreducible] def StH (P : Program) (ops : Array Oper) (S : World → Prop) (C : Act → Prop) (l : List Oper) (a : Act) : Prop := stH P ops S C l a
theorem StH.out {ops : Array Oper} {S : World → Prop} {C : Act → Prop} {l : List Oper} {a : Act} (h : StH P ops S C l a) : stH P ops S C l a := by unfold StH at h; exact h
theorem StH.in_ {ops : Array Oper} {S : World → Prop} {C : Act → Prop} {l : List Oper} {a : Act} (h : stH P ops S C l a) : StH P ops S C l a := by unfold StH; exact h
theorem StH.nil {ops : Array Oper} {S : World → Prop} {C : Act → Prop} {a : Act} (h : C a) : StH P ops S C [] a := StH.in_ h
theorem StH.take {ops : Array Oper} {S : World → Prop} {C : Act → Prop} {a : Act} {x : Oper} {rest : List Oper} {v : Value} (hw : Region.wanted x (yielded ops a.tmps) = true) (hv : ∀ w, S w → (execOp a.eval x).run P w = .ok (.value v) w)
    (h : StH P ops S C rest (a.put x.dst v)) : StH P ops S C (x :: rest) a := StH.in_ ⟨v, .inl ⟨hw, hv⟩, h.out⟩
theorem StH.skip {ops : Array Oper} {S : World → Prop} {C : Act → Prop} {a : Act} {x : Oper} {rest : List Oper} (hw : Region.wanted x (yielded ops a.tmps) = false)
    (h : StH P ops S C rest (a.put x.dst undef)) : StH P ops S C (x :: rest) a := StH.in_ ⟨undef, .inr ⟨hw, rfl⟩, h.out⟩
/-- The operations in their order, S shown anew behind each; then C. -/
def tailH (P : Program) (Q : Exit → Act → World → Prop) (S : World → Prop) (C : Act → World → Prop) : List Oper → Act → World → Prop
  | [], a, w => C a w
  | x :: rest, a, w => x.guard = none ∧ x.wp P a w (fun a' w' => S w' ∧ tailH P Q S C rest a' w') Q
@[irreducible] def TailH (P : Program) (Q : Exit → Act → World → Prop) (S : World → Prop) (C : Act → World → Prop) (l : List Oper) (a : Act) (w : World) : Prop := tailH P Q S C l a w
theorem TailH.out {S : World → Prop} {C : Act → World → Prop} {l : List Oper} {a : Act} {w : World} (h : TailH P Q S C l a w) : tailH P Q S C l a w := by unfold TailH at h; exact h
theorem TailH.in_ {S : World → Prop} {C : Act → World → Prop} {l : List Oper} {a : Act} {w : World} (h : tailH P Q S C l a w) : TailH P Q S C l a w := by unfold TailH; exact h
theorem TailH.nil {S : World → Prop} {C : Act → World → Prop} {a : Act} {w : World} (h : C a w) : TailH P Q S C [] a w := TailH.in_ h
theorem TailH.step {S : World → Prop} {C : Act → World → Prop} {a : Act} {w : World} {x : Oper} {rest : List Oper} (hg : x.guard = none) (h : ∀ K : Act → World → Prop, (∀ a' w', S w' → TailH P Q S C rest a' w' → K a' w') → x.wp P a w K Q) :
    TailH P Q S C (x :: rest) a w := TailH.in_ ⟨hg, h _ fun _ _ h1 h2 => ⟨h1, h2.out⟩⟩

/-- By counting: the first f operations from number k on may be taken first, one behind the other; then g stand in one order. -/
def lexHeld (ops : Array Oper) (g : Nat) : Nat → Nat → Array Bool → Bool
  | 0, k, listed => Region.seqB .any ops g k listed
  | f + 1, k, listed => (Region.ready .any ops listed).contains k && Region.free .any ops listed k && lexHeld ops g f (k + 1) (listed.setIfInBounds k true)
theorem held_tail {ops : Array Oper} {S : World → Prop} : ∀ (l : List Oper) (k : Nat) (listed : Array Bool) (a : Act) (w : World), (∀ j, j < l.length → ops[k + j]? = l[j]?) → Region.seqB .any ops l.length k listed = true →
    tailH P Q S (fun a w => Q .normal a w) l a w → wpAnyH P .any ops Q S l.length listed a w
  | [], k, listed, a, w, _, hB, h => by
    exact ⟨by simpa [Region.seqB] using hB, h⟩
  | x :: l, k, listed, a, w, hl, hB, h => by
    have h0 : ops[k]? = some x := by simpa using hl 0 (by simp)
    simp only [List.length_cons, Region.seqB, Bool.and_eq_true, decide_eq_true_eq] at hB
    refine ⟨fun h1 => (by rw [hB.1] at h1; cases h1), fun i hi => ?_⟩
    rw [hB.1] at hi
    obtain rfl : i = k := by simpa using hi
    unfold wpOp
    rw [h0]
    have hw : Region.wanted x (yielded ops a.tmps) = true := by unfold Region.wanted; rw [h.1]
    simp only [hw, if_true]
    exact .inl (Oper.wp_mono (fun a' w' h' => ⟨h'.1, held_tail l (i + 1) _ a' w' (fun j hj => by have := hl (j + 1) (by simp; omega); simpa [Nat.add_assoc, Nat.add_comm 1 j] using this) hB.2 h'.2⟩) h.2)
theorem held_lex {ops : Array Oper} {S : World → Prop} (hs : Region.noSelect ops = true) (hQ : ∀ c a w, ¬ Q (.panic c) a w) (w : World) (hS : S w) (tl : List Oper) : ∀ (l : List Oper) (k : Nat) (listed : Array Bool) (a : Act), (∀ j, j < l.length → ops[k + j]? = l[j]?) →
    (∀ j, j < tl.length → ops[k + l.length + j]? = tl[j]?) → lexHeld ops tl.length l.length k listed = true → stH P ops S (fun a' => tailH P Q S (fun a w => Q .normal a w) tl a' w) l a → wpAnyH P .any ops Q S (l.length + tl.length) listed a w
  | [], k, listed, a, _, ht, hB, h => by
    rw [List.length_nil, Nat.zero_add]
    exact held_tail tl k listed a w (fun j hj => by simpa using ht j hj) (by simpa [lexHeld] using hB) h
  | x :: l, k, listed, a, hl, ht, hB, h => by
    obtain ⟨v, hy, h⟩ := h
    have h0 : ops[k]? = some x := by simpa using hl 0 (by simp)
    simp only [List.length_cons, lexHeld, Bool.and_eq_true] at hB
    obtain ⟨⟨hr, hf⟩, hB'⟩ := hB
    rw [List.length_cons, show l.length + 1 + tl.length = (l.length + tl.length) + 1 by omega]
    refine wpAnyH_take h0 hs hf hr (fun c a w h => absurd h (hQ _ _ _)) hy hS ?_
    exact held_lex hs hQ w hS tl l (k + 1) _ _ (fun j hj => by have := hl (j + 1) (by simp; omega); simpa [Nat.add_assoc, Nat.add_comm 1 j] using this)
      (fun j hj => by have := ht j hj; simpa [Nat.add_assoc, Nat.add_comm 1 l.length] using this) hB' h

theorem stH_mono {ops : Array Oper} {S : World → Prop} {C C' : Act → Prop} (hc : ∀ a, C a → C' a) : ∀ {l : List Oper} {a : Act}, stH P ops S C l a → stH P ops S C' l a
  | [], a, h => hc a h
  | x :: l, a, h => by
    obtain ⟨v, h1, h2⟩ := h
    exact ⟨v, h1, stH_mono hc h2⟩
theorem tailH_post {Q' : Exit → Act → World → Prop} {S : World → Prop} {C C' : Act → World → Prop} (hc : ∀ a w, C a w → C' a w) (hq : ∀ (x : Oper) a w K, x.wp P a w K Q → x.wp P a w K Q') : ∀ {l : List Oper} {a : Act} {w : World}, tailH P Q S C l a w → tailH P Q' S C' l a w
  | [], a, w, h => hc a w h
  | x :: l, a, w, h => by
    exact ⟨h.1, hq _ _ _ _ (Oper.wp_mono (fun a' w' h' => ⟨h'.1, tailH_post hc hq h'.2⟩) h.2)⟩
theorem toSnocQ {x : Oper} {a : Act} {w : World} {K : Act → World → Prop} (h : x.wp P a w K Q) : x.wp P a w K (snocQ P o Q) := by
  unfold Oper.wp at *
  generalize (execOp a.eval x).run P w = r at *
  cases r with
  | ok n w' =>
    cases n <;> simp only [Oper.upon] at h ⊢ <;>
      first
        | exact h
        | exact Calls.mono h (fun e w'' he => by cases e <;> exact he)
  | halt x w' => cases x <;> simp only [Oper.upon] at h ⊢ <;> exact h

def heldB (l : List Oper) (o : Oper) (n : Nat) : Bool := snocB l o && Region.noSelect l.toArray && decide (n ≤ l.length) && lexHeld l.toArray (l.length - n) n 0 (Array.replicate l.length false)
/-- The region: its first n operations read in every world that meets S; those behind them stand in one order and keep S; the last one waits for all. -/
theorem wp_region_last {id : Nat} {a : Act} {w : World} (S : World → Prop) (n : Nat) (hm : P.follows .mixedOrders = true) (hB : heldB l o n = true) (hS : S w.drew)
    (h : StH P l.toArray S (fun a' => TailH P (NoPanic Q) S (fun a w => o.wp P a w (fun a w => Q .normal a w) (NoPanic Q)) (l.drop n) a' w.drew) (l.take n) a) :
    (Code.region id (l ++ [o]).toArray true).wp P Q a w := by
  unfold heldB at hB
  simp only [Bool.and_eq_true, decide_eq_true_eq] at hB
  obtain ⟨⟨⟨h1, h2⟩, h3⟩, h4⟩ := hB
  have htl : (l.take n).length = n := by simp; omega
  have hdl : (l.drop n).length = l.length - n := by simp
  refine wp_region_noPanic (wp_region_any hm ?_)
  have hok := snoc_ok h1
  have hconv : stH P l.toArray S (fun a' => tailH P (snocQ P o (NoPanic Q)) S (fun a w => snocQ P o (NoPanic Q) .normal a w) (l.drop n) a' w.drew) (l.take n) a := by
    refine stH_mono (fun a' hT => tailH_post (fun a w h => h) (fun x a w K h => ?_) hT.out) h.out
    exact toSnocQ h
  have hH := held_lex (P := P) (Q := snocQ P o (NoPanic Q)) (S := S) (ops := l.toArray) h2 (fun c a w h => h) w.drew hS (l.drop n) (l.take n) 0 (Array.replicate l.length false) a
    (fun j hj => by rw [htl] at hj; simp [hj]) (fun j hj => by rw [htl]; simp [List.getElem?_drop]) (by rw [htl, hdl]; exact h4) hconv
  have hA := wpAny_of_held _ _ _ _ hH
  have := wpAny_snoc (P := P) (Q := NoPanic Q) hok _ _ _ _ (by simp) hA
  rw [htl, hdl, show n + (l.length - n) + 1 = (l ++ [o]).toArray.size by simp; omega, show (Array.replicate l.length false).push false = Array.replicate (l ++ [o]).toArray.size false by simp [Array.replicate_succ]] at this
  exact this

theorem wp_region_lastL {id : Nat} {a : Act} {w : World} {x : Oper} {xs : List Oper} (S : World → Prop) (n : Nat) (hm : P.follows .mixedOrders = true) (hB : heldB (x :: xs).dropLast ((x :: xs).getLast (List.cons_ne_nil _ _)) n = true) (hS : S w.drew)
    (h : StH P (x :: xs).dropLast.toArray S (fun a' => TailH P (NoPanic Q) S (fun a w => ((x :: xs).getLast (List.cons_ne_nil _ _)).wp P a w (fun a w => Q .normal a w) (NoPanic Q)) ((x :: xs).dropLast.drop n) a' w.drew) ((x :: xs).dropLast.take n) a) :
    (Code.region id (x :: xs).toArray true).wp P Q a w := by
  have := wp_region_last (P := P) (Q := Q) (id := id) (a := a) (w := w) S n hm hB hS h
  rwa [List.dropLast_concat_getLast] at this

end
end Go.Proofs.Ytfekllnalacggaa
